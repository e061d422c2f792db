import Derived.Test.YtogenjbabgibbaaKF
import Derived.Laws.Cells
import Derived.Shelf.Abstract
namespace Go.Proofs.Ytogenjbabgibbaa
open Go.RowKit
theorem run_loadFrom (W : World) (a : Addr) (cs : List Value) (k : Nat) (hk : cs.length = k) (h : ∀ j v, cs[j]? = some v → W.cell? (a.add j) = some v) :
    Sem.run Try.prog (loadCellsFrom a 0 k #[]) W = .ok cs.toArray W := by
  have := run_loadCells_list (P := Try.prog) (w := W) a cs h
  rw [hk] at this
  simpa [loadCells] using this
/-- a predicate called with elements of a list, in worlds grown from w -/
def PredI {α : Type} (g : Nat) (pre post : Array Value) (R : Rep α) (l : List α) (p : α → Bool) (w : World) : Prop :=
  ∀ (W : World) (x : α) (es : List Value), x ∈ l → Below w.heap.size w W → R W es x → Calls Try.prog g (pre ++ #[.agg es.toArray] ++ post) W fun e w' => e = .returned (.bool (p x)) ∧ Below W.heap.size W w'
theorem idx_hit {α : Type} {p : α → Bool} {l : List α} {k : Nat} (hk : k < l.length) (h : p l[k] = true) : decide ((0 : Int) ≤ (k : Int)) = l.any p := by
  rw [decide_eq_true (by omega)]
  exact (List.any_eq_true.2 ⟨l[k], List.getElem_mem hk, h⟩).symm
theorem idx_miss {α : Type} {p : α → Bool} {l : List α} (h : PreP (fun x => !p x) l l.length) : decide ((0 : Int) ≤ (-1 : Int)) = l.any p := by
  have := h.all (Nat.le_refl _)
  rw [List.any_eq_not_all_not, this]; rfl
theorem idxU_len {w : World} {es : List Value} {x : UnitD} (h : RUnitD w es x) : es.length = 5 := by
  obtain ⟨rfl, _⟩ := h.flat; rfl
set_option maxRecDepth 20000 in
set_option maxHeartbeats 4000000 in
theorem idxU (a : Option Addr) (cap : Nat) (l : List UnitD) (g : Nat) (pre post : Array Value) (p : UnitD → Bool) (w : World) (hl : Sl 5 RUnitD w a l) (hp : PredI g pre post RUnitD l p w) (hlen : l.length ≤ 100000)
    (eg : ∀ args w, (callFunc g args).run Try.prog w = .ok (.enter g args) w) :
    Calls Try.prog 74 #[.slice a l.length cap, .func (.func g) pre post] w fun e w' => (∃ r : Int, e = .returned (.int .i64 r) ∧ decide (0 ≤ r) = l.any p) ∧ Below w.heap.size w w' := by
  have Hl := Lib.hid hl
  have Hp := Lib.hid hp
  clear hl hp
  go_enter Try.func74, Try.ntmps74
  go_wp2_with fail
  go_loopw [8] (fun i wr => ∃ k : Nat, k ≤ l.length ∧ i = .int .i64 k ∧ Hid (PreP (fun x => !p x) l k) ∧ Hid (Below w.heap.size w wr)) (fun i _ => l.length - (intOf i).toNat)
  case atStart => exact ⟨0, Nat.zero_le _, rfl, Lib.hid PreP.zero, Lib.hid (Below.refl _ _)⟩
  case round =>
    obtain ⟨k, hk, rfl, Hn, Hb⟩ := hrel
    by_cases hlt : k < l.length
    case pos =>
      have hlt' : (k : Int) < (l.length : Int) := by omega
      obtain ⟨b, off, e1, hb2, es, hr, hc⟩ := Hl.out k hlt
      subst e1
      have hmem := List.getElem_mem hlt
      have hsuc := fun h => Hn.out.succ hlt h
      have hhit := fun h => idx_hit (p := p) hlt h
      generalize l[k] = x at *
      obtain ⟨rfl, _⟩ := RUnitD.flat hr
      have c0 : wr.cell? ⟨b, off + k * 5, none⟩ = some (.string x.name) := (Hb.out.cell (p := ⟨b, off + k * 5 + 0, none⟩) hb2).trans (hc 0 (by decide))
      have c1 : wr.cell? ⟨b, off + k * 5 + 1, none⟩ = some (.string x.of_) := (Hb.out.cell (p := ⟨b, off + k * 5 + 1, none⟩) hb2).trans (hc 1 (by decide))
      have c2 : wr.cell? ⟨b, off + k * 5 + 2, none⟩ = some (.int .i64 x.factor) := (Hb.out.cell (p := ⟨b, off + k * 5 + 2, none⟩) hb2).trans (hc 2 (by decide))
      have c3 : wr.cell? ⟨b, off + k * 5 + 3, none⟩ = some (.int .i64 x.base) := (Hb.out.cell (p := ⟨b, off + k * 5 + 3, none⟩) hb2).trans (hc 3 (by decide))
      have c4 : wr.cell? ⟨b, off + k * 5 + 4, none⟩ = some (.int .i64 x.scale) := (Hb.out.cell (p := ⟨b, off + k * 5 + 4, none⟩) hb2).trans (hc 4 (by decide))
      have hcall : Calls Try.prog g (pre ++ #[.agg #[.string x.name, .string x.of_, .int .i64 x.factor, .int .i64 x.base, .int .i64 x.scale]] ++ post) wr _ := Hp.out wr x _ hmem Hb.out (RUnitD.stab _ _ _ _ hr Hb.out)
      clear hr hc hmem
      cases hq : p x with
      | true =>
        have Hh := Lib.hid (hhit hq)
        rw [hq] at hcall
        clear hsuc hhit hq
        go_wp2_with (go_at_fn g; refine hcall.mono ?_; rintro e w' ⟨rfl, hb'⟩)
        go_ret
        exact ⟨⟨_, rfl, Hh.out⟩, Hb.out.trans (hb'.mono Hb.out.size)⟩
      | false =>
        have Hs := Lib.hid (hsuc (by simp [hq]))
        rw [hq] at hcall
        clear hsuc hhit hq
        go_wp2_with (go_at_fn g; refine hcall.mono ?_; rintro e w' ⟨rfl, hb'⟩)
        go_roundw
        case rel => exact ⟨k + 1, by omega, by go_num, Hs, Lib.hid (Hb.out.trans (hb'.mono Hb.out.size))⟩
        case measure => simp [intOf]; omega
    case neg =>
      have hltz : ¬ (k : Int) < (l.length : Int) := by omega
      have : k = l.length := by omega
      subst this
      have Hm := Lib.hid (idx_miss Hn.out)
      clear Hn
      go_wp2_with fail
      go_ret
      exact ⟨⟨_, rfl, Hm.out⟩, Hb.out⟩
theorem conU (a : Option Addr) (cap : Nat) (l : List UnitD) (g : Nat) (pre post : Array Value) (p : UnitD → Bool) (w : World) (hl : Sl 5 RUnitD w a l) (hp : PredI g pre post RUnitD l p w) (hlen : l.length ≤ 100000)
    (eg : ∀ args w, (callFunc g args).run Try.prog w = .ok (.enter g args) w) :
    Calls Try.prog 57 #[.slice a l.length cap, .func (.func g) pre post] w fun e w' => e = .returned (.bool (l.any p)) ∧ Below w.heap.size w w' := by
  have Hc := Lib.hid (idxU a cap l g pre post p w hl hp hlen eg)
  clear hl hp
  go_enter Try.func57, Try.ntmps57
  go_wp2_with (go_at_call 74; refine Hc.out.mono ?_; rintro e w' ⟨⟨r, rfl, hr⟩, hb'⟩)
  go_ret
  exact ⟨by first | rfl | simp [hr], hb'⟩
theorem idxS_len {w : World} {es : List Value} {x : SchemaD} (h : RSchemaD w es x) : es.length = 6 := by
  obtain ⟨_, _, _, _, rfl, _⟩ := h.flat; rfl
set_option maxRecDepth 20000 in
set_option maxHeartbeats 4000000 in
theorem idxS (a : Option Addr) (cap : Nat) (l : List SchemaD) (g : Nat) (pre post : Array Value) (p : SchemaD → Bool) (w : World) (hl : Sl 6 RSchemaD w a l) (hp : PredI g pre post RSchemaD l p w) (hlen : l.length ≤ 100000)
    (eg : ∀ args w, (callFunc g args).run Try.prog w = .ok (.enter g args) w) :
    Calls Try.prog 75 #[.slice a l.length cap, .func (.func g) pre post] w fun e w' => (∃ r : Int, e = .returned (.int .i64 r) ∧ decide (0 ≤ r) = l.any p) ∧ Below w.heap.size w w' := by
  have Hl := Lib.hid hl
  have Hp := Lib.hid hp
  clear hl hp
  go_enter Try.func75, Try.ntmps75
  go_wp2_with fail
  go_loopw [8] (fun i wr => ∃ k : Nat, k ≤ l.length ∧ i = .int .i64 k ∧ Hid (PreP (fun x => !p x) l k) ∧ Hid (Below w.heap.size w wr)) (fun i _ => l.length - (intOf i).toNat)
  case atStart => exact ⟨0, Nat.zero_le _, rfl, Lib.hid PreP.zero, Lib.hid (Below.refl _ _)⟩
  case round =>
    obtain ⟨k, hk, rfl, Hn, Hb⟩ := hrel
    by_cases hlt : k < l.length
    case pos =>
      have hlt' : (k : Int) < (l.length : Int) := by omega
      obtain ⟨b, off, e1, hb2, es, hr, hc⟩ := Hl.out k hlt
      subst e1
      have hmem := List.getElem_mem hlt
      have hsuc := fun h => Hn.out.succ hlt h
      have hhit := fun h => idx_hit (p := p) hlt h
      generalize l[k] = x at *
      obtain ⟨a0, k0, a1, k1, rfl, _⟩ := RSchemaD.flat hr
      have c0 : wr.cell? ⟨b, off + k * 6, none⟩ = some (.string x.name) := (Hb.out.cell (p := ⟨b, off + k * 6 + 0, none⟩) hb2).trans (hc 0 (by decide))
      have c1 : wr.cell? ⟨b, off + k * 6 + 1, none⟩ = some (.string x.by_) := (Hb.out.cell (p := ⟨b, off + k * 6 + 1, none⟩) hb2).trans (hc 1 (by decide))
      have c2 : wr.cell? ⟨b, off + k * 6 + 2, none⟩ = some (.int .i64 x.issuer) := (Hb.out.cell (p := ⟨b, off + k * 6 + 2, none⟩) hb2).trans (hc 2 (by decide))
      have c3 : wr.cell? ⟨b, off + k * 6 + 3, none⟩ = some (.int .i64 x.version) := (Hb.out.cell (p := ⟨b, off + k * 6 + 3, none⟩) hb2).trans (hc 3 (by decide))
      have c4 : wr.cell? ⟨b, off + k * 6 + 4, none⟩ = some (.slice a0 x.fields.length k0) := (Hb.out.cell (p := ⟨b, off + k * 6 + 4, none⟩) hb2).trans (hc 4 (by decide))
      have c5 : wr.cell? ⟨b, off + k * 6 + 5, none⟩ = some (.slice a1 x.depends k1) := (Hb.out.cell (p := ⟨b, off + k * 6 + 5, none⟩) hb2).trans (hc 5 (by decide))
      have hcall : Calls Try.prog g (pre ++ #[.agg #[.string x.name, .string x.by_, .int .i64 x.issuer, .int .i64 x.version, .slice a0 x.fields.length k0, .slice a1 x.depends k1]] ++ post) wr _ := Hp.out wr x _ hmem Hb.out (RSchemaD.stab _ _ _ _ hr Hb.out)
      clear hr hc hmem
      cases hq : p x with
      | true =>
        have Hh := Lib.hid (hhit hq)
        rw [hq] at hcall
        clear hsuc hhit hq
        go_wp2_with (go_at_fn g; refine hcall.mono ?_; rintro e w' ⟨rfl, hb'⟩)
        go_ret
        exact ⟨⟨_, rfl, Hh.out⟩, Hb.out.trans (hb'.mono Hb.out.size)⟩
      | false =>
        have Hs := Lib.hid (hsuc (by simp [hq]))
        rw [hq] at hcall
        clear hsuc hhit hq
        go_wp2_with (go_at_fn g; refine hcall.mono ?_; rintro e w' ⟨rfl, hb'⟩)
        go_roundw
        case rel => exact ⟨k + 1, by omega, by go_num, Hs, Lib.hid (Hb.out.trans (hb'.mono Hb.out.size))⟩
        case measure => simp [intOf]; omega
    case neg =>
      have hltz : ¬ (k : Int) < (l.length : Int) := by omega
      have : k = l.length := by omega
      subst this
      have Hm := Lib.hid (idx_miss Hn.out)
      clear Hn
      go_wp2_with fail
      go_ret
      exact ⟨⟨_, rfl, Hm.out⟩, Hb.out⟩
theorem conS (a : Option Addr) (cap : Nat) (l : List SchemaD) (g : Nat) (pre post : Array Value) (p : SchemaD → Bool) (w : World) (hl : Sl 6 RSchemaD w a l) (hp : PredI g pre post RSchemaD l p w) (hlen : l.length ≤ 100000)
    (eg : ∀ args w, (callFunc g args).run Try.prog w = .ok (.enter g args) w) :
    Calls Try.prog 59 #[.slice a l.length cap, .func (.func g) pre post] w fun e w' => e = .returned (.bool (l.any p)) ∧ Below w.heap.size w w' := by
  have Hc := Lib.hid (idxS a cap l g pre post p w hl hp hlen eg)
  clear hl hp
  go_enter Try.func59, Try.ntmps59
  go_wp2_with (go_at_call 75; refine Hc.out.mono ?_; rintro e w' ⟨⟨r, rfl, hr⟩, hb'⟩)
  go_ret
  exact ⟨by first | rfl | simp [hr], hb'⟩
theorem idxR_len {w : World} {es : List Value} {x : RuleD} (h : RRuleD w es x) : es.length = 5 := by
  obtain ⟨_, _, _, _, _, _, rfl, _⟩ := h.flat; rfl
set_option maxRecDepth 20000 in
set_option maxHeartbeats 4000000 in
theorem idxR (a : Option Addr) (cap : Nat) (l : List RuleD) (g : Nat) (pre post : Array Value) (p : RuleD → Bool) (w : World) (hl : Sl 5 RRuleD w a l) (hp : PredI g pre post RRuleD l p w) (hlen : l.length ≤ 100000)
    (eg : ∀ args w, (callFunc g args).run Try.prog w = .ok (.enter g args) w) :
    Calls Try.prog 76 #[.slice a l.length cap, .func (.func g) pre post] w fun e w' => (∃ r : Int, e = .returned (.int .i64 r) ∧ decide (0 ≤ r) = l.any p) ∧ Below w.heap.size w w' := by
  have Hl := Lib.hid hl
  have Hp := Lib.hid hp
  clear hl hp
  go_enter Try.func76, Try.ntmps76
  go_wp2_with fail
  go_loopw [8] (fun i wr => ∃ k : Nat, k ≤ l.length ∧ i = .int .i64 k ∧ Hid (PreP (fun x => !p x) l k) ∧ Hid (Below w.heap.size w wr)) (fun i _ => l.length - (intOf i).toNat)
  case atStart => exact ⟨0, Nat.zero_le _, rfl, Lib.hid PreP.zero, Lib.hid (Below.refl _ _)⟩
  case round =>
    obtain ⟨k, hk, rfl, Hn, Hb⟩ := hrel
    by_cases hlt : k < l.length
    case pos =>
      have hlt' : (k : Int) < (l.length : Int) := by omega
      obtain ⟨b, off, e1, hb2, es, hr, hc⟩ := Hl.out k hlt
      subst e1
      have hmem := List.getElem_mem hlt
      have hsuc := fun h => Hn.out.succ hlt h
      have hhit := fun h => idx_hit (p := p) hlt h
      generalize l[k] = x at *
      obtain ⟨a0, k0, a1, k1, a2, k2, rfl, _⟩ := RRuleD.flat hr
      have c0 : wr.cell? ⟨b, off + k * 5, none⟩ = some (.string x.head) := (Hb.out.cell (p := ⟨b, off + k * 5 + 0, none⟩) hb2).trans (hc 0 (by decide))
      have c1 : wr.cell? ⟨b, off + k * 5 + 1, none⟩ = some (.int .i64 x.schema) := (Hb.out.cell (p := ⟨b, off + k * 5 + 1, none⟩) hb2).trans (hc 1 (by decide))
      have c2 : wr.cell? ⟨b, off + k * 5 + 2, none⟩ = some (.slice a0 x.froms.length k0) := (Hb.out.cell (p := ⟨b, off + k * 5 + 2, none⟩) hb2).trans (hc 2 (by decide))
      have c3 : wr.cell? ⟨b, off + k * 5 + 3, none⟩ = some (.slice a1 x.where_.length k1) := (Hb.out.cell (p := ⟨b, off + k * 5 + 3, none⟩) hb2).trans (hc 3 (by decide))
      have c4 : wr.cell? ⟨b, off + k * 5 + 4, none⟩ = some (.slice a2 x.sets.length k2) := (Hb.out.cell (p := ⟨b, off + k * 5 + 4, none⟩) hb2).trans (hc 4 (by decide))
      have hcall : Calls Try.prog g (pre ++ #[.agg #[.string x.head, .int .i64 x.schema, .slice a0 x.froms.length k0, .slice a1 x.where_.length k1, .slice a2 x.sets.length k2]] ++ post) wr _ := Hp.out wr x _ hmem Hb.out (RRuleD.stab _ _ _ _ hr Hb.out)
      clear hr hc hmem
      cases hq : p x with
      | true =>
        have Hh := Lib.hid (hhit hq)
        rw [hq] at hcall
        clear hsuc hhit hq
        go_wp2_with (go_at_fn g; refine hcall.mono ?_; rintro e w' ⟨rfl, hb'⟩)
        go_ret
        exact ⟨⟨_, rfl, Hh.out⟩, Hb.out.trans (hb'.mono Hb.out.size)⟩
      | false =>
        have Hs := Lib.hid (hsuc (by simp [hq]))
        rw [hq] at hcall
        clear hsuc hhit hq
        go_wp2_with (go_at_fn g; refine hcall.mono ?_; rintro e w' ⟨rfl, hb'⟩)
        go_roundw
        case rel => exact ⟨k + 1, by omega, by go_num, Hs, Lib.hid (Hb.out.trans (hb'.mono Hb.out.size))⟩
        case measure => simp [intOf]; omega
    case neg =>
      have hltz : ¬ (k : Int) < (l.length : Int) := by omega
      have : k = l.length := by omega
      subst this
      have Hm := Lib.hid (idx_miss Hn.out)
      clear Hn
      go_wp2_with fail
      go_ret
      exact ⟨⟨_, rfl, Hm.out⟩, Hb.out⟩
theorem conR (a : Option Addr) (cap : Nat) (l : List RuleD) (g : Nat) (pre post : Array Value) (p : RuleD → Bool) (w : World) (hl : Sl 5 RRuleD w a l) (hp : PredI g pre post RRuleD l p w) (hlen : l.length ≤ 100000)
    (eg : ∀ args w, (callFunc g args).run Try.prog w = .ok (.enter g args) w) :
    Calls Try.prog 61 #[.slice a l.length cap, .func (.func g) pre post] w fun e w' => e = .returned (.bool (l.any p)) ∧ Below w.heap.size w w' := by
  have Hc := Lib.hid (idxR a cap l g pre post p w hl hp hlen eg)
  clear hl hp
  go_enter Try.func61, Try.ntmps61
  go_wp2_with (go_at_call 76; refine Hc.out.mono ?_; rintro e w' ⟨⟨r, rfl, hr⟩, hb'⟩)
  go_ret
  exact ⟨by first | rfl | simp [hr], hb'⟩
theorem idxP_len {w : World} {es : List Value} {x : PurposeD} (h : RPurposeD w es x) : es.length = 3 := by
  obtain ⟨_, _, rfl, _⟩ := h.flat; rfl
set_option maxRecDepth 20000 in
set_option maxHeartbeats 4000000 in
theorem idxP (a : Option Addr) (cap : Nat) (l : List PurposeD) (g : Nat) (pre post : Array Value) (p : PurposeD → Bool) (w : World) (hl : Sl 3 RPurposeD w a l) (hp : PredI g pre post RPurposeD l p w) (hlen : l.length ≤ 100000)
    (eg : ∀ args w, (callFunc g args).run Try.prog w = .ok (.enter g args) w) :
    Calls Try.prog 71 #[.slice a l.length cap, .func (.func g) pre post] w fun e w' => (∃ r : Int, e = .returned (.int .i64 r) ∧ decide (0 ≤ r) = l.any p) ∧ Below w.heap.size w w' := by
  have Hl := Lib.hid hl
  have Hp := Lib.hid hp
  clear hl hp
  go_enter Try.func71, Try.ntmps71
  go_wp2_with fail
  go_loopw [8] (fun i wr => ∃ k : Nat, k ≤ l.length ∧ i = .int .i64 k ∧ Hid (PreP (fun x => !p x) l k) ∧ Hid (Below w.heap.size w wr)) (fun i _ => l.length - (intOf i).toNat)
  case atStart => exact ⟨0, Nat.zero_le _, rfl, Lib.hid PreP.zero, Lib.hid (Below.refl _ _)⟩
  case round =>
    obtain ⟨k, hk, rfl, Hn, Hb⟩ := hrel
    by_cases hlt : k < l.length
    case pos =>
      have hlt' : (k : Int) < (l.length : Int) := by omega
      obtain ⟨b, off, e1, hb2, es, hr, hc⟩ := Hl.out k hlt
      subst e1
      have hmem := List.getElem_mem hlt
      have hsuc := fun h => Hn.out.succ hlt h
      have hhit := fun h => idx_hit (p := p) hlt h
      generalize l[k] = x at *
      obtain ⟨a0, k0, rfl, _⟩ := RPurposeD.flat hr
      have c0 : wr.cell? ⟨b, off + k * 3, none⟩ = some (.string x.name) := (Hb.out.cell (p := ⟨b, off + k * 3 + 0, none⟩) hb2).trans (hc 0 (by decide))
      have c1 : wr.cell? ⟨b, off + k * 3 + 1, none⟩ = some (.slice a0 x.may.length k0) := (Hb.out.cell (p := ⟨b, off + k * 3 + 1, none⟩) hb2).trans (hc 1 (by decide))
      have c2 : wr.cell? ⟨b, off + k * 3 + 2, none⟩ = some (.int .i64 x.most) := (Hb.out.cell (p := ⟨b, off + k * 3 + 2, none⟩) hb2).trans (hc 2 (by decide))
      have hcall : Calls Try.prog g (pre ++ #[.agg #[.string x.name, .slice a0 x.may.length k0, .int .i64 x.most]] ++ post) wr _ := Hp.out wr x _ hmem Hb.out (RPurposeD.stab _ _ _ _ hr Hb.out)
      clear hr hc hmem
      cases hq : p x with
      | true =>
        have Hh := Lib.hid (hhit hq)
        rw [hq] at hcall
        clear hsuc hhit hq
        go_wp2_with (go_at_fn g; refine hcall.mono ?_; rintro e w' ⟨rfl, hb'⟩)
        go_ret
        exact ⟨⟨_, rfl, Hh.out⟩, Hb.out.trans (hb'.mono Hb.out.size)⟩
      | false =>
        have Hs := Lib.hid (hsuc (by simp [hq]))
        rw [hq] at hcall
        clear hsuc hhit hq
        go_wp2_with (go_at_fn g; refine hcall.mono ?_; rintro e w' ⟨rfl, hb'⟩)
        go_roundw
        case rel => exact ⟨k + 1, by omega, by go_num, Hs, Lib.hid (Hb.out.trans (hb'.mono Hb.out.size))⟩
        case measure => simp [intOf]; omega
    case neg =>
      have hltz : ¬ (k : Int) < (l.length : Int) := by omega
      have : k = l.length := by omega
      subst this
      have Hm := Lib.hid (idx_miss Hn.out)
      clear Hn
      go_wp2_with fail
      go_ret
      exact ⟨⟨_, rfl, Hm.out⟩, Hb.out⟩
theorem conP (a : Option Addr) (cap : Nat) (l : List PurposeD) (g : Nat) (pre post : Array Value) (p : PurposeD → Bool) (w : World) (hl : Sl 3 RPurposeD w a l) (hp : PredI g pre post RPurposeD l p w) (hlen : l.length ≤ 100000)
    (eg : ∀ args w, (callFunc g args).run Try.prog w = .ok (.enter g args) w) :
    Calls Try.prog 51 #[.slice a l.length cap, .func (.func g) pre post] w fun e w' => e = .returned (.bool (l.any p)) ∧ Below w.heap.size w w' := by
  have Hc := Lib.hid (idxP a cap l g pre post p w hl hp hlen eg)
  clear hl hp
  go_enter Try.func51, Try.ntmps51
  go_wp2_with (go_at_call 71; refine Hc.out.mono ?_; rintro e w' ⟨⟨r, rfl, hr⟩, hb'⟩)
  go_ret
  exact ⟨by first | rfl | simp [hr], hb'⟩

end Go.Proofs.Ytogenjbabgibbaa
