import Derived.Test.YtogenjbabgibbaaKZ0
namespace Go.Proofs.Ytogenjbabgibbaa
open Go.RowKit
theorem all_not {α : Type} (l : List α) (p : α → Bool) : (!l.any (fun x => !p x)) = l.all p := by rw [List.any_eq_not_all_not]; simp
theorem PredI.mono {α : Type} {g : Nat} {pre post : Array Value} {R : Rep α} {l : List α} {p : α → Bool} {w w' : World} (h : PredI g pre post R l p w) (hb : Below w.heap.size w w') : PredI g pre post R l p w' :=
  fun W x es hx hb' hr => h W x es hx (hb.trans (hb'.mono hb.size)) hr

set_option maxRecDepth 20000 in
theorem notU (b0 : Nat) (l : List UnitD) (g : Nat) (pre post : Array Value) (p : UnitD → Bool) (w : World) (hb0 : b0 < w.heap.size) (hc : w.cell? ⟨b0, 0, none⟩ = some (.func (.func g) pre post)) (hp : PredI g pre post RUnitD l p w)
    (eg : ∀ args w, (callFunc g args).run Try.prog w = .ok (.enter g args) w) :
    PredI 58 #[] #[.pointer (some ⟨b0, 0, none⟩)] RUnitD l (fun x => !p x) w := fun W x es hx hb hr => by
  obtain ⟨rfl, _⟩ := RUnitD.flat hr
  have hW : W.cell? ⟨b0, 0, none⟩ = some (.func (.func g) pre post) := (hb.cell (p := ⟨b0, 0, none⟩) hb0).trans hc
  have hb1 : b0 < W.heap.size := Nat.lt_of_lt_of_le hb0 hb.size
  have hne : b0 ≠ W.heap.size := by omega
  have Hb := Lib.hid hb
  have Hr := Lib.hid hr
  have Hp := Lib.hid hp
  clear hb hr hp
  show Calls Try.prog 58 #[.agg #[.string x.name, .string x.of_, .int .i64 x.factor, .int .i64 x.base, .int .i64 x.scale], .pointer (some ⟨b0, 0, none⟩)] W _
  go_enter Try.func58, Try.ntmps58
  go_wp2_with (go_at_fn g; refine (Hp.out _ x [.string x.name, .string x.of_, .int .i64 x.factor, .int .i64 x.base, .int .i64 x.scale] hx (Hb.out.alloc Hb.out.size _) (RUnitD.stab _ _ _ _ Hr.out (alloc1 _ _ _))).mono ?_; rintro e w' ⟨rfl, hb'⟩)
  go_ret
  exact ⟨by first | rfl | simp, (alloc1 _ _ _).trans (hb'.mono (by simp))⟩
set_option maxRecDepth 20000 in
theorem allU (a : Option Addr) (cap : Nat) (l : List UnitD) (g : Nat) (pre post : Array Value) (p : UnitD → Bool) (w : World) (hl : Sl 5 RUnitD w a l) (hp : PredI g pre post RUnitD l p w) (hlen : l.length ≤ 100000)
    (eg : ∀ args w, (callFunc g args).run Try.prog w = .ok (.enter g args) w) (r : Bool) (hr : l.all p = r) :
    Calls Try.prog 26 #[.slice a l.length cap, .func (.func g) pre post] w fun e w' => e = .returned (.bool r) ∧ Below w.heap.size w w' := by
  subst hr
  have Hc := Lib.hid (conU a cap l 58 #[] #[.pointer (some ⟨w.heap.size, 0, none⟩)] (fun x => !p x) (w.alloc (.cells #[.func (.func g) pre post] 86)) (hl.below RUnitD.stab (alloc1 _ _ _))
    (notU w.heap.size l g pre post p _ (by simp) (by simp) (hp.mono (alloc1 _ _ _)) eg) hlen (enters_of Try.func58 (by kernel_rfl) rfl))
  rw [← all_not]
  clear hl hp
  go_enter Try.func26, Try.ntmps26
  go_wp2_with (go_at_call 57; refine Hc.out.mono ?_; rintro e w' ⟨rfl, hb'⟩)
  go_ret
  exact ⟨by first | rfl | simp, (alloc1 _ _ _).trans (hb'.mono (by simp))⟩

set_option maxRecDepth 20000 in
theorem notS (b0 : Nat) (l : List SchemaD) (g : Nat) (pre post : Array Value) (p : SchemaD → Bool) (w : World) (hb0 : b0 < w.heap.size) (hc : w.cell? ⟨b0, 0, none⟩ = some (.func (.func g) pre post)) (hp : PredI g pre post RSchemaD l p w)
    (eg : ∀ args w, (callFunc g args).run Try.prog w = .ok (.enter g args) w) :
    PredI 60 #[] #[.pointer (some ⟨b0, 0, none⟩)] RSchemaD l (fun x => !p x) w := fun W x es hx hb hr => by
  obtain ⟨a0, k0, a1, k1, rfl, _⟩ := RSchemaD.flat hr
  have hW : W.cell? ⟨b0, 0, none⟩ = some (.func (.func g) pre post) := (hb.cell (p := ⟨b0, 0, none⟩) hb0).trans hc
  have hb1 : b0 < W.heap.size := Nat.lt_of_lt_of_le hb0 hb.size
  have hne : b0 ≠ W.heap.size := by omega
  have Hb := Lib.hid hb
  have Hr := Lib.hid hr
  have Hp := Lib.hid hp
  clear hb hr hp
  show Calls Try.prog 60 #[.agg #[.string x.name, .string x.by_, .int .i64 x.issuer, .int .i64 x.version, .slice a0 x.fields.length k0, .slice a1 x.depends k1], .pointer (some ⟨b0, 0, none⟩)] W _
  go_enter Try.func60, Try.ntmps60
  go_wp2_with (go_at_fn g; refine (Hp.out _ x [.string x.name, .string x.by_, .int .i64 x.issuer, .int .i64 x.version, .slice a0 x.fields.length k0, .slice a1 x.depends k1] hx (Hb.out.alloc Hb.out.size _) (RSchemaD.stab _ _ _ _ Hr.out (alloc1 _ _ _))).mono ?_; rintro e w' ⟨rfl, hb'⟩)
  go_ret
  exact ⟨by first | rfl | simp, (alloc1 _ _ _).trans (hb'.mono (by simp))⟩
set_option maxRecDepth 20000 in
theorem allS (a : Option Addr) (cap : Nat) (l : List SchemaD) (g : Nat) (pre post : Array Value) (p : SchemaD → Bool) (w : World) (hl : Sl 6 RSchemaD w a l) (hp : PredI g pre post RSchemaD l p w) (hlen : l.length ≤ 100000)
    (eg : ∀ args w, (callFunc g args).run Try.prog w = .ok (.enter g args) w) (r : Bool) (hr : l.all p = r) :
    Calls Try.prog 28 #[.slice a l.length cap, .func (.func g) pre post] w fun e w' => e = .returned (.bool r) ∧ Below w.heap.size w w' := by
  subst hr
  have Hc := Lib.hid (conS a cap l 60 #[] #[.pointer (some ⟨w.heap.size, 0, none⟩)] (fun x => !p x) (w.alloc (.cells #[.func (.func g) pre post] 88)) (hl.below RSchemaD.stab (alloc1 _ _ _))
    (notS w.heap.size l g pre post p _ (by simp) (by simp) (hp.mono (alloc1 _ _ _)) eg) hlen (enters_of Try.func60 (by kernel_rfl) rfl))
  rw [← all_not]
  clear hl hp
  go_enter Try.func28, Try.ntmps28
  go_wp2_with (go_at_call 59; refine Hc.out.mono ?_; rintro e w' ⟨rfl, hb'⟩)
  go_ret
  exact ⟨by first | rfl | simp, (alloc1 _ _ _).trans (hb'.mono (by simp))⟩

set_option maxRecDepth 20000 in
theorem notR (b0 : Nat) (l : List RuleD) (g : Nat) (pre post : Array Value) (p : RuleD → Bool) (w : World) (hb0 : b0 < w.heap.size) (hc : w.cell? ⟨b0, 0, none⟩ = some (.func (.func g) pre post)) (hp : PredI g pre post RRuleD l p w)
    (eg : ∀ args w, (callFunc g args).run Try.prog w = .ok (.enter g args) w) :
    PredI 62 #[] #[.pointer (some ⟨b0, 0, none⟩)] RRuleD l (fun x => !p x) w := fun W x es hx hb hr => by
  obtain ⟨a0, k0, a1, k1, a2, k2, rfl, _⟩ := RRuleD.flat hr
  have hW : W.cell? ⟨b0, 0, none⟩ = some (.func (.func g) pre post) := (hb.cell (p := ⟨b0, 0, none⟩) hb0).trans hc
  have hb1 : b0 < W.heap.size := Nat.lt_of_lt_of_le hb0 hb.size
  have hne : b0 ≠ W.heap.size := by omega
  have Hb := Lib.hid hb
  have Hr := Lib.hid hr
  have Hp := Lib.hid hp
  clear hb hr hp
  show Calls Try.prog 62 #[.agg #[.string x.head, .int .i64 x.schema, .slice a0 x.froms.length k0, .slice a1 x.where_.length k1, .slice a2 x.sets.length k2], .pointer (some ⟨b0, 0, none⟩)] W _
  go_enter Try.func62, Try.ntmps62
  go_wp2_with (go_at_fn g; refine (Hp.out _ x [.string x.head, .int .i64 x.schema, .slice a0 x.froms.length k0, .slice a1 x.where_.length k1, .slice a2 x.sets.length k2] hx (Hb.out.alloc Hb.out.size _) (RRuleD.stab _ _ _ _ Hr.out (alloc1 _ _ _))).mono ?_; rintro e w' ⟨rfl, hb'⟩)
  go_ret
  exact ⟨by first | rfl | simp, (alloc1 _ _ _).trans (hb'.mono (by simp))⟩
set_option maxRecDepth 20000 in
theorem allR (a : Option Addr) (cap : Nat) (l : List RuleD) (g : Nat) (pre post : Array Value) (p : RuleD → Bool) (w : World) (hl : Sl 5 RRuleD w a l) (hp : PredI g pre post RRuleD l p w) (hlen : l.length ≤ 100000)
    (eg : ∀ args w, (callFunc g args).run Try.prog w = .ok (.enter g args) w) (r : Bool) (hr : l.all p = r) :
    Calls Try.prog 30 #[.slice a l.length cap, .func (.func g) pre post] w fun e w' => e = .returned (.bool r) ∧ Below w.heap.size w w' := by
  subst hr
  have Hc := Lib.hid (conR a cap l 62 #[] #[.pointer (some ⟨w.heap.size, 0, none⟩)] (fun x => !p x) (w.alloc (.cells #[.func (.func g) pre post] 84)) (hl.below RRuleD.stab (alloc1 _ _ _))
    (notR w.heap.size l g pre post p _ (by simp) (by simp) (hp.mono (alloc1 _ _ _)) eg) hlen (enters_of Try.func62 (by kernel_rfl) rfl))
  rw [← all_not]
  clear hl hp
  go_enter Try.func30, Try.ntmps30
  go_wp2_with (go_at_call 61; refine Hc.out.mono ?_; rintro e w' ⟨rfl, hb'⟩)
  go_ret
  exact ⟨by first | rfl | simp, (alloc1 _ _ _).trans (hb'.mono (by simp))⟩

set_option maxRecDepth 20000 in
theorem notP (b0 : Nat) (l : List PurposeD) (g : Nat) (pre post : Array Value) (p : PurposeD → Bool) (w : World) (hb0 : b0 < w.heap.size) (hc : w.cell? ⟨b0, 0, none⟩ = some (.func (.func g) pre post)) (hp : PredI g pre post RPurposeD l p w)
    (eg : ∀ args w, (callFunc g args).run Try.prog w = .ok (.enter g args) w) :
    PredI 63 #[] #[.pointer (some ⟨b0, 0, none⟩)] RPurposeD l (fun x => !p x) w := fun W x es hx hb hr => by
  obtain ⟨a0, k0, rfl, _⟩ := RPurposeD.flat hr
  have hW : W.cell? ⟨b0, 0, none⟩ = some (.func (.func g) pre post) := (hb.cell (p := ⟨b0, 0, none⟩) hb0).trans hc
  have hb1 : b0 < W.heap.size := Nat.lt_of_lt_of_le hb0 hb.size
  have hne : b0 ≠ W.heap.size := by omega
  have Hb := Lib.hid hb
  have Hr := Lib.hid hr
  have Hp := Lib.hid hp
  clear hb hr hp
  show Calls Try.prog 63 #[.agg #[.string x.name, .slice a0 x.may.length k0, .int .i64 x.most], .pointer (some ⟨b0, 0, none⟩)] W _
  go_enter Try.func63, Try.ntmps63
  go_wp2_with (go_at_fn g; refine (Hp.out _ x [.string x.name, .slice a0 x.may.length k0, .int .i64 x.most] hx (Hb.out.alloc Hb.out.size _) (RPurposeD.stab _ _ _ _ Hr.out (alloc1 _ _ _))).mono ?_; rintro e w' ⟨rfl, hb'⟩)
  go_ret
  exact ⟨by first | rfl | simp, (alloc1 _ _ _).trans (hb'.mono (by simp))⟩
set_option maxRecDepth 20000 in
theorem allP (a : Option Addr) (cap : Nat) (l : List PurposeD) (g : Nat) (pre post : Array Value) (p : PurposeD → Bool) (w : World) (hl : Sl 3 RPurposeD w a l) (hp : PredI g pre post RPurposeD l p w) (hlen : l.length ≤ 100000)
    (eg : ∀ args w, (callFunc g args).run Try.prog w = .ok (.enter g args) w) (r : Bool) (hr : l.all p = r) :
    Calls Try.prog 31 #[.slice a l.length cap, .func (.func g) pre post] w fun e w' => e = .returned (.bool r) ∧ Below w.heap.size w w' := by
  subst hr
  have Hc := Lib.hid (conP a cap l 63 #[] #[.pointer (some ⟨w.heap.size, 0, none⟩)] (fun x => !p x) (w.alloc (.cells #[.func (.func g) pre post] 91)) (hl.below RPurposeD.stab (alloc1 _ _ _))
    (notP w.heap.size l g pre post p _ (by simp) (by simp) (hp.mono (alloc1 _ _ _)) eg) hlen (enters_of Try.func63 (by kernel_rfl) rfl))
  rw [← all_not]
  clear hl hp
  go_enter Try.func31, Try.ntmps31
  go_wp2_with (go_at_call 51; refine Hc.out.mono ?_; rintro e w' ⟨rfl, hb'⟩)
  go_ret
  exact ⟨by first | rfl | simp, (alloc1 _ _ _).trans (hb'.mono (by simp))⟩

end Go.Proofs.Ytogenjbabgibbaa
