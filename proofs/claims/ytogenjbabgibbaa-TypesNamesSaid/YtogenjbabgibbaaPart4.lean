/- Part 4 of the walks and laws that these claims rest on. No condition. -/
import Derived.WideMake
import Derived.MapKept
import Derived.Test.YtogenjbabgibbaaPart3
set_option linter.all false
set_option linter.unusedSimpArgs false
set_option linter.unusedVariables false
set_option linter.unnecessarySimpa false
namespace Go.Proofs.Ytogenjbabgibbaa
open Go.RowKit
def headLen (s : SourceD) (n : Int) : Int := match s.schemas[n.toNat]? with | some x => x.fields.length | none => 0
def setIn (s : SourceD) (r : RuleD) (x : SetD) : Bool := match typeOf? s r.schema x.field with | some fd => !decide (x.field = 0) && setB s r.froms fd x.term | none => false
def ruleB (s : SourceD) (r : RuleD) : Bool :=
  fromsB s r.froms && (decide (r.where_.length ≤ 8) && (r.where_.all (atomB s r.froms) && (schIn s r.schema && (decide ((r.sets.length : Int) = headLen s r.schema - 1) && (r.sets.all (setIn s r) && decide (r.sets.map (·.field)).Nodup)))))
def ShortF (s : SourceD) : Prop := ∀ x ∈ s.schemas, x.fields.length ≤ 100000
def encI (n : Int) : List Value := [.int .i64 n]
theorem encI_len (n : Int) : (encI n).length = 1 := rfl
theorem info3 : (Try.prog.info? 3).map (fun i => (i.zero, i.size, i.bytes)) = some (some (.int .i64 0), 1, 8) := by kernel_rfl
set_option maxRecDepth 20000 in
set_option maxHeartbeats 8000000 in
theorem ruleOK_any (s : SourceD) (p : SrcAt) (r : RuleD) (q : RuleAt) (wb : World) (hs : Src wb s p) (hr : Rul wb r q) (w : World) (hbb : Below wb.heap.size wb w) (hsh : Short s) (hgd : Good s) (hsf : ShortF s) :
    Calls Try.prog 25 #[rcVal s p r q] w fun e w' => e = .returned (.bool (ruleB s r)) ∧ Below w.heap.size w w' := by
  have Hs := Lib.hid hs
  have Hr := Lib.hid hr
  have Hbb := Lib.hid hbb
  clear hs hr hbb
  obtain ⟨a0, k0, a1, k1, a2, k2, a3, k3, a4, k4, a5, k5⟩ := p
  obtain ⟨f2, l2, f3, l3, f4, l4⟩ := q
  cases hfr : fromsB s r.froms with
  | false =>
    have Hfr := Lib.hid hfr
    clear hfr
    go_enter Try.func25, Try.ntmps25
    go_wp2_with fail
    generalize hw0 : World.alloc _ _ = w0
    obtain ⟨X0, hsz, hb0⟩ := blk1 hw0
    have x0 : w0.cell? ⟨w.heap.size, 0, none⟩ = some (.slice a0 s.issuers.length k0) := X0.cell 0
    have x1 : w0.cell? ⟨w.heap.size, 1, none⟩ = some (.slice a1 s.units.length k1) := X0.cell 1
    have x2 : w0.cell? ⟨w.heap.size, 2, none⟩ = some (.slice a2 s.schemas.length k2) := X0.cell 2
    have x3 : w0.cell? ⟨w.heap.size, 3, none⟩ = some (.slice a3 s.rules.length k3) := X0.cell 3
    have x4 : w0.cell? ⟨w.heap.size, 4, none⟩ = some (.slice a4 s.converts k4) := X0.cell 4
    have x5 : w0.cell? ⟨w.heap.size, 5, none⟩ = some (.slice a5 s.purposes.length k5) := X0.cell 5
    have x6 : w0.cell? ⟨w.heap.size, 6, none⟩ = some (.string r.head) := X0.cell 6
    have x7 : w0.cell? ⟨w.heap.size, 7, none⟩ = some (.int .i64 r.schema) := X0.cell 7
    have x8 : w0.cell? ⟨w.heap.size, 8, none⟩ = some (.slice f2 r.froms.length l2) := X0.cell 8
    have x9 : w0.cell? ⟨w.heap.size, 9, none⟩ = some (.slice f3 r.where_.length l3) := X0.cell 9
    have x10 : w0.cell? ⟨w.heap.size, 10, none⟩ = some (.slice f4 r.sets.length l4) := X0.cell 10
    have hl_x : w.heap.size < w0.heap.size := by omega
    have hwl : w.heap.size ≤ w0.heap.size := hb0.size
    have Hb := Lib.hid hb0
    clear hw0 hb0 hsz X0
    refine (fromsOK_any s ⟨a0, k0, a1, k1, a2, k2, a3, k3, a4, k4, a5, k5⟩ r ⟨f2, l2, f3, l3, f4, l4⟩ wb Hs.out Hr.out _ (Hbb.out.trans (Hb.out.mono Hbb.out.size))).mono ?_
    rintro e w1 ⟨rfl, hb1⟩
    rw [Hfr.out]
    replace x0 := cell_kept hb1 x0 hl_x
    replace x1 := cell_kept hb1 x1 hl_x
    replace x2 := cell_kept hb1 x2 hl_x
    replace x3 := cell_kept hb1 x3 hl_x
    replace x4 := cell_kept hb1 x4 hl_x
    replace x5 := cell_kept hb1 x5 hl_x
    replace x6 := cell_kept hb1 x6 hl_x
    replace x7 := cell_kept hb1 x7 hl_x
    replace x8 := cell_kept hb1 x8 hl_x
    replace x9 := cell_kept hb1 x9 hl_x
    replace x10 := cell_kept hb1 x10 hl_x
    replace Hb := Lib.hid (Hb.out.trans (hb1.mono hwl))
    replace hl_x := Nat.lt_of_lt_of_le hl_x hb1.size
    replace hwl := Nat.le_trans hwl hb1.size
    clear hb1
    go_wp2
    go_ret
    exact ⟨ret_bool (by simp [ruleB, Hfr.out]), Hb.out⟩
  | true =>
  have Hfr := Lib.hid hfr
  clear hfr
  by_cases hw8 : r.where_.length ≤ 8
  case neg =>
    have hw8' : (8 : Int) < (r.where_.length : Int) := by omega
    go_enter Try.func25, Try.ntmps25
    go_wp2_with fail
    generalize hw0 : World.alloc _ _ = w0
    obtain ⟨X0, hsz, hb0⟩ := blk1 hw0
    have x0 : w0.cell? ⟨w.heap.size, 0, none⟩ = some (.slice a0 s.issuers.length k0) := X0.cell 0
    have x1 : w0.cell? ⟨w.heap.size, 1, none⟩ = some (.slice a1 s.units.length k1) := X0.cell 1
    have x2 : w0.cell? ⟨w.heap.size, 2, none⟩ = some (.slice a2 s.schemas.length k2) := X0.cell 2
    have x3 : w0.cell? ⟨w.heap.size, 3, none⟩ = some (.slice a3 s.rules.length k3) := X0.cell 3
    have x4 : w0.cell? ⟨w.heap.size, 4, none⟩ = some (.slice a4 s.converts k4) := X0.cell 4
    have x5 : w0.cell? ⟨w.heap.size, 5, none⟩ = some (.slice a5 s.purposes.length k5) := X0.cell 5
    have x6 : w0.cell? ⟨w.heap.size, 6, none⟩ = some (.string r.head) := X0.cell 6
    have x7 : w0.cell? ⟨w.heap.size, 7, none⟩ = some (.int .i64 r.schema) := X0.cell 7
    have x8 : w0.cell? ⟨w.heap.size, 8, none⟩ = some (.slice f2 r.froms.length l2) := X0.cell 8
    have x9 : w0.cell? ⟨w.heap.size, 9, none⟩ = some (.slice f3 r.where_.length l3) := X0.cell 9
    have x10 : w0.cell? ⟨w.heap.size, 10, none⟩ = some (.slice f4 r.sets.length l4) := X0.cell 10
    have hl_x : w.heap.size < w0.heap.size := by omega
    have hwl : w.heap.size ≤ w0.heap.size := hb0.size
    have Hb := Lib.hid hb0
    clear hw0 hb0 hsz X0
    refine (fromsOK_any s ⟨a0, k0, a1, k1, a2, k2, a3, k3, a4, k4, a5, k5⟩ r ⟨f2, l2, f3, l3, f4, l4⟩ wb Hs.out Hr.out _ (Hbb.out.trans (Hb.out.mono Hbb.out.size))).mono ?_
    rintro e w1 ⟨rfl, hb1⟩
    rw [Hfr.out]
    replace x0 := cell_kept hb1 x0 hl_x
    replace x1 := cell_kept hb1 x1 hl_x
    replace x2 := cell_kept hb1 x2 hl_x
    replace x3 := cell_kept hb1 x3 hl_x
    replace x4 := cell_kept hb1 x4 hl_x
    replace x5 := cell_kept hb1 x5 hl_x
    replace x6 := cell_kept hb1 x6 hl_x
    replace x7 := cell_kept hb1 x7 hl_x
    replace x8 := cell_kept hb1 x8 hl_x
    replace x9 := cell_kept hb1 x9 hl_x
    replace x10 := cell_kept hb1 x10 hl_x
    replace Hb := Lib.hid (Hb.out.trans (hb1.mono hwl))
    replace hl_x := Nat.lt_of_lt_of_le hl_x hb1.size
    replace hwl := Nat.le_trans hwl hb1.size
    clear hb1
    go_wp2
    go_ret
    exact ⟨ret_bool (by simp [ruleB, hw8]), Hb.out⟩
  have Hv := Lib.hid (show ruleB s r = (r.where_.all (atomB s r.froms) && (schIn s r.schema && (decide ((r.sets.length : Int) = headLen s r.schema - 1) && (r.sets.all (setIn s r) && decide (r.sets.map (·.field)).Nodup)))) by simp [ruleB, Hfr.out, hw8])
  obtain ⟨i0, hi, hz0, hz1, hz2⟩ := info_split info3
  go_enter Try.func25, Try.ntmps25
  go_wp2_with fail
  generalize hw0 : World.alloc _ _ = w0
  obtain ⟨X0, hsz, hb0⟩ := blk1 hw0
  have x0 : w0.cell? ⟨w.heap.size, 0, none⟩ = some (.slice a0 s.issuers.length k0) := X0.cell 0
  have x1 : w0.cell? ⟨w.heap.size, 1, none⟩ = some (.slice a1 s.units.length k1) := X0.cell 1
  have x2 : w0.cell? ⟨w.heap.size, 2, none⟩ = some (.slice a2 s.schemas.length k2) := X0.cell 2
  have x3 : w0.cell? ⟨w.heap.size, 3, none⟩ = some (.slice a3 s.rules.length k3) := X0.cell 3
  have x4 : w0.cell? ⟨w.heap.size, 4, none⟩ = some (.slice a4 s.converts k4) := X0.cell 4
  have x5 : w0.cell? ⟨w.heap.size, 5, none⟩ = some (.slice a5 s.purposes.length k5) := X0.cell 5
  have x6 : w0.cell? ⟨w.heap.size, 6, none⟩ = some (.string r.head) := X0.cell 6
  have x7 : w0.cell? ⟨w.heap.size, 7, none⟩ = some (.int .i64 r.schema) := X0.cell 7
  have x8 : w0.cell? ⟨w.heap.size, 8, none⟩ = some (.slice f2 r.froms.length l2) := X0.cell 8
  have x9 : w0.cell? ⟨w.heap.size, 9, none⟩ = some (.slice f3 r.where_.length l3) := X0.cell 9
  have x10 : w0.cell? ⟨w.heap.size, 10, none⟩ = some (.slice f4 r.sets.length l4) := X0.cell 10
  have hl_x : w.heap.size < w0.heap.size := by omega
  have hwl : w.heap.size ≤ w0.heap.size := hb0.size
  have Hb := Lib.hid hb0
  clear hw0 hb0 hsz X0
  refine (fromsOK_any s ⟨a0, k0, a1, k1, a2, k2, a3, k3, a4, k4, a5, k5⟩ r ⟨f2, l2, f3, l3, f4, l4⟩ wb Hs.out Hr.out _ (Hbb.out.trans (Hb.out.mono Hbb.out.size))).mono ?_
  rintro e w1 ⟨rfl, hb1⟩
  rw [Hfr.out]
  replace x0 := cell_kept hb1 x0 hl_x
  replace x1 := cell_kept hb1 x1 hl_x
  replace x2 := cell_kept hb1 x2 hl_x
  replace x3 := cell_kept hb1 x3 hl_x
  replace x4 := cell_kept hb1 x4 hl_x
  replace x5 := cell_kept hb1 x5 hl_x
  replace x6 := cell_kept hb1 x6 hl_x
  replace x7 := cell_kept hb1 x7 hl_x
  replace x8 := cell_kept hb1 x8 hl_x
  replace x9 := cell_kept hb1 x9 hl_x
  replace x10 := cell_kept hb1 x10 hl_x
  replace Hb := Lib.hid (Hb.out.trans (hb1.mono hwl))
  replace hl_x := Nat.lt_of_lt_of_le hl_x hb1.size
  replace hwl := Nat.le_trans hwl hb1.size
  clear hb1
  go_wp2_with fail
  all_goals (try (exfalso; omega))
  go_loopw [25] (fun i wr => ∃ k : Nat, k ≤ r.where_.length ∧ i = .int .i64 k ∧ Hid (PreP (atomB s r.froms) r.where_ k) ∧ Below w1.heap.size w1 wr) (fun i _ => r.where_.length - (intOf i).toNat)
  case atStart => exact ⟨0, Nat.zero_le _, rfl, Lib.hid PreP.zero, Below.refl _ _⟩
  case round =>
    obtain ⟨k, hk, rfl, Hn, hb1⟩ := hrel
    have Hb1 := Lib.hid hb1
    have hwl1 := hb1.size
    replace x0 := cell_kept hb1 x0 hl_x
    replace x1 := cell_kept hb1 x1 hl_x
    replace x2 := cell_kept hb1 x2 hl_x
    replace x3 := cell_kept hb1 x3 hl_x
    replace x4 := cell_kept hb1 x4 hl_x
    replace x5 := cell_kept hb1 x5 hl_x
    replace x6 := cell_kept hb1 x6 hl_x
    replace x7 := cell_kept hb1 x7 hl_x
    replace x8 := cell_kept hb1 x8 hl_x
    replace x9 := cell_kept hb1 x9 hl_x
    replace x10 := cell_kept hb1 x10 hl_x
    replace Hb := Lib.hid (Hb.out.trans (hb1.mono hwl))
    replace hl_x := Nat.lt_of_lt_of_le hl_x hb1.size
    replace hwl := Nat.le_trans hwl hb1.size
    clear hb1
    by_cases hlt : k < r.where_.length
    case pos =>
      have hlt' : (k : Int) < (r.where_.length : Int) := by omega
      obtain ⟨b, off, e1, hl_c, _, c0, c1, c2, c3, c4, c5, c6, c7, c8, c9, c10⟩ := AtomD.out (((Hr.out.below Hbb.out).h3).below RAtomD.stab Hb.out) k hlt
      simp only at e1
      subst e1
      have hsuc := fun h => Hn.out.succ hlt h
      have hno := fun h => not_all (p := atomB s r.froms) hlt h
      generalize r.where_[k] = m at *
      have Hsuc := Lib.hid hsuc
      have Hno := Lib.hid hno
      clear hsuc hno
      go_wp2_with fail
      generalize hw0 : World.alloc _ _ = w2
      obtain ⟨X0, hsz, hb1⟩ := blk1 hw0
      have v0 : w2.cell? ⟨wr.heap.size, 0, none⟩ = some (.int .i64 m.op) := X0.cell 0
      have v1 : w2.cell? ⟨wr.heap.size, 1, none⟩ = some (.string m.a.name) := X0.cell 1
      have v2 : w2.cell? ⟨wr.heap.size, 2, none⟩ = some (.string m.a.path) := X0.cell 2
      have v3 : w2.cell? ⟨wr.heap.size, 3, none⟩ = some (.int .i64 m.a.var) := X0.cell 3
      have v4 : w2.cell? ⟨wr.heap.size, 4, none⟩ = some (.int .i64 m.a.field) := X0.cell 4
      have v5 : w2.cell? ⟨wr.heap.size, 5, none⟩ = some (.int .i64 m.a.n) := X0.cell 5
      have v6 : w2.cell? ⟨wr.heap.size, 6, none⟩ = some (.string m.b.name) := X0.cell 6
      have v7 : w2.cell? ⟨wr.heap.size, 7, none⟩ = some (.string m.b.path) := X0.cell 7
      have v8 : w2.cell? ⟨wr.heap.size, 8, none⟩ = some (.int .i64 m.b.var) := X0.cell 8
      have v9 : w2.cell? ⟨wr.heap.size, 9, none⟩ = some (.int .i64 m.b.field) := X0.cell 9
      have v10 : w2.cell? ⟨wr.heap.size, 10, none⟩ = some (.int .i64 m.b.n) := X0.cell 10
      have hl_v : wr.heap.size < w2.heap.size := by omega
      replace x0 := cell_kept hb1 x0 hl_x
      replace x1 := cell_kept hb1 x1 hl_x
      replace x2 := cell_kept hb1 x2 hl_x
      replace x3 := cell_kept hb1 x3 hl_x
      replace x4 := cell_kept hb1 x4 hl_x
      replace x5 := cell_kept hb1 x5 hl_x
      replace x6 := cell_kept hb1 x6 hl_x
      replace x7 := cell_kept hb1 x7 hl_x
      replace x8 := cell_kept hb1 x8 hl_x
      replace x9 := cell_kept hb1 x9 hl_x
      replace x10 := cell_kept hb1 x10 hl_x
      replace c0 := cell_kept hb1 c0 hl_c
      replace c1 := cell_kept hb1 c1 hl_c
      replace c2 := cell_kept hb1 c2 hl_c
      replace c3 := cell_kept hb1 c3 hl_c
      replace c4 := cell_kept hb1 c4 hl_c
      replace c5 := cell_kept hb1 c5 hl_c
      replace c6 := cell_kept hb1 c6 hl_c
      replace c7 := cell_kept hb1 c7 hl_c
      replace c8 := cell_kept hb1 c8 hl_c
      replace c9 := cell_kept hb1 c9 hl_c
      replace c10 := cell_kept hb1 c10 hl_c
      replace Hb := Lib.hid (Hb.out.trans (hb1.mono hwl))
      replace Hb1 := Lib.hid (Hb1.out.trans (hb1.mono hwl1))
      replace hl_x := Nat.lt_of_lt_of_le hl_x hb1.size
      replace hl_c := Nat.lt_of_lt_of_le hl_c hb1.size
      replace hwl := Nat.le_trans hwl hb1.size
      replace hwl1 := Nat.le_trans hwl1 hb1.size
      clear hb1
      clear hw0 hsz X0
      refine (atomOK_any s ⟨a0, k0, a1, k1, a2, k2, a3, k3, a4, k4, a5, k5⟩ r ⟨f2, l2, some ⟨b, off, none⟩, l3, f4, l4⟩ m wb Hs.out Hr.out _ (Hbb.out.trans (Hb.out.mono Hbb.out.size)) hsh hgd).mono ?_
      rintro e w3 ⟨rfl, hb1⟩
      replace x0 := cell_kept hb1 x0 hl_x
      replace x1 := cell_kept hb1 x1 hl_x
      replace x2 := cell_kept hb1 x2 hl_x
      replace x3 := cell_kept hb1 x3 hl_x
      replace x4 := cell_kept hb1 x4 hl_x
      replace x5 := cell_kept hb1 x5 hl_x
      replace x6 := cell_kept hb1 x6 hl_x
      replace x7 := cell_kept hb1 x7 hl_x
      replace x8 := cell_kept hb1 x8 hl_x
      replace x9 := cell_kept hb1 x9 hl_x
      replace x10 := cell_kept hb1 x10 hl_x
      replace v0 := cell_kept hb1 v0 hl_v
      replace v1 := cell_kept hb1 v1 hl_v
      replace v2 := cell_kept hb1 v2 hl_v
      replace v3 := cell_kept hb1 v3 hl_v
      replace v4 := cell_kept hb1 v4 hl_v
      replace v5 := cell_kept hb1 v5 hl_v
      replace v6 := cell_kept hb1 v6 hl_v
      replace v7 := cell_kept hb1 v7 hl_v
      replace v8 := cell_kept hb1 v8 hl_v
      replace v9 := cell_kept hb1 v9 hl_v
      replace v10 := cell_kept hb1 v10 hl_v
      replace Hb := Lib.hid (Hb.out.trans (hb1.mono hwl))
      replace Hb1 := Lib.hid (Hb1.out.trans (hb1.mono hwl1))
      replace hl_x := Nat.lt_of_lt_of_le hl_x hb1.size
      replace hl_v := Nat.lt_of_lt_of_le hl_v hb1.size
      replace hwl := Nat.le_trans hwl hb1.size
      replace hwl1 := Nat.le_trans hwl1 hb1.size
      clear hb1
      cases hab : atomB s r.froms m with
      | false =>
        go_wp2
        go_ret
        exact ⟨ret_bool (by rw [Hv.out, Hno.out hab]; rfl), Hb.out⟩
      | true =>
        go_wp2_with fail
        go_roundw
        case rel => exact ⟨k + 1, by omega, by go_num, Lib.hid (Hsuc.out hab), Hb1.out⟩
        case measure => simp [intOf]; omega
    case neg =>
      have hall := Hn.out.all (show r.where_.length ≤ k by omega)
      rw [hall, Bool.true_and] at Hv
      clear hall Hn
      by_cases hsi : 0 ≤ r.schema ∧ r.schema < s.schemas.length
      case neg =>
        have Hsi := Lib.hid hsi
        have Hr0 := Lib.hid (show ruleB s r = false by rw [Hv.out]; have := Hsi.out; simp [schIn]; intros; omega)
        clear hsi
        by_cases hs0 : r.schema < 0
        · have e0 : decide (r.schema < 0) = true := decide_eq_true hs0
          clear hs0
          go_wp2_with fail
          refine wp_region_grown (by kernel_rfl) (by kernel_rfl) ?_
          repeat (go_big_quiet_step (fail))
          refine wpQuiet_nil ?_
          intro w5 hw0
          have hb1 : Below wr.heap.size wr w5 := by obtain ⟨n, rfl⟩ := hw0; exact grown_below _ n
          clear hw0
          replace x0 := cell_kept hb1 x0 hl_x
          replace x1 := cell_kept hb1 x1 hl_x
          replace x2 := cell_kept hb1 x2 hl_x
          replace x3 := cell_kept hb1 x3 hl_x
          replace x4 := cell_kept hb1 x4 hl_x
          replace x5 := cell_kept hb1 x5 hl_x
          replace x6 := cell_kept hb1 x6 hl_x
          replace x7 := cell_kept hb1 x7 hl_x
          replace x8 := cell_kept hb1 x8 hl_x
          replace x9 := cell_kept hb1 x9 hl_x
          replace x10 := cell_kept hb1 x10 hl_x
          replace Hb := Lib.hid (Hb.out.trans (hb1.mono hwl))
          replace Hb1 := Lib.hid (Hb1.out.trans (hb1.mono hwl1))
          replace hl_x := Nat.lt_of_lt_of_le hl_x hb1.size
          replace hwl := Nat.le_trans hwl hb1.size
          replace hwl1 := Nat.le_trans hwl1 hb1.size
          clear hb1
          go_wp2
          go_ret
          exact ⟨ret_bool Hr0.out.symm, Hb.out⟩
        · have e0 : decide (r.schema < 0) = false := decide_eq_false hs0
          have e2 : decide ((s.schemas.length : Int) ≤ r.schema) = true := decide_eq_true (by have := Hsi.out; omega)
          clear hs0
          go_wp2_with fail
          refine wp_region_grown (by kernel_rfl) (by kernel_rfl) ?_
          repeat (go_big_quiet_step (fail))
          refine wpQuiet_nil ?_
          intro w5 hw0
          have hb1 : Below wr.heap.size wr w5 := by obtain ⟨n, rfl⟩ := hw0; exact grown_below _ n
          clear hw0
          replace x0 := cell_kept hb1 x0 hl_x
          replace x1 := cell_kept hb1 x1 hl_x
          replace x2 := cell_kept hb1 x2 hl_x
          replace x3 := cell_kept hb1 x3 hl_x
          replace x4 := cell_kept hb1 x4 hl_x
          replace x5 := cell_kept hb1 x5 hl_x
          replace x6 := cell_kept hb1 x6 hl_x
          replace x7 := cell_kept hb1 x7 hl_x
          replace x8 := cell_kept hb1 x8 hl_x
          replace x9 := cell_kept hb1 x9 hl_x
          replace x10 := cell_kept hb1 x10 hl_x
          replace Hb := Lib.hid (Hb.out.trans (hb1.mono hwl))
          replace Hb1 := Lib.hid (Hb1.out.trans (hb1.mono hwl1))
          replace hl_x := Nat.lt_of_lt_of_le hl_x hb1.size
          replace hwl := Nat.le_trans hwl hb1.size
          replace hwl1 := Nat.le_trans hwl1 hb1.size
          clear hb1
          go_wp2
          go_ret
          exact ⟨ret_bool Hr0.out.symm, Hb.out⟩
      have hsin : schIn s r.schema = true := by simp [schIn, hsi]
      rw [hsin, Bool.true_and] at Hv
      obtain ⟨hs0, hs1⟩ := hsi
      have e0 : decide (r.schema < 0) = false := decide_eq_false (by omega)
      have e2 : decide ((s.schemas.length : Int) ≤ r.schema) = false := decide_eq_false (by omega)
      have hsl : r.schema.toNat < s.schemas.length := by omega
      obtain ⟨b, off, e1, hl_d, _, fa, fk, da, dk, d0, d1, d2, d3, d4, d5, -⟩ := SchemaD.out ((Hs.out.below (Hbb.out.trans (Hb.out.mono Hbb.out.size))).h2) r.schema.toNat hsl
      simp only at e1
      subst e1
      have hfl : (s.schemas[r.schema.toNat]).fields.length ≤ 100000 := hsf _ (List.getElem_mem hsl)
      have hhl : headLen s r.schema = ((s.schemas[r.schema.toNat]).fields.length : Int) := by unfold headLen; rw [List.getElem?_eq_getElem hsl]
      rw [hhl] at Hv
      generalize (s.schemas[r.schema.toNat]).fields.length = fl at *
      have hx : IntKind.i64.wrap ((fl : Int) - 1) = (fl : Int) - 1 := IntWalk.i64_in _ (by omega)
      clear d0 d1 d2 d3 d5 hsin hhl
      by_cases hse : (r.sets.length : Int) = (fl : Int) - 1
      case neg =>
        have Hse := Lib.hid hse
        have hse' : ((r.sets.length : Int) != (fl : Int) - 1) = true := by simpa using hse
        clear hse
        go_wp2_with fail
        refine wp_region_grown (by kernel_rfl) (by kernel_rfl) ?_
        repeat (go_big_quiet_step (fail))
        refine wpQuiet_nil ?_
        intro w5 hw0
        have hb1 : Below wr.heap.size wr w5 := by obtain ⟨n, rfl⟩ := hw0; exact grown_below _ n
        clear hw0
        replace x0 := cell_kept hb1 x0 hl_x
        replace x1 := cell_kept hb1 x1 hl_x
        replace x2 := cell_kept hb1 x2 hl_x
        replace x3 := cell_kept hb1 x3 hl_x
        replace x4 := cell_kept hb1 x4 hl_x
        replace x5 := cell_kept hb1 x5 hl_x
        replace x6 := cell_kept hb1 x6 hl_x
        replace x7 := cell_kept hb1 x7 hl_x
        replace x8 := cell_kept hb1 x8 hl_x
        replace x9 := cell_kept hb1 x9 hl_x
        replace x10 := cell_kept hb1 x10 hl_x
        replace d4 := cell_kept hb1 d4 hl_d
        replace Hb := Lib.hid (Hb.out.trans (hb1.mono hwl))
        replace Hb1 := Lib.hid (Hb1.out.trans (hb1.mono hwl1))
        replace hl_x := Nat.lt_of_lt_of_le hl_x hb1.size
        replace hl_d := Nat.lt_of_lt_of_le hl_d hb1.size
        replace hwl := Nat.le_trans hwl hb1.size
        replace hwl1 := Nat.le_trans hwl1 hb1.size
        clear hb1
        go_wp2_with fail
        all_goals (try (exfalso; have := Hse.out; simp at *; omega))
        all_goals go_ret
        all_goals exact ⟨ret_bool (by rw [Hv.out, decide_eq_false Hse.out]; rfl), Hb.out⟩
      rw [decide_eq_true hse, Bool.true_and] at Hv
      have hse' : ((r.sets.length : Int) != (fl : Int) - 1) = false := by simpa using hse
      have hsb : r.sets.length ≤ 100000 := by omega
      clear hse
      go_wp2_with fail
      refine wp_region_grown (by kernel_rfl) (by kernel_rfl) ?_
      repeat (go_big_quiet_step (fail))
      refine wpQuiet_nil ?_
      intro w5 hw0
      have hb1 : Below wr.heap.size wr w5 := by obtain ⟨n, rfl⟩ := hw0; exact grown_below _ n
      clear hw0
      replace x0 := cell_kept hb1 x0 hl_x
      replace x1 := cell_kept hb1 x1 hl_x
      replace x2 := cell_kept hb1 x2 hl_x
      replace x3 := cell_kept hb1 x3 hl_x
      replace x4 := cell_kept hb1 x4 hl_x
      replace x5 := cell_kept hb1 x5 hl_x
      replace x6 := cell_kept hb1 x6 hl_x
      replace x7 := cell_kept hb1 x7 hl_x
      replace x8 := cell_kept hb1 x8 hl_x
      replace x9 := cell_kept hb1 x9 hl_x
      replace x10 := cell_kept hb1 x10 hl_x
      replace d4 := cell_kept hb1 d4 hl_d
      replace Hb := Lib.hid (Hb.out.trans (hb1.mono hwl))
      replace Hb1 := Lib.hid (Hb1.out.trans (hb1.mono hwl1))
      replace hl_x := Nat.lt_of_lt_of_le hl_x hb1.size
      replace hl_d := Nat.lt_of_lt_of_le hl_d hb1.size
      replace hwl := Nat.le_trans hwl hb1.size
      replace hwl1 := Nat.le_trans hwl1 hb1.size
      clear hb1
      go_wp2_with fail
      go_loopw [6, 69] (fun v i wr => ∃ j : Nat, j ≤ r.sets.length ∧ i = .int .i64 j ∧ Hid (OwnL 1 encI 3 wr w5.heap.size v ((r.sets.take j).map (·.field))) ∧ Hid (PreP (setIn s r) r.sets j) ∧ Hid (∀ n ∈ (r.sets.take j).map (·.field), (Lit.int .i64 n).wf = true) ∧ Below w5.heap.size w5 wr) (fun _ i _ => r.sets.length - (intOf i).toNat)
      case atStart => exact ⟨0, Nat.zero_le _, rfl, Lib.hid (OwnL.nil _ _), Lib.hid PreP.zero, Lib.hid (fun n hn => by simp at hn), Below.refl _ _⟩
      case round =>
        obtain ⟨j, hj, rfl, HO, Hn, HW, hb1⟩ := hrel
        have Hb2 := Lib.hid hb1
        have hwl2 := hb1.size
        replace x0 := cell_kept hb1 x0 hl_x
        replace x1 := cell_kept hb1 x1 hl_x
        replace x2 := cell_kept hb1 x2 hl_x
        replace x3 := cell_kept hb1 x3 hl_x
        replace x4 := cell_kept hb1 x4 hl_x
        replace x5 := cell_kept hb1 x5 hl_x
        replace x6 := cell_kept hb1 x6 hl_x
        replace x7 := cell_kept hb1 x7 hl_x
        replace x8 := cell_kept hb1 x8 hl_x
        replace x9 := cell_kept hb1 x9 hl_x
        replace x10 := cell_kept hb1 x10 hl_x
        replace Hb := Lib.hid (Hb.out.trans (hb1.mono hwl))
        replace Hb1 := Lib.hid (Hb1.out.trans (hb1.mono hwl1))
        replace hl_x := Nat.lt_of_lt_of_le hl_x hb1.size
        replace hwl := Nat.le_trans hwl hb1.size
        replace hwl1 := Nat.le_trans hwl1 hb1.size
        clear hb1
        by_cases hlj : j < r.sets.length
        case neg =>
          have hall := Hn.out.all (show r.sets.length ≤ j by omega)
          have htk : r.sets.take j = r.sets := List.take_of_length_le (by omega)
          rw [htk] at HO HW
          obtain ⟨L, hL⟩ : ∃ L, r.sets.map (·.field) = L := ⟨_, rfl⟩
          rw [hL] at HO HW
          have hLl : L.length ≤ 100000 := by rw [← hL]; simpa using hsb
          have HL := Lib.hid hL
          have Hall := Lib.hid hall
          clear hL htk hall Hn
          obtain ⟨ao, co, hv, hsli⟩ := HO.out.sl (R := RInt) encI_len (fun n hn => ⟨rfl, HW.out n hn⟩)
          subst hv
          have Hsli := Lib.hid hsli
          clear hsli
          go_wp2_with fail
          refine (diffI_any ao co L _ Hsli.out hLl).mono ?_
          rintro e w6 ⟨rfl, hb1⟩
          replace x0 := cell_kept hb1 x0 hl_x
          replace x1 := cell_kept hb1 x1 hl_x
          replace x2 := cell_kept hb1 x2 hl_x
          replace x3 := cell_kept hb1 x3 hl_x
          replace x4 := cell_kept hb1 x4 hl_x
          replace x5 := cell_kept hb1 x5 hl_x
          replace x6 := cell_kept hb1 x6 hl_x
          replace x7 := cell_kept hb1 x7 hl_x
          replace x8 := cell_kept hb1 x8 hl_x
          replace x9 := cell_kept hb1 x9 hl_x
          replace x10 := cell_kept hb1 x10 hl_x
          replace Hb := Lib.hid (Hb.out.trans (hb1.mono hwl))
          replace Hb1 := Lib.hid (Hb1.out.trans (hb1.mono hwl1))
          replace Hb2 := Lib.hid (Hb2.out.trans (hb1.mono hwl2))
          replace hl_x := Nat.lt_of_lt_of_le hl_x hb1.size
          replace hwl := Nat.le_trans hwl hb1.size
          replace hwl1 := Nat.le_trans hwl1 hb1.size
          replace hwl2 := Nat.le_trans hwl2 hb1.size
          clear hb1
          go_wp2
          go_ret
          exact ⟨ret_bool (by rw [Hv.out, Hall.out, Bool.true_and, HL.out]), Hb.out⟩
        have hlj' : (j : Int) < (r.sets.length : Int) := by omega
        obtain ⟨b1, o1, e1, hl_c, hxw, c0, c1, c2, c3, c4, c5, c6⟩ := SetD.out (((Hr.out.below Hbb.out).h4).below RSetD.stab Hb.out) j hlj
        simp only at e1
        subst e1
        have hsuc := fun h => Hn.out.succ hlj h
        have hno := fun h => not_all (p := setIn s r) hlj h
        have htk : (r.sets.take (j + 1)).map (·.field) = (r.sets.take j).map (·.field) ++ [r.sets[j].field] := by rw [take_succ' hlj, List.map_append]; rfl
        have hlen : ((r.sets.take j).map (·.field)).length = j := by simp; omega
        have hfw : (Lit.int .i64 r.sets[j].field).wf = true := hxw.2.1
        generalize r.sets[j] = x at *
        have Hsuc := Lib.hid hsuc
        have Hno := Lib.hid hno
        have Htk := Lib.hid htk
        have Hlen := Lib.hid hlen
        have Hfw := Lib.hid hfw
        clear hsuc hno htk hlen hfw hxw
        go_wp2_with fail
        generalize hw0 : World.alloc _ _ = w2
        obtain ⟨X0, hsz, hb1⟩ := blk1 hw0
        have v0 : w2.cell? ⟨wr.heap.size, 0, none⟩ = some (.string x.path) := X0.cell 0
        have v1 : w2.cell? ⟨wr.heap.size, 1, none⟩ = some (.int .i64 x.field) := X0.cell 1
        have v2 : w2.cell? ⟨wr.heap.size, 2, none⟩ = some (.string x.term.name) := X0.cell 2
        have v3 : w2.cell? ⟨wr.heap.size, 3, none⟩ = some (.string x.term.path) := X0.cell 3
        have v4 : w2.cell? ⟨wr.heap.size, 4, none⟩ = some (.int .i64 x.term.var) := X0.cell 4
        have v5 : w2.cell? ⟨wr.heap.size, 5, none⟩ = some (.int .i64 x.term.field) := X0.cell 5
        have v6 : w2.cell? ⟨wr.heap.size, 6, none⟩ = some (.int .i64 x.term.n) := X0.cell 6
        have hl_v : wr.heap.size < w2.heap.size := by omega
        replace x0 := cell_kept hb1 x0 hl_x
        replace x1 := cell_kept hb1 x1 hl_x
        replace x2 := cell_kept hb1 x2 hl_x
        replace x3 := cell_kept hb1 x3 hl_x
        replace x4 := cell_kept hb1 x4 hl_x
        replace x5 := cell_kept hb1 x5 hl_x
        replace x6 := cell_kept hb1 x6 hl_x
        replace x7 := cell_kept hb1 x7 hl_x
        replace x8 := cell_kept hb1 x8 hl_x
        replace x9 := cell_kept hb1 x9 hl_x
        replace x10 := cell_kept hb1 x10 hl_x
        replace c0 := cell_kept hb1 c0 hl_c
        replace c1 := cell_kept hb1 c1 hl_c
        replace c2 := cell_kept hb1 c2 hl_c
        replace c3 := cell_kept hb1 c3 hl_c
        replace c4 := cell_kept hb1 c4 hl_c
        replace c5 := cell_kept hb1 c5 hl_c
        replace c6 := cell_kept hb1 c6 hl_c
        replace Hb := Lib.hid (Hb.out.trans (hb1.mono hwl))
        replace Hb1 := Lib.hid (Hb1.out.trans (hb1.mono hwl1))
        replace Hb2 := Lib.hid (Hb2.out.trans (hb1.mono hwl2))
        replace hl_x := Nat.lt_of_lt_of_le hl_x hb1.size
        replace hl_c := Nat.lt_of_lt_of_le hl_c hb1.size
        replace hwl := Nat.le_trans hwl hb1.size
        replace hwl1 := Nat.le_trans hwl1 hb1.size
        replace hwl2 := Nat.le_trans hwl2 hb1.size
        replace HO := Lib.hid (HO.out.below hb1)
        clear hb1
        clear hw0 hsz X0
        clear c0 c1 c2 c3 c4 c5 c6
        cases hty : typeOf? s r.schema x.field with
        | none =>
          refine (typeOf_no s ⟨a0, k0, a1, k1, some ⟨b, off, none⟩, k2, a3, k3, a4, k4, a5, k5⟩ r.schema x.field hty _ (Hs.out.below (Hbb.out.trans (Hb.out.mono Hbb.out.size)))).mono ?_
          rintro e w3 ⟨rfl, hb1⟩
          replace x0 := cell_kept hb1 x0 hl_x
          replace x1 := cell_kept hb1 x1 hl_x
          replace x2 := cell_kept hb1 x2 hl_x
          replace x3 := cell_kept hb1 x3 hl_x
          replace x4 := cell_kept hb1 x4 hl_x
          replace x5 := cell_kept hb1 x5 hl_x
          replace x6 := cell_kept hb1 x6 hl_x
          replace x7 := cell_kept hb1 x7 hl_x
          replace x8 := cell_kept hb1 x8 hl_x
          replace x9 := cell_kept hb1 x9 hl_x
          replace x10 := cell_kept hb1 x10 hl_x
          replace v0 := cell_kept hb1 v0 hl_v
          replace v1 := cell_kept hb1 v1 hl_v
          replace v2 := cell_kept hb1 v2 hl_v
          replace v3 := cell_kept hb1 v3 hl_v
          replace v4 := cell_kept hb1 v4 hl_v
          replace v5 := cell_kept hb1 v5 hl_v
          replace v6 := cell_kept hb1 v6 hl_v
          replace Hb := Lib.hid (Hb.out.trans (hb1.mono hwl))
          replace Hb1 := Lib.hid (Hb1.out.trans (hb1.mono hwl1))
          replace Hb2 := Lib.hid (Hb2.out.trans (hb1.mono hwl2))
          replace hl_x := Nat.lt_of_lt_of_le hl_x hb1.size
          replace hl_v := Nat.lt_of_lt_of_le hl_v hb1.size
          replace hwl := Nat.le_trans hwl hb1.size
          replace hwl1 := Nat.le_trans hwl1 hb1.size
          replace hwl2 := Nat.le_trans hwl2 hb1.size
          clear hb1
          go_wp2_with fail
          go_ret
          exact ⟨ret_bool (by rw [Hv.out, Hno.out (by simp [setIn, hty])]; rfl), Hb.out.alloc hwl _⟩
        | some fd =>
          refine (typeOf_at s ⟨a0, k0, a1, k1, some ⟨b, off, none⟩, k2, a3, k3, a4, k4, a5, k5⟩ r.schema x.field fd hty wb Hs.out _ (Hbb.out.trans (Hb.out.mono Hbb.out.size))).mono ?_
          rintro e w3 ⟨⟨an, kn, rfl, hnf⟩, hb1⟩
          have Hnf := Lib.hid hnf
          have Hty := Lib.hid hty
          clear hnf hty
          replace x0 := cell_kept hb1 x0 hl_x
          replace x1 := cell_kept hb1 x1 hl_x
          replace x2 := cell_kept hb1 x2 hl_x
          replace x3 := cell_kept hb1 x3 hl_x
          replace x4 := cell_kept hb1 x4 hl_x
          replace x5 := cell_kept hb1 x5 hl_x
          replace x6 := cell_kept hb1 x6 hl_x
          replace x7 := cell_kept hb1 x7 hl_x
          replace x8 := cell_kept hb1 x8 hl_x
          replace x9 := cell_kept hb1 x9 hl_x
          replace x10 := cell_kept hb1 x10 hl_x
          replace v0 := cell_kept hb1 v0 hl_v
          replace v1 := cell_kept hb1 v1 hl_v
          replace v2 := cell_kept hb1 v2 hl_v
          replace v3 := cell_kept hb1 v3 hl_v
          replace v4 := cell_kept hb1 v4 hl_v
          replace v5 := cell_kept hb1 v5 hl_v
          replace v6 := cell_kept hb1 v6 hl_v
          replace Hb := Lib.hid (Hb.out.trans (hb1.mono hwl))
          replace Hb1 := Lib.hid (Hb1.out.trans (hb1.mono hwl1))
          replace Hb2 := Lib.hid (Hb2.out.trans (hb1.mono hwl2))
          replace hl_x := Nat.lt_of_lt_of_le hl_x hb1.size
          replace hl_v := Nat.lt_of_lt_of_le hl_v hb1.size
          replace hwl := Nat.le_trans hwl hb1.size
          replace hwl1 := Nat.le_trans hwl1 hb1.size
          replace hwl2 := Nat.le_trans hwl2 hb1.size
          replace HO := Lib.hid (HO.out.below hb1)
          clear hb1
          by_cases hx0 : x.field = 0
          · have q0 : (x.field == 0) = true := by simpa using hx0
            have Hx0 := Lib.hid hx0
            clear hx0
            go_wp2_with fail
            all_goals (try (exfalso; have := Hx0.out; simp at *; omega))
            all_goals go_ret
            all_goals exact ⟨ret_bool (by rw [Hv.out, Hno.out (by unfold setIn; rw [Hty.out]; simp [Hx0.out])]; rfl), Hb.out.alloc hwl _⟩
          · have q0 : (x.field == 0) = false := by simpa using hx0
            have Hx0 := Lib.hid hx0
            clear hx0
            go_wp2_with fail
            generalize hw0 : World.alloc _ _ = w4
            obtain ⟨X0, hsz, hb1⟩ := blk1 hw0
            have u0 : w4.cell? ⟨w3.heap.size, 0, none⟩ = some (.int .i64 fd.kind) := X0.cell 0
            have u1 : w4.cell? ⟨w3.heap.size, 1, none⟩ = some (.int .i64 fd.lo) := X0.cell 1
            have u2 : w4.cell? ⟨w3.heap.size, 2, none⟩ = some (.int .i64 fd.hi) := X0.cell 2
            have u3 : w4.cell? ⟨w3.heap.size, 3, none⟩ = some (.string fd.of_) := X0.cell 3
            have u4 : w4.cell? ⟨w3.heap.size, 4, none⟩ = some (.int .i64 fd.unit) := X0.cell 4
            have u5 : w4.cell? ⟨w3.heap.size, 5, none⟩ = some (.slice an fd.names.length kn) := X0.cell 5
            have hl_u : w3.heap.size < w4.heap.size := by omega
            replace x0 := cell_kept hb1 x0 hl_x
            replace x1 := cell_kept hb1 x1 hl_x
            replace x2 := cell_kept hb1 x2 hl_x
            replace x3 := cell_kept hb1 x3 hl_x
            replace x4 := cell_kept hb1 x4 hl_x
            replace x5 := cell_kept hb1 x5 hl_x
            replace x6 := cell_kept hb1 x6 hl_x
            replace x7 := cell_kept hb1 x7 hl_x
            replace x8 := cell_kept hb1 x8 hl_x
            replace x9 := cell_kept hb1 x9 hl_x
            replace x10 := cell_kept hb1 x10 hl_x
            replace v0 := cell_kept hb1 v0 hl_v
            replace v1 := cell_kept hb1 v1 hl_v
            replace v2 := cell_kept hb1 v2 hl_v
            replace v3 := cell_kept hb1 v3 hl_v
            replace v4 := cell_kept hb1 v4 hl_v
            replace v5 := cell_kept hb1 v5 hl_v
            replace v6 := cell_kept hb1 v6 hl_v
            replace Hb := Lib.hid (Hb.out.trans (hb1.mono hwl))
            replace Hb1 := Lib.hid (Hb1.out.trans (hb1.mono hwl1))
            replace Hb2 := Lib.hid (Hb2.out.trans (hb1.mono hwl2))
            replace hl_x := Nat.lt_of_lt_of_le hl_x hb1.size
            replace hl_v := Nat.lt_of_lt_of_le hl_v hb1.size
            replace hwl := Nat.le_trans hwl hb1.size
            replace hwl1 := Nat.le_trans hwl1 hb1.size
            replace hwl2 := Nat.le_trans hwl2 hb1.size
            replace HO := Lib.hid (HO.out.below hb1)
            clear hb1
            clear hw0 hsz X0
            refine (setOK_any s ⟨a0, k0, a1, k1, some ⟨b, off, none⟩, k2, a3, k3, a4, k4, a5, k5⟩ r ⟨f2, l2, f3, l3, some ⟨b1, o1, none⟩, l4⟩ fd an kn x.term wb Hs.out Hr.out Hnf.out _ (Hbb.out.trans (Hb.out.mono Hbb.out.size)) hsh).mono ?_
            rintro e w6 ⟨rfl, hb1⟩
            replace x0 := cell_kept hb1 x0 hl_x
            replace x1 := cell_kept hb1 x1 hl_x
            replace x2 := cell_kept hb1 x2 hl_x
            replace x3 := cell_kept hb1 x3 hl_x
            replace x4 := cell_kept hb1 x4 hl_x
            replace x5 := cell_kept hb1 x5 hl_x
            replace x6 := cell_kept hb1 x6 hl_x
            replace x7 := cell_kept hb1 x7 hl_x
            replace x8 := cell_kept hb1 x8 hl_x
            replace x9 := cell_kept hb1 x9 hl_x
            replace x10 := cell_kept hb1 x10 hl_x
            replace v0 := cell_kept hb1 v0 hl_v
            replace v1 := cell_kept hb1 v1 hl_v
            replace v2 := cell_kept hb1 v2 hl_v
            replace v3 := cell_kept hb1 v3 hl_v
            replace v4 := cell_kept hb1 v4 hl_v
            replace v5 := cell_kept hb1 v5 hl_v
            replace v6 := cell_kept hb1 v6 hl_v
            replace u0 := cell_kept hb1 u0 hl_u
            replace u1 := cell_kept hb1 u1 hl_u
            replace u2 := cell_kept hb1 u2 hl_u
            replace u3 := cell_kept hb1 u3 hl_u
            replace u4 := cell_kept hb1 u4 hl_u
            replace u5 := cell_kept hb1 u5 hl_u
            replace Hb := Lib.hid (Hb.out.trans (hb1.mono hwl))
            replace Hb1 := Lib.hid (Hb1.out.trans (hb1.mono hwl1))
            replace Hb2 := Lib.hid (Hb2.out.trans (hb1.mono hwl2))
            replace hl_x := Nat.lt_of_lt_of_le hl_x hb1.size
            replace hl_v := Nat.lt_of_lt_of_le hl_v hb1.size
            replace hl_u := Nat.lt_of_lt_of_le hl_u hb1.size
            replace hwl := Nat.le_trans hwl hb1.size
            replace hwl1 := Nat.le_trans hwl1 hb1.size
            replace hwl2 := Nat.le_trans hwl2 hb1.size
            replace HO := Lib.hid (HO.out.below hb1)
            clear hb1
            cases hsb2 : setB s r.froms fd x.term with
            | false =>
              go_wp2
              go_ret
              exact ⟨ret_bool (by rw [Hv.out, Hno.out (by simp [setIn, Hty.out, hsb2])]; rfl), Hb.out⟩
            | true =>
              have hmax : ((r.sets.take j).map (·.field)).length + 1 ≤ maxLen := by rw [Hlen.out]; unfold maxLen; omega
              have hbyt : (((r.sets.take j).map (·.field)).length + 1) * 8 ≤ 140737488355328 := by rw [Hlen.out]; omega
              go_wp2_with (at_builtin; refine wpList_append_own _ rfl _ _ 50 rfl w5.heap.size 3 i0 (.int .i64 0) 1 8 Try.underlying50 hi hz0 hz1 hz2 rfl (by decide) _ _ _ rfl ((HO.out.alloc _).row) ⟨w6.heap.size, 0, none⟩ 1 1 (encI x.field) rfl rfl (cells_new _ _ _) (by simp [encI, Value.oneCell']) hmax hbyt (by simp; omega) ?_; intro v' w7 hown hgrow hnil)
              go_roundw
              case rel => exact ⟨j + 1, by omega, by go_num, Lib.hid (by rw [Htk.out]; exact OwnL.snoc hown), Lib.hid (Hsuc.out (by simp [setIn, Hty.out, hsb2, Hx0.out])), Lib.hid (fun n hn => by
                rw [Htk.out] at hn
                simp only [List.mem_append, List.mem_singleton] at hn
                rcases hn with hn | rfl
                · exact HW.out n hn
                · exact Hfw.out), (Hb2.out.alloc hwl2 _).grown hgrow (by simp; omega) HO.out.ge⟩
              case measure => simp [intOf]; omega
end Go.Proofs.Ytogenjbabgibbaa
namespace Go.Proofs.Ytogenjbabgibbaa
open Go.RowKit
/-- the lengths under which the walks hold -/
structure Few (s : SourceD) : Prop where
  names : ∀ x ∈ s.schemas, ∀ f ∈ x.fields, f.ty.names.length ≤ 100000
  fields : ∀ x ∈ s.schemas, x.fields.length ≤ 100000
theorem typeOf?_mem {s : SourceD} {i j : Int} {t : TyD} (h : typeOf? s i j = some t) : ∃ x ∈ s.schemas, ∃ f ∈ x.fields, f.ty = t := by
  unfold typeOf? at h
  by_cases h0 : 0 ≤ i ∧ 0 ≤ j
  · rw [if_pos h0] at h
    cases h1 : s.schemas[i.toNat]? with
    | none => rw [h1] at h; cases h
    | some x =>
      rw [h1] at h
      simp only at h
      cases h2 : x.fields[j.toNat]? with
      | none => rw [h2] at h; cases h
      | some f =>
        rw [h2] at h
        simp only [Option.some.injEq] at h
        exact ⟨x, List.mem_of_getElem? h1, f, List.mem_of_getElem? h2, h⟩
  · rw [if_neg h0] at h; cases h
theorem Few.short {s : SourceD} (h : Few s) : Short s := fun i j t ht => by
  obtain ⟨x, hx, f, hf, rfl⟩ := typeOf?_mem ht
  exact h.names x hx f hf
theorem good_of {s : SourceD} (h : s.schemas.all (schB s) = true) : Good s := fun i j t ht => by
  obtain ⟨x, hx, f, hf, rfl⟩ := typeOf?_mem ht
  have h1 := List.all_eq_true.1 h x hx
  unfold schB at h1
  simp only [Bool.and_eq_true] at h1
  have h2 := List.all_eq_true.1 h1.2.2 f hf
  unfold fieldB at h2
  simp only [Bool.and_eq_true] at h2
  exact h2.1
def limB (s : SourceD) : Bool := (decide (s.issuers.length ≤ 8) && (decide (s.units.length ≤ 64) && (decide (s.schemas.length ≤ 16) && (decide (s.rules.length ≤ 16) && (decide (s.converts ≤ 16) && decide (s.purposes.length ≤ 8)))))) && !(s.purposes.any fun x => decide (64 < x.may.length))
theorem pred52 (l : List PurposeD) (w : World) : PredI 52 #[] #[] RPurposeD l (fun x => decide (64 < x.may.length)) w := fun W x es _ hb hr => by
  obtain ⟨a0, k0, rfl, _⟩ := RPurposeD.flat hr
  clear hb hr
  show Calls Try.prog 52 #[.agg #[.string x.name, .slice a0 x.may.length k0, .int .i64 x.most]] W _
  go_enter Try.func52, Try.ntmps52
  go_wp2
  go_ret
  exact ⟨ret_bool (by simp; try omega), alloc1 _ _ _⟩
set_option maxRecDepth 20000 in
set_option maxHeartbeats 4000000 in
theorem limited_any (s : SourceD) (p : SrcAt) (w : World) (hs : Src w s p) :
    Calls Try.prog 23 #[s.val p] w fun e w' => e = .returned (.bool (limB s)) ∧ Below w.heap.size w w' := by
  obtain ⟨a0, k0, a1, k1, a2, k2, a3, k3, a4, k4, a5, k5⟩ := p
  by_cases hd : s.issuers.length ≤ 8 ∧ s.units.length ≤ 64 ∧ s.schemas.length ≤ 16 ∧ s.rules.length ≤ 16 ∧ s.converts ≤ 16 ∧ s.purposes.length ≤ 8
  case neg =>
    have Hd := Lib.hid hd
    clear hs hd
    go_enter Try.func23, Try.ntmps23
    go_wp2_with fail
    all_goals (try (exfalso; have := Hd.out; omega))
    all_goals go_ret
    all_goals exact ⟨ret_bool (by have := Hd.out; simp [limB]; intros; omega), by (repeat (first | exact Below.refl _ _ | refine Below.alloc ?_ (by first | (simp; done) | (simp; omega)) _ | refine Below.setCell ?_ (by first | (simp; done) | (simp; omega)) _ | refine below_drewN ?_ _))⟩
  have Hv := Lib.hid (show limB s = !(s.purposes.any fun x => decide (64 < x.may.length)) by simp [limB, hd])
  obtain ⟨h1, h2, h3, h4, h5, h6⟩ := hd
  have Hs := Lib.hid hs
  clear hs
  have e52 : ∀ args w, (callFunc 52 args).run Try.prog w = .ok (.enter 52 args) w := enters_of Try.func52 (by kernel_rfl) rfl
  go_enter Try.func23, Try.ntmps23
  go_wp2_with fail
  all_goals (try (exfalso; omega))
  generalize hw0 : World.alloc _ _ = w0
  obtain ⟨X0, hsz, hb0⟩ := blk1 hw0
  have x0 : w0.cell? ⟨w.heap.size, 0, none⟩ = some (.slice a0 s.issuers.length k0) := X0.cell 0
  have x1 : w0.cell? ⟨w.heap.size, 1, none⟩ = some (.slice a1 s.units.length k1) := X0.cell 1
  have x2 : w0.cell? ⟨w.heap.size, 2, none⟩ = some (.slice a2 s.schemas.length k2) := X0.cell 2
  have x3 : w0.cell? ⟨w.heap.size, 3, none⟩ = some (.slice a3 s.rules.length k3) := X0.cell 3
  have x4 : w0.cell? ⟨w.heap.size, 4, none⟩ = some (.slice a4 s.converts k4) := X0.cell 4
  have x5 : w0.cell? ⟨w.heap.size, 5, none⟩ = some (.slice a5 s.purposes.length k5) := X0.cell 5
  have hl_x : w.heap.size < w0.heap.size := by omega
  have hwl : w.heap.size ≤ w0.heap.size := hb0.size
  have Hb := Lib.hid hb0
  clear hw0 hb0 hsz X0
  refine (conP a5 k5 s.purposes 52 #[] #[] _ _ (((Hs.out.below Hb.out).h5)) (pred52 _ _) (by omega) e52).mono ?_
  rintro e w1 ⟨rfl, hb1⟩
  replace x0 := cell_kept hb1 x0 hl_x
  replace x1 := cell_kept hb1 x1 hl_x
  replace x2 := cell_kept hb1 x2 hl_x
  replace x3 := cell_kept hb1 x3 hl_x
  replace x4 := cell_kept hb1 x4 hl_x
  replace x5 := cell_kept hb1 x5 hl_x
  replace Hb := Lib.hid (Hb.out.trans (hb1.mono hwl))
  replace hl_x := Nat.lt_of_lt_of_le hl_x hb1.size
  replace hwl := Nat.le_trans hwl hb1.size
  clear hb1
  go_wp2
  go_ret
  exact ⟨ret_bool (by rw [Hv.out]), Hb.out⟩
theorem pred27 (s : SourceD) (p : SrcAt) (l : List UnitD) (w : World) (hs : Src w s p) : PredI 27 #[s.val p] #[] RUnitD l (unitB s.units) w := fun W x es _ hb hr => by
  obtain ⟨rfl, _⟩ := RUnitD.flat hr
  exact unitOK_any s p x W (hs.below hb)
theorem pred29 (s : SourceD) (p : SrcAt) (w : World) (hf : Few s) : PredI 29 #[s.val p] #[] RSchemaD s.schemas (schB s) w := fun W x es hx _ hr => by
  obtain ⟨a0, k0, a1, k1, rfl, h, _⟩ := RSchemaD.flat hr
  exact schemaOK_any s p x a0 k0 a1 k1 W (by first | exact h | exact h.1) W (Below.refl _ _) (hf.names x hx)
theorem pred32 (s : SourceD) (p : SrcAt) (w : World) (hs : Src w s p) (hl : ∀ x ∈ s.purposes, x.may.length ≤ 100000) : PredI 32 #[s.val p] #[] RPurposeD s.purposes (purpB s) w := fun W x es hx hb hr => by
  obtain ⟨a0, k0, rfl, h, _⟩ := RPurposeD.flat hr
  exact purposeOK_any s p x a0 k0 W (hs.below hb) h W (Below.refl _ _) (hl x hx)
theorem pred24 (s : SourceD) (b : Nat) (a0 a1 a2 a3 a4 a5 : Option Addr) (k0 k1 k2 k3 k4 k5 : Nat) (l : List RuleD) (w : World) (hs : Src w s ⟨a0, k0, a1, k1, a2, k2, a3, k3, a4, k4, a5, k5⟩) (hlb : b < w.heap.size)
    (H : ∀ i v, [.slice a0 s.issuers.length k0, .slice a1 s.units.length k1, .slice a2 s.schemas.length k2, .slice a3 s.rules.length k3, .slice a4 s.converts k4, .slice a5 s.purposes.length k5][i]? = some v → w.cell? ⟨b, i, none⟩ = some v) (hsh : Short s) (hgd : Good s) (hsf : ShortF s) :
    PredI 24 #[] #[.pointer (some ⟨b, 0, none⟩)] RRuleD l (ruleB s) w := fun W x es _ hb hr => by
  have c0 : W.cell? ⟨b, 0, none⟩ = some (.slice a0 s.issuers.length k0) := (hb.cell (p := ⟨b, 0, none⟩) hlb).trans (H 0 _ rfl)
  have c1 : W.cell? ⟨b, 1, none⟩ = some (.slice a1 s.units.length k1) := (hb.cell (p := ⟨b, 1, none⟩) hlb).trans (H 1 _ rfl)
  have c2 : W.cell? ⟨b, 2, none⟩ = some (.slice a2 s.schemas.length k2) := (hb.cell (p := ⟨b, 2, none⟩) hlb).trans (H 2 _ rfl)
  have c3 : W.cell? ⟨b, 3, none⟩ = some (.slice a3 s.rules.length k3) := (hb.cell (p := ⟨b, 3, none⟩) hlb).trans (H 3 _ rfl)
  have c4 : W.cell? ⟨b, 4, none⟩ = some (.slice a4 s.converts k4) := (hb.cell (p := ⟨b, 4, none⟩) hlb).trans (H 4 _ rfl)
  have c5 : W.cell? ⟨b, 5, none⟩ = some (.slice a5 s.purposes.length k5) := (hb.cell (p := ⟨b, 5, none⟩) hlb).trans (H 5 _ rfl)
  have hl_c : b < W.heap.size := Nat.lt_of_lt_of_le hlb hb.size
  obtain ⟨f2, l2, f3, l3, f4, l4, rfl, g2, g3, g4, _⟩ := RRuleD.flat hr
  have Hs := Lib.hid (hs.below hb)
  have Hr := Lib.hid (show Rul W x ⟨f2, l2, f3, l3, f4, l4⟩ from ⟨g2, g3, g4⟩)
  have hne : b ≠ W.heap.size := by omega
  clear hs hr H hb hlb g2 g3 g4
  show Calls Try.prog 24 #[.agg #[.string x.head, .int .i64 x.schema, .slice f2 x.froms.length l2, .slice f3 x.where_.length l3, .slice f4 x.sets.length l4], .pointer (some ⟨b, 0, none⟩)] W _
  go_enter Try.func24, Try.ntmps24
  go_wp2_with (go_at_call 25; refine (ruleOK_any s ⟨a0, k0, a1, k1, a2, k2, a3, k3, a4, k4, a5, k5⟩ x ⟨f2, l2, f3, l3, f4, l4⟩ W Hs.out Hr.out _ (alloc1 _ _ _) hsh hgd hsf).mono ?_; rintro e w' ⟨rfl, hb'⟩)
  go_ret
  exact ⟨rfl, (alloc1 _ _ _).trans (hb'.mono (by simp))⟩
def checkB (s : SourceD) : Int := if limB s then (if s.units.all (unitB s.units) && (s.schemas.all (schB s) && (s.rules.all (ruleB s) && s.purposes.all (purpB s))) then 0 else 120) else 2
end Go.Proofs.Ytogenjbabgibbaa
namespace Go.Proofs.Ytogenjbabgibbaa
open Go.RowKit
theorem usable_facts {s : SourceD} {r : RefD} {t : TyD} (h : usable? s r = some t) : typeOf? s r.schema r.field = some t ∧ goodT s t = true := by
  unfold usable? at h
  split at h
  · next u hu =>
    unfold goodO at h
    split at h
    · next hg =>
      simp only [Option.some.injEq] at h
      subst h
      exact ⟨hu, hg⟩
    · cases h
  · cases h
def valueB (s : SourceD) (i j v : Int) : Bool := match typeOf? s i j with | some t => kindB t s.units.length && (decide (t.lo ≤ v) && decide (v ≤ t.hi)) | none => false
set_option maxRecDepth 20000 in
set_option maxHeartbeats 4000000 in
theorem value_any (s : SourceD) (p : SrcAt) (i j v : Int) (w : World) (hs : Src w s p) (hsh : Short s) :
    Calls Try.prog 15 #[s.val p, .int .i64 i, .int .i64 j, .int .i64 v] w fun e w' => e = .returned (.bool (valueB s i j v)) ∧ Below w.heap.size w w' := by
  obtain ⟨a0, k0, a1, k1, a2, k2, a3, k3, a4, k4, a5, k5⟩ := p
  have Hs := Lib.hid hs
  clear hs
  go_enter Try.func15, Try.ntmps15
  go_wp2_with fail
  generalize hw0 : World.alloc _ _ = w0
  obtain ⟨X0, X1, hsz, hb0⟩ := blk2 hw0
  have x0 : w0.cell? ⟨w.heap.size, 0, none⟩ = some (.slice a0 s.issuers.length k0) := X0.cell 0
  have x1 : w0.cell? ⟨w.heap.size, 1, none⟩ = some (.slice a1 s.units.length k1) := X0.cell 1
  have x2 : w0.cell? ⟨w.heap.size, 2, none⟩ = some (.slice a2 s.schemas.length k2) := X0.cell 2
  have x3 : w0.cell? ⟨w.heap.size, 3, none⟩ = some (.slice a3 s.rules.length k3) := X0.cell 3
  have x4 : w0.cell? ⟨w.heap.size, 4, none⟩ = some (.slice a4 s.converts k4) := X0.cell 4
  have x5 : w0.cell? ⟨w.heap.size, 5, none⟩ = some (.slice a5 s.purposes.length k5) := X0.cell 5
  have hl_x : w.heap.size < w0.heap.size := by omega
  have y0 : w0.cell? ⟨w.heap.size + 1, 0, none⟩ = some (.slice a0 s.issuers.length k0) := X1.cell 0
  have y1 : w0.cell? ⟨w.heap.size + 1, 1, none⟩ = some (.slice a1 s.units.length k1) := X1.cell 1
  have y2 : w0.cell? ⟨w.heap.size + 1, 2, none⟩ = some (.slice a2 s.schemas.length k2) := X1.cell 2
  have y3 : w0.cell? ⟨w.heap.size + 1, 3, none⟩ = some (.slice a3 s.rules.length k3) := X1.cell 3
  have y4 : w0.cell? ⟨w.heap.size + 1, 4, none⟩ = some (.slice a4 s.converts k4) := X1.cell 4
  have y5 : w0.cell? ⟨w.heap.size + 1, 5, none⟩ = some (.slice a5 s.purposes.length k5) := X1.cell 5
  have hl_y : w.heap.size + 1 < w0.heap.size := by omega
  have hwl : w.heap.size ≤ w0.heap.size := hb0.size
  have Hb := Lib.hid hb0
  clear hw0 hb0 hsz X0 X1
  cases ht : typeOf? s i j with
  | none =>
    refine (typeOf_no s ⟨a0, k0, a1, k1, a2, k2, a3, k3, a4, k4, a5, k5⟩ i j ht _ (Hs.out.below Hb.out)).mono ?_
    rintro e w1 ⟨rfl, hb1⟩
    replace x0 := cell_kept hb1 x0 hl_x
    replace x1 := cell_kept hb1 x1 hl_x
    replace x2 := cell_kept hb1 x2 hl_x
    replace x3 := cell_kept hb1 x3 hl_x
    replace x4 := cell_kept hb1 x4 hl_x
    replace x5 := cell_kept hb1 x5 hl_x
    replace y0 := cell_kept hb1 y0 hl_y
    replace y1 := cell_kept hb1 y1 hl_y
    replace y2 := cell_kept hb1 y2 hl_y
    replace y3 := cell_kept hb1 y3 hl_y
    replace y4 := cell_kept hb1 y4 hl_y
    replace y5 := cell_kept hb1 y5 hl_y
    replace Hb := Lib.hid (Hb.out.trans (hb1.mono hwl))
    replace hl_x := Nat.lt_of_lt_of_le hl_x hb1.size
    replace hl_y := Nat.lt_of_lt_of_le hl_y hb1.size
    replace hwl := Nat.le_trans hwl hb1.size
    clear hb1
    go_wp2_with fail
    go_ret
    exact ⟨ret_bool (by simp [valueB, ht]), Hb.out.alloc hwl _⟩
  | some t =>
    refine (typeOf_at s ⟨a0, k0, a1, k1, a2, k2, a3, k3, a4, k4, a5, k5⟩ i j t ht _ (Hs.out.below Hb.out) _ (Below.refl _ _)).mono ?_
    rintro e w1 ⟨⟨an, kn, rfl, hnf⟩, hb1⟩
    have Hnf := Lib.hid (hnf.below RStr.stab hb1)
    have hl := hsh i j t ht
    have Hv := Lib.hid (show valueB s i j v = (kindB t s.units.length && (decide (t.lo ≤ v) && decide (v ≤ t.hi))) by simp [valueB, ht])
    clear hnf ht
    replace x0 := cell_kept hb1 x0 hl_x
    replace x1 := cell_kept hb1 x1 hl_x
    replace x2 := cell_kept hb1 x2 hl_x
    replace x3 := cell_kept hb1 x3 hl_x
    replace x4 := cell_kept hb1 x4 hl_x
    replace x5 := cell_kept hb1 x5 hl_x
    replace y0 := cell_kept hb1 y0 hl_y
    replace y1 := cell_kept hb1 y1 hl_y
    replace y2 := cell_kept hb1 y2 hl_y
    replace y3 := cell_kept hb1 y3 hl_y
    replace y4 := cell_kept hb1 y4 hl_y
    replace y5 := cell_kept hb1 y5 hl_y
    replace Hb := Lib.hid (Hb.out.trans (hb1.mono hwl))
    replace hl_x := Nat.lt_of_lt_of_le hl_x hb1.size
    replace hl_y := Nat.lt_of_lt_of_le hl_y hb1.size
    replace hwl := Nat.le_trans hwl hb1.size
    clear hb1
    go_wp2_with fail
    generalize hw0 : World.alloc _ _ = w2
    obtain ⟨X0, hsz, hb1⟩ := blk1 hw0
    have v0 : w2.cell? ⟨w1.heap.size, 0, none⟩ = some (.int .i64 t.kind) := X0.cell 0
    have v1 : w2.cell? ⟨w1.heap.size, 1, none⟩ = some (.int .i64 t.lo) := X0.cell 1
    have v2 : w2.cell? ⟨w1.heap.size, 2, none⟩ = some (.int .i64 t.hi) := X0.cell 2
    have v3 : w2.cell? ⟨w1.heap.size, 3, none⟩ = some (.string t.of_) := X0.cell 3
    have v4 : w2.cell? ⟨w1.heap.size, 4, none⟩ = some (.int .i64 t.unit) := X0.cell 4
    have v5 : w2.cell? ⟨w1.heap.size, 5, none⟩ = some (.slice an t.names.length kn) := X0.cell 5
    have hl_v : w1.heap.size < w2.heap.size := by omega
    replace x0 := cell_kept hb1 x0 hl_x
    replace x1 := cell_kept hb1 x1 hl_x
    replace x2 := cell_kept hb1 x2 hl_x
    replace x3 := cell_kept hb1 x3 hl_x
    replace x4 := cell_kept hb1 x4 hl_x
    replace x5 := cell_kept hb1 x5 hl_x
    replace y0 := cell_kept hb1 y0 hl_y
    replace y1 := cell_kept hb1 y1 hl_y
    replace y2 := cell_kept hb1 y2 hl_y
    replace y3 := cell_kept hb1 y3 hl_y
    replace y4 := cell_kept hb1 y4 hl_y
    replace y5 := cell_kept hb1 y5 hl_y
    replace Hb := Lib.hid (Hb.out.trans (hb1.mono hwl))
    replace hl_x := Nat.lt_of_lt_of_le hl_x hb1.size
    replace hl_y := Nat.lt_of_lt_of_le hl_y hb1.size
    replace hwl := Nat.le_trans hwl hb1.size
    replace Hnf := Lib.hid (Hnf.out.below RStr.stab hb1)
    clear hb1
    clear hw0 hsz X0
    refine (typeOK_any s ⟨a0, k0, a1, k1, a2, k2, a3, k3, a4, k4, a5, k5⟩ t an kn _ Hnf.out hl).mono ?_
    rintro e w3 ⟨rfl, hb1⟩
    replace x0 := cell_kept hb1 x0 hl_x
    replace x1 := cell_kept hb1 x1 hl_x
    replace x2 := cell_kept hb1 x2 hl_x
    replace x3 := cell_kept hb1 x3 hl_x
    replace x4 := cell_kept hb1 x4 hl_x
    replace x5 := cell_kept hb1 x5 hl_x
    replace y0 := cell_kept hb1 y0 hl_y
    replace y1 := cell_kept hb1 y1 hl_y
    replace y2 := cell_kept hb1 y2 hl_y
    replace y3 := cell_kept hb1 y3 hl_y
    replace y4 := cell_kept hb1 y4 hl_y
    replace y5 := cell_kept hb1 y5 hl_y
    replace v0 := cell_kept hb1 v0 hl_v
    replace v1 := cell_kept hb1 v1 hl_v
    replace v2 := cell_kept hb1 v2 hl_v
    replace v3 := cell_kept hb1 v3 hl_v
    replace v4 := cell_kept hb1 v4 hl_v
    replace v5 := cell_kept hb1 v5 hl_v
    replace Hb := Lib.hid (Hb.out.trans (hb1.mono hwl))
    replace hl_x := Nat.lt_of_lt_of_le hl_x hb1.size
    replace hl_y := Nat.lt_of_lt_of_le hl_y hb1.size
    replace hl_v := Nat.lt_of_lt_of_le hl_v hb1.size
    replace hwl := Nat.le_trans hwl hb1.size
    clear hb1
    cases hk : kindB t s.units.length with
    | false =>
      go_wp2
      go_ret
      exact ⟨ret_bool (by rw [Hv.out, hk]; rfl), Hb.out⟩
    | true =>
      have Hk := Lib.hid hk
      clear hk
      by_cases hlo : t.lo ≤ v
      · go_wp2
        all_goals go_ret
        all_goals exact ⟨ret_bool (by rw [Hv.out, Hk.out]; simp [*]; try omega), Hb.out⟩
      · go_wp2
        all_goals go_ret
        all_goals exact ⟨ret_bool (by rw [Hv.out, Hk.out]; simp [*]; try omega), Hb.out⟩
def scaleOf (us : List UnitD) (n : Int) : Int := match us[n.toNat]? with | some u => u.scale | none => 0
def baseV (s : SourceD) (r : RefD) (v : Int) : Int × Int := match usable? s r with | some t => if 0 ≤ v ∧ v ≤ 1048576 then (if 0 ≤ t.unit then (v * scaleOf s.units t.unit, 0) else (v, 0)) else (0, 120) | none => (0, 120)
theorem goodT_unit {s : SourceD} {t : TyD} (h : goodT s t = true) (h0 : 0 ≤ t.unit) : ∃ hlt : t.unit.toNat < s.units.length, t.unit < s.units.length ∧ unitB s.units s.units[t.unit.toNat] = true := by
  unfold goodT at h
  simp only [Bool.and_eq_true] at h
  have hk := kindB_unit h.1
  have hlt : t.unit.toNat < s.units.length := by omega
  refine ⟨hlt, hk.2, ?_⟩
  have h2 := h.2
  simp only [Bool.or_eq_true, decide_eq_true_eq] at h2
  rcases h2 with h2 | h2
  · omega
  · unfold unitAt at h2
    rw [List.getElem?_eq_getElem hlt] at h2
    exact h2
theorem unitB_scale {us : List UnitD} {u : UnitD} (h : unitB us u = true) : 1 ≤ u.scale ∧ u.scale ≤ 1099511627776 := by
  unfold unitB at h
  simp only [Bool.and_eq_true, decide_eq_true_eq] at h
  exact ⟨h.1.1.1, h.1.1.2⟩
theorem ret_2 {k k' : IntKind} {a b c d : Int} (h : (a, b) = (c, d)) : Ending.returned (.tuple #[.int k a, .int k' b]) = .returned (.tuple #[.int k c, .int k' d]) := by cases h; rfl
set_option maxRecDepth 20000 in
set_option maxHeartbeats 4000000 in
theorem base_any (s : SourceD) (p : SrcAt) (r : RefD) (v : Int) (w : World) (hs : Src w s p) (hsh : Short s) :
    Calls Try.prog 13 #[s.val p, r.val, .int .i64 v] w fun e w' => e = .returned (.tuple #[.int .i64 (baseV s r v).1, .int .i64 (baseV s r v).2]) ∧ Below w.heap.size w w' := by
  obtain ⟨a0, k0, a1, k1, a2, k2, a3, k3, a4, k4, a5, k5⟩ := p
  have Hs := Lib.hid hs
  clear hs
  go_enter Try.func13, Try.ntmps13
  go_wp2_with fail
  generalize hw0 : World.alloc _ _ = w0
  obtain ⟨X0, X1, X2, hsz, hb0⟩ := blk3 hw0
  have x0 : w0.cell? ⟨w.heap.size, 0, none⟩ = some (.slice a0 s.issuers.length k0) := X0.cell 0
  have x1 : w0.cell? ⟨w.heap.size, 1, none⟩ = some (.slice a1 s.units.length k1) := X0.cell 1
  have x2 : w0.cell? ⟨w.heap.size, 2, none⟩ = some (.slice a2 s.schemas.length k2) := X0.cell 2
  have x3 : w0.cell? ⟨w.heap.size, 3, none⟩ = some (.slice a3 s.rules.length k3) := X0.cell 3
  have x4 : w0.cell? ⟨w.heap.size, 4, none⟩ = some (.slice a4 s.converts k4) := X0.cell 4
  have x5 : w0.cell? ⟨w.heap.size, 5, none⟩ = some (.slice a5 s.purposes.length k5) := X0.cell 5
  have hl_x : w.heap.size < w0.heap.size := by omega
  have z0 : w0.cell? ⟨w.heap.size + 1, 0, none⟩ = some (.string r.name) := X1.cell 0
  have z1 : w0.cell? ⟨w.heap.size + 1, 1, none⟩ = some (.string r.path) := X1.cell 1
  have z2 : w0.cell? ⟨w.heap.size + 1, 2, none⟩ = some (.int .i64 r.schema) := X1.cell 2
  have z3 : w0.cell? ⟨w.heap.size + 1, 3, none⟩ = some (.int .i64 r.field) := X1.cell 3
  have hl_z : w.heap.size + 1 < w0.heap.size := by omega
  have y0 : w0.cell? ⟨w.heap.size + 1 + 1, 0, none⟩ = some (.slice a0 s.issuers.length k0) := X2.cell 0
  have y1 : w0.cell? ⟨w.heap.size + 1 + 1, 1, none⟩ = some (.slice a1 s.units.length k1) := X2.cell 1
  have y2 : w0.cell? ⟨w.heap.size + 1 + 1, 2, none⟩ = some (.slice a2 s.schemas.length k2) := X2.cell 2
  have y3 : w0.cell? ⟨w.heap.size + 1 + 1, 3, none⟩ = some (.slice a3 s.rules.length k3) := X2.cell 3
  have y4 : w0.cell? ⟨w.heap.size + 1 + 1, 4, none⟩ = some (.slice a4 s.converts k4) := X2.cell 4
  have y5 : w0.cell? ⟨w.heap.size + 1 + 1, 5, none⟩ = some (.slice a5 s.purposes.length k5) := X2.cell 5
  have hl_y : w.heap.size + 1 + 1 < w0.heap.size := by omega
  have hwl : w.heap.size ≤ w0.heap.size := hb0.size
  have Hb := Lib.hid hb0
  clear hw0 hb0 hsz X0 X1 X2
  refine (usable_any s ⟨a0, k0, a1, k1, a2, k2, a3, k3, a4, k4, a5, k5⟩ r _ (Hs.out.below Hb.out) _ (Below.refl _ _) hsh).mono ?_
  cases hu : usable? s r with
  | none =>
    rintro e w1 ⟨⟨t, an, kn, rfl⟩, hb1⟩
    replace x0 := cell_kept hb1 x0 hl_x
    replace x1 := cell_kept hb1 x1 hl_x
    replace x2 := cell_kept hb1 x2 hl_x
    replace x3 := cell_kept hb1 x3 hl_x
    replace x4 := cell_kept hb1 x4 hl_x
    replace x5 := cell_kept hb1 x5 hl_x
    replace z0 := cell_kept hb1 z0 hl_z
    replace z1 := cell_kept hb1 z1 hl_z
    replace z2 := cell_kept hb1 z2 hl_z
    replace z3 := cell_kept hb1 z3 hl_z
    replace y0 := cell_kept hb1 y0 hl_y
    replace y1 := cell_kept hb1 y1 hl_y
    replace y2 := cell_kept hb1 y2 hl_y
    replace y3 := cell_kept hb1 y3 hl_y
    replace y4 := cell_kept hb1 y4 hl_y
    replace y5 := cell_kept hb1 y5 hl_y
    replace Hb := Lib.hid (Hb.out.trans (hb1.mono hwl))
    replace hl_x := Nat.lt_of_lt_of_le hl_x hb1.size
    replace hl_z := Nat.lt_of_lt_of_le hl_z hb1.size
    replace hl_y := Nat.lt_of_lt_of_le hl_y hb1.size
    replace hwl := Nat.le_trans hwl hb1.size
    clear hb1
    go_wp2_with fail
    refine bodyPost_ret (v := .tuple #[.int .i64 0, .int .i64 120]) (by simp [results, Try.f13, go_sem]) rfl ⟨?_, ?_⟩
    · exact ret_2 (by simp [baseV, hu])
    · exact Hb.out.alloc hwl _
  | some t =>
    rintro e w1 ⟨⟨an, kn, rfl, hnf⟩, hb1⟩
    obtain ⟨hty, hgd⟩ := usable_facts hu
    clear hnf hty
    replace x0 := cell_kept hb1 x0 hl_x
    replace x1 := cell_kept hb1 x1 hl_x
    replace x2 := cell_kept hb1 x2 hl_x
    replace x3 := cell_kept hb1 x3 hl_x
    replace x4 := cell_kept hb1 x4 hl_x
    replace x5 := cell_kept hb1 x5 hl_x
    replace z0 := cell_kept hb1 z0 hl_z
    replace z1 := cell_kept hb1 z1 hl_z
    replace z2 := cell_kept hb1 z2 hl_z
    replace z3 := cell_kept hb1 z3 hl_z
    replace y0 := cell_kept hb1 y0 hl_y
    replace y1 := cell_kept hb1 y1 hl_y
    replace y2 := cell_kept hb1 y2 hl_y
    replace y3 := cell_kept hb1 y3 hl_y
    replace y4 := cell_kept hb1 y4 hl_y
    replace y5 := cell_kept hb1 y5 hl_y
    replace Hb := Lib.hid (Hb.out.trans (hb1.mono hwl))
    replace hl_x := Nat.lt_of_lt_of_le hl_x hb1.size
    replace hl_z := Nat.lt_of_lt_of_le hl_z hb1.size
    replace hl_y := Nat.lt_of_lt_of_le hl_y hb1.size
    replace hwl := Nat.le_trans hwl hb1.size
    clear hb1
    by_cases hv : 0 ≤ v ∧ v ≤ 1048576
    case neg =>
      have Hv := Lib.hid (show baseV s r v = (0, 120) by simp only [baseV, hu, if_neg hv])
      have Hn := Lib.hid hv
      clear hv hu hgd
      go_wp2_with fail
      all_goals (try (exfalso; have := Hn.out; omega))
      all_goals refine bodyPost_ret (v := .tuple #[.int .i64 0, .int .i64 120]) (by simp [results, Try.f13, go_sem]) rfl ⟨?_, ?_⟩
      all_goals first | exact ret_2 Hv.out.symm | exact Hb.out.alloc hwl _
    case pos =>
      by_cases h0 : 0 ≤ t.unit
      case neg =>
        have Hv := Lib.hid (show baseV s r v = (v, 0) by simp only [baseV, hu, if_pos hv, if_neg h0])
        obtain ⟨hv1, hv2⟩ := hv
        clear hu hgd
        go_wp2_with fail
        all_goals (try (exfalso; omega))
        all_goals refine bodyPost_ret (v := .tuple #[.int .i64 v, .int .i64 0]) (by simp [results, Try.f13, go_sem]) rfl ⟨?_, ?_⟩
        all_goals first | exact ret_2 Hv.out.symm | exact Hb.out.alloc hwl _
      case pos =>
        obtain ⟨hlt, hlt2, hub⟩ := goodT_unit hgd h0
        obtain ⟨b, off, e1, hl_c, _, c0, c1, c2, c3, c4⟩ := UnitD.out ((Hs.out.below Hb.out).h1) t.unit.toNat hlt
        simp only at e1
        subst e1
        have Hv := Lib.hid (show baseV s r v = (v * s.units[t.unit.toNat].scale, 0) by simp only [baseV, hu, if_pos hv, if_pos h0, scaleOf, List.getElem?_eq_getElem hlt])
        generalize s.units[t.unit.toNat] = u at *
        obtain ⟨hs1, hs2⟩ := unitB_scale hub
        obtain ⟨hv1, hv2⟩ := hv
        have hm : IntKind.i64.wrap (v * u.scale) = v * u.scale := IntWalk.i64_in _ (by
          have h1 : 0 ≤ v * u.scale := Int.mul_nonneg hv1 (by omega)
          have h2 : v * u.scale ≤ 1048576 * 1099511627776 := Int.mul_le_mul hv2 hs2 (by omega) (by omega)
          omega)
        clear hu hgd hub
        go_wp2_with fail
        all_goals (try (exfalso; omega))
        all_goals refine bodyPost_ret (v := .tuple #[.int .i64 (v * u.scale), .int .i64 0]) (by simp [results, Try.f13, go_sem]) rfl ⟨?_, ?_⟩
        all_goals first | exact ret_2 Hv.out.symm | exact Hb.out.alloc hwl _
end Go.Proofs.Ytogenjbabgibbaa
namespace Go.Proofs.Ytogenjbabgibbaa
open Go.RowKit
def compareB (op a b : Int) : Bool := if op = 1 then decide (a = b) else if op = 2 then decide (a < b) else if op = 3 then decide (a ≤ b) else if op = 4 then !decide (a = b) else false
theorem und105 : Try.prog.underlying 105 = some (.map 3 30) := by kernel_rfl
theorem und3 : Try.prog.underlying 3 = some (.int .i64) := by kernel_rfl
set_option maxRecDepth 20000 in
theorem put105 (W : World) (es : Array MapEntry) (clock : Nat) (k : Int) (v : Value) (h : Instr.findNow (.int .i64) (.int .i64 k) es.toList 0 = some none) (r : Nat) (hr : W.heap.size = r) :
    (Instr.mapUpdate 105 (.map (some r)) (.int .i64 k) v).run Try.prog (W.alloc (.map es clock)) = .ok () (W.alloc (.map (es.push { key := .int .i64 k, val := v, born := clock }) (clock + 1))) := by
  subst hr
  have hb : (W.alloc (.map es clock)).heap[W.heap.size]? = some (.map es clock) := heap_alloc_new W _
  have hc : (Instr.checkKey false 10000 3 (.int .i64 k)).run Try.prog (W.alloc (.map es clock)) = .ok () (W.alloc (.map es clock)) := MapKept.run_checkKey (k := .int .i64 k) und3 (by simp [MapKept.IsKey]) false 9999
  simp [Instr.mapUpdate, run_underlying und105, MapKept.run_getObj_map hb, hc, MapKept.run_findKey und3 h, MapKept.run_setObj_map _ hb, Result.andThen]
  simp only [World.alloc]
  congr 1
  apply Array.ext_getElem?
  intro i
  by_cases hi : i = W.heap.size
  · subst hi; simp
  · rw [Array.getElem?_setIfInBounds_ne (by omega)]
    rcases Nat.lt_or_ge i W.heap.size with q | q
    · rw [Array.getElem?_push_lt q, Array.getElem?_push_lt q]
    · rw [Array.getElem?_eq_none (by simp; omega), Array.getElem?_eq_none (by simp; omega)]
set_option maxRecDepth 20000 in
theorem look105 (W : World) (es : Array MapEntry) (clock : Nat) (k : Int) (i : Nat) (v : Value) (h : Instr.findNow (.int .i64) (.int .i64 k) es.toList 0 = some (some (i, v))) (r : Nat) (hr : W.heap.size = r) :
    (Instr.lookup 105 (.map (some r)) (.int .i64 k) true).run Try.prog (W.alloc (.map es clock)) = .ok (.tuple #[v, .bool true]) (W.alloc (.map es clock)) := by
  subst hr
  have hb : (W.alloc (.map es clock)).heap[W.heap.size]? = some (.map es clock) := heap_alloc_new W _
  have hc : ∀ b, (Instr.checkKey b 10000 3 (.int .i64 k)).run Try.prog (W.alloc (.map es clock)) = .ok () (W.alloc (.map es clock)) := fun b => MapKept.run_checkKey (k := .int .i64 k) und3 (by simp [MapKept.IsKey]) b 9999
  simp [Instr.lookup, run_underlying und105, MapKept.run_getObj_map hb, hc, MapKept.run_findKey und3 h, Result.andThen]
set_option maxRecDepth 20000 in
theorem nolook105 (W : World) (es : Array MapEntry) (clock : Nat) (k : Int) (h : Instr.findNow (.int .i64) (.int .i64 k) es.toList 0 = some none) (r : Nat) (hr : W.heap.size = r) :
    (Instr.lookup 105 (.map (some r)) (.int .i64 k) true).run Try.prog (W.alloc (.map es clock)) = .ok (.tuple #[.nilFunc, .bool false]) (W.alloc (.map es clock)) := by
  subst hr
  have hb : (W.alloc (.map es clock)).heap[W.heap.size]? = some (.map es clock) := heap_alloc_new W _
  have hc : ∀ b, (Instr.checkKey b 10000 3 (.int .i64 k)).run Try.prog (W.alloc (.map es clock)) = .ok () (W.alloc (.map es clock)) := fun b => MapKept.run_checkKey (k := .int .i64 k) und3 (by simp [MapKept.IsKey]) b 9999
  have hz : ∀ w, (zeroValue 30).run Try.prog w = .ok .nilFunc w := fun w => by kernel_rfl
  simp [Instr.lookup, run_underlying und105, MapKept.run_getObj_map hb, hc, MapKept.run_findKey und3 h, hz, Result.andThen]
theorem cl45 (a b : Int) (i j : Nat) (w : World) (ha : w.cell? ⟨i, 0, none⟩ = some (.int .i64 a)) (hb : w.cell? ⟨j, 0, none⟩ = some (.int .i64 b)) :
    Calls Try.prog 45 #[.pointer (some ⟨i, 0, none⟩), .pointer (some ⟨j, 0, none⟩)] w fun e w' => e = .returned (.bool (decide (a = b))) ∧ Below w.heap.size w w' := by
  go_enter Try.func45, Try.ntmps45
  go_wp2
  go_ret
  exact ⟨ret_bool (by first | rfl | (simp; try grind)), Below.refl _ _⟩
theorem cl46 (a b : Int) (i j : Nat) (w : World) (ha : w.cell? ⟨i, 0, none⟩ = some (.int .i64 a)) (hb : w.cell? ⟨j, 0, none⟩ = some (.int .i64 b)) :
    Calls Try.prog 46 #[.pointer (some ⟨i, 0, none⟩), .pointer (some ⟨j, 0, none⟩)] w fun e w' => e = .returned (.bool (decide (a < b))) ∧ Below w.heap.size w w' := by
  go_enter Try.func46, Try.ntmps46
  go_wp2
  go_ret
  exact ⟨ret_bool (by first | rfl | (simp; try grind)), Below.refl _ _⟩
theorem cl47 (a b : Int) (i j : Nat) (w : World) (ha : w.cell? ⟨i, 0, none⟩ = some (.int .i64 a)) (hb : w.cell? ⟨j, 0, none⟩ = some (.int .i64 b)) :
    Calls Try.prog 47 #[.pointer (some ⟨i, 0, none⟩), .pointer (some ⟨j, 0, none⟩)] w fun e w' => e = .returned (.bool (decide (a ≤ b))) ∧ Below w.heap.size w w' := by
  go_enter Try.func47, Try.ntmps47
  go_wp2
  go_ret
  exact ⟨ret_bool (by first | rfl | (simp; try grind)), Below.refl _ _⟩
theorem cl48 (a b : Int) (i j : Nat) (w : World) (ha : w.cell? ⟨i, 0, none⟩ = some (.int .i64 a)) (hb : w.cell? ⟨j, 0, none⟩ = some (.int .i64 b)) :
    Calls Try.prog 48 #[.pointer (some ⟨i, 0, none⟩), .pointer (some ⟨j, 0, none⟩)] w fun e w' => e = .returned (.bool (!decide (a = b))) ∧ Below w.heap.size w w' := by
  go_enter Try.func48, Try.ntmps48
  go_wp2
  go_ret
  exact ⟨ret_bool (by first | rfl | (simp; try grind)), Below.refl _ _⟩

set_option maxRecDepth 20000 in
set_option maxHeartbeats 4000000 in
theorem compare_any (op a b : Int) (w : World) :
    Calls Try.prog 19 #[.int .i64 op, .int .i64 a, .int .i64 b] w fun e w' => e = .returned (.bool (compareB op a b)) ∧ Below w.heap.size w w' := by
  have p0 : (Instr.mapUpdate 105 (.map (some (w.heap.size + 1 + 1))) (.int .i64 1) (.func (.func 45) #[] #[.pointer (some ⟨w.heap.size, 0, none⟩), .pointer (some ⟨w.heap.size + 1, 0, none⟩)])).run Try.prog (((w.alloc (.cells #[.int .i64 a] 3)).alloc (.cells #[.int .i64 b] 3)).alloc (.map #[] 0)) = .ok () (((w.alloc (.cells #[.int .i64 a] 3)).alloc (.cells #[.int .i64 b] 3)).alloc (.map #[{ key := .int .i64 1, val := .func (.func 45) #[] #[.pointer (some ⟨w.heap.size, 0, none⟩), .pointer (some ⟨w.heap.size + 1, 0, none⟩)], born := 0 }] 1)) := put105 _ _ _ _ _ rfl _ (by simp)
  have p1 : (Instr.mapUpdate 105 (.map (some (w.heap.size + 1 + 1))) (.int .i64 2) (.func (.func 46) #[] #[.pointer (some ⟨w.heap.size, 0, none⟩), .pointer (some ⟨w.heap.size + 1, 0, none⟩)])).run Try.prog (((w.alloc (.cells #[.int .i64 a] 3)).alloc (.cells #[.int .i64 b] 3)).alloc (.map #[{ key := .int .i64 1, val := .func (.func 45) #[] #[.pointer (some ⟨w.heap.size, 0, none⟩), .pointer (some ⟨w.heap.size + 1, 0, none⟩)], born := 0 }] 1)) = .ok () (((w.alloc (.cells #[.int .i64 a] 3)).alloc (.cells #[.int .i64 b] 3)).alloc (.map #[{ key := .int .i64 1, val := .func (.func 45) #[] #[.pointer (some ⟨w.heap.size, 0, none⟩), .pointer (some ⟨w.heap.size + 1, 0, none⟩)], born := 0 }, { key := .int .i64 2, val := .func (.func 46) #[] #[.pointer (some ⟨w.heap.size, 0, none⟩), .pointer (some ⟨w.heap.size + 1, 0, none⟩)], born := 1 }] 2)) := put105 _ _ _ _ _ rfl _ (by simp)
  have p2 : (Instr.mapUpdate 105 (.map (some (w.heap.size + 1 + 1))) (.int .i64 3) (.func (.func 47) #[] #[.pointer (some ⟨w.heap.size, 0, none⟩), .pointer (some ⟨w.heap.size + 1, 0, none⟩)])).run Try.prog (((w.alloc (.cells #[.int .i64 a] 3)).alloc (.cells #[.int .i64 b] 3)).alloc (.map #[{ key := .int .i64 1, val := .func (.func 45) #[] #[.pointer (some ⟨w.heap.size, 0, none⟩), .pointer (some ⟨w.heap.size + 1, 0, none⟩)], born := 0 }, { key := .int .i64 2, val := .func (.func 46) #[] #[.pointer (some ⟨w.heap.size, 0, none⟩), .pointer (some ⟨w.heap.size + 1, 0, none⟩)], born := 1 }] 2)) = .ok () (((w.alloc (.cells #[.int .i64 a] 3)).alloc (.cells #[.int .i64 b] 3)).alloc (.map #[{ key := .int .i64 1, val := .func (.func 45) #[] #[.pointer (some ⟨w.heap.size, 0, none⟩), .pointer (some ⟨w.heap.size + 1, 0, none⟩)], born := 0 }, { key := .int .i64 2, val := .func (.func 46) #[] #[.pointer (some ⟨w.heap.size, 0, none⟩), .pointer (some ⟨w.heap.size + 1, 0, none⟩)], born := 1 }, { key := .int .i64 3, val := .func (.func 47) #[] #[.pointer (some ⟨w.heap.size, 0, none⟩), .pointer (some ⟨w.heap.size + 1, 0, none⟩)], born := 2 }] 3)) := put105 _ _ _ _ _ rfl _ (by simp)
  have p3 : (Instr.mapUpdate 105 (.map (some (w.heap.size + 1 + 1))) (.int .i64 4) (.func (.func 48) #[] #[.pointer (some ⟨w.heap.size, 0, none⟩), .pointer (some ⟨w.heap.size + 1, 0, none⟩)])).run Try.prog (((w.alloc (.cells #[.int .i64 a] 3)).alloc (.cells #[.int .i64 b] 3)).alloc (.map #[{ key := .int .i64 1, val := .func (.func 45) #[] #[.pointer (some ⟨w.heap.size, 0, none⟩), .pointer (some ⟨w.heap.size + 1, 0, none⟩)], born := 0 }, { key := .int .i64 2, val := .func (.func 46) #[] #[.pointer (some ⟨w.heap.size, 0, none⟩), .pointer (some ⟨w.heap.size + 1, 0, none⟩)], born := 1 }, { key := .int .i64 3, val := .func (.func 47) #[] #[.pointer (some ⟨w.heap.size, 0, none⟩), .pointer (some ⟨w.heap.size + 1, 0, none⟩)], born := 2 }] 3)) = .ok () (((w.alloc (.cells #[.int .i64 a] 3)).alloc (.cells #[.int .i64 b] 3)).alloc (.map #[{ key := .int .i64 1, val := .func (.func 45) #[] #[.pointer (some ⟨w.heap.size, 0, none⟩), .pointer (some ⟨w.heap.size + 1, 0, none⟩)], born := 0 }, { key := .int .i64 2, val := .func (.func 46) #[] #[.pointer (some ⟨w.heap.size, 0, none⟩), .pointer (some ⟨w.heap.size + 1, 0, none⟩)], born := 1 }, { key := .int .i64 3, val := .func (.func 47) #[] #[.pointer (some ⟨w.heap.size, 0, none⟩), .pointer (some ⟨w.heap.size + 1, 0, none⟩)], born := 2 }, { key := .int .i64 4, val := .func (.func 48) #[] #[.pointer (some ⟨w.heap.size, 0, none⟩), .pointer (some ⟨w.heap.size + 1, 0, none⟩)], born := 3 }] 4)) := put105 _ _ _ _ _ rfl _ (by simp)
  have mk : ∀ W : World, (Instr.makeMap 105 none).run Try.prog W = .ok (.map (some W.heap.size)) (W.alloc (.map #[] 0)) := fun W => run_makeMap_plain W 105
  have Hw := Lib.hid (show Below w.heap.size w (((w.alloc (.cells #[.int .i64 a] 3)).alloc (.cells #[.int .i64 b] 3)).alloc (.map #[{ key := .int .i64 1, val := .func (.func 45) #[] #[.pointer (some ⟨w.heap.size, 0, none⟩), .pointer (some ⟨w.heap.size + 1, 0, none⟩)], born := 0 }, { key := .int .i64 2, val := .func (.func 46) #[] #[.pointer (some ⟨w.heap.size, 0, none⟩), .pointer (some ⟨w.heap.size + 1, 0, none⟩)], born := 1 }, { key := .int .i64 3, val := .func (.func 47) #[] #[.pointer (some ⟨w.heap.size, 0, none⟩), .pointer (some ⟨w.heap.size + 1, 0, none⟩)], born := 2 }, { key := .int .i64 4, val := .func (.func 48) #[] #[.pointer (some ⟨w.heap.size, 0, none⟩), .pointer (some ⟨w.heap.size + 1, 0, none⟩)], born := 3 }] 4)) from (((Below.refl _ _).alloc (Nat.le_refl _) _).alloc (by simp) _).alloc (by simp; try omega) _)
  by_cases h1 : op = 1
  case pos =>
    subst h1
    have hl : (Instr.lookup 105 (.map (some (w.heap.size + 1 + 1))) (.int .i64 1) true).run Try.prog (((w.alloc (.cells #[.int .i64 a] 3)).alloc (.cells #[.int .i64 b] 3)).alloc (.map #[{ key := .int .i64 1, val := .func (.func 45) #[] #[.pointer (some ⟨w.heap.size, 0, none⟩), .pointer (some ⟨w.heap.size + 1, 0, none⟩)], born := 0 }, { key := .int .i64 2, val := .func (.func 46) #[] #[.pointer (some ⟨w.heap.size, 0, none⟩), .pointer (some ⟨w.heap.size + 1, 0, none⟩)], born := 1 }, { key := .int .i64 3, val := .func (.func 47) #[] #[.pointer (some ⟨w.heap.size, 0, none⟩), .pointer (some ⟨w.heap.size + 1, 0, none⟩)], born := 2 }, { key := .int .i64 4, val := .func (.func 48) #[] #[.pointer (some ⟨w.heap.size, 0, none⟩), .pointer (some ⟨w.heap.size + 1, 0, none⟩)], born := 3 }] 4)) = .ok (.tuple #[.func (.func 45) #[] #[.pointer (some ⟨w.heap.size, 0, none⟩), .pointer (some ⟨w.heap.size + 1, 0, none⟩)], .bool true]) (((w.alloc (.cells #[.int .i64 a] 3)).alloc (.cells #[.int .i64 b] 3)).alloc (.map #[{ key := .int .i64 1, val := .func (.func 45) #[] #[.pointer (some ⟨w.heap.size, 0, none⟩), .pointer (some ⟨w.heap.size + 1, 0, none⟩)], born := 0 }, { key := .int .i64 2, val := .func (.func 46) #[] #[.pointer (some ⟨w.heap.size, 0, none⟩), .pointer (some ⟨w.heap.size + 1, 0, none⟩)], born := 1 }, { key := .int .i64 3, val := .func (.func 47) #[] #[.pointer (some ⟨w.heap.size, 0, none⟩), .pointer (some ⟨w.heap.size + 1, 0, none⟩)], born := 2 }, { key := .int .i64 4, val := .func (.func 48) #[] #[.pointer (some ⟨w.heap.size, 0, none⟩), .pointer (some ⟨w.heap.size + 1, 0, none⟩)], born := 3 }] 4)) := look105 _ _ _ _ 0 _ rfl _ (by simp)
    have hca : (((w.alloc (.cells #[.int .i64 a] 3)).alloc (.cells #[.int .i64 b] 3)).alloc (.map #[{ key := .int .i64 1, val := .func (.func 45) #[] #[.pointer (some ⟨w.heap.size, 0, none⟩), .pointer (some ⟨w.heap.size + 1, 0, none⟩)], born := 0 }, { key := .int .i64 2, val := .func (.func 46) #[] #[.pointer (some ⟨w.heap.size, 0, none⟩), .pointer (some ⟨w.heap.size + 1, 0, none⟩)], born := 1 }, { key := .int .i64 3, val := .func (.func 47) #[] #[.pointer (some ⟨w.heap.size, 0, none⟩), .pointer (some ⟨w.heap.size + 1, 0, none⟩)], born := 2 }, { key := .int .i64 4, val := .func (.func 48) #[] #[.pointer (some ⟨w.heap.size, 0, none⟩), .pointer (some ⟨w.heap.size + 1, 0, none⟩)], born := 3 }] 4)).cell? ⟨w.heap.size, 0, none⟩ = some (.int .i64 a) := cell_kept (w := ((w.alloc (.cells #[.int .i64 a] 3)).alloc (.cells #[.int .i64 b] 3))) ((Below.refl _ _).alloc (Nat.le_refl _) _) (((blk2 rfl).1.cell 0).trans rfl) (by simp; try omega)
    have hcb : (((w.alloc (.cells #[.int .i64 a] 3)).alloc (.cells #[.int .i64 b] 3)).alloc (.map #[{ key := .int .i64 1, val := .func (.func 45) #[] #[.pointer (some ⟨w.heap.size, 0, none⟩), .pointer (some ⟨w.heap.size + 1, 0, none⟩)], born := 0 }, { key := .int .i64 2, val := .func (.func 46) #[] #[.pointer (some ⟨w.heap.size, 0, none⟩), .pointer (some ⟨w.heap.size + 1, 0, none⟩)], born := 1 }, { key := .int .i64 3, val := .func (.func 47) #[] #[.pointer (some ⟨w.heap.size, 0, none⟩), .pointer (some ⟨w.heap.size + 1, 0, none⟩)], born := 2 }, { key := .int .i64 4, val := .func (.func 48) #[] #[.pointer (some ⟨w.heap.size, 0, none⟩), .pointer (some ⟨w.heap.size + 1, 0, none⟩)], born := 3 }] 4)).cell? ⟨w.heap.size + 1, 0, none⟩ = some (.int .i64 b) := cell_kept (w := ((w.alloc (.cells #[.int .i64 a] 3)).alloc (.cells #[.int .i64 b] 3))) ((Below.refl _ _).alloc (Nat.le_refl _) _) (((blk2 rfl).2.1.cell 0).trans rfl) (by simp; try omega)
    have hcl := cl45 a b _ _ _ hca hcb
    go_enter Try.func19, Try.ntmps19
    go_wp2_with (go_at_call 45; refine hcl.mono ?_; rintro e w' ⟨rfl, hb'⟩)
    go_ret
    exact ⟨rfl, Hw.out.trans (hb'.mono (by simp; try omega))⟩
  by_cases h2 : op = 2
  case pos =>
    subst h2
    clear h1
    have hl : (Instr.lookup 105 (.map (some (w.heap.size + 1 + 1))) (.int .i64 2) true).run Try.prog (((w.alloc (.cells #[.int .i64 a] 3)).alloc (.cells #[.int .i64 b] 3)).alloc (.map #[{ key := .int .i64 1, val := .func (.func 45) #[] #[.pointer (some ⟨w.heap.size, 0, none⟩), .pointer (some ⟨w.heap.size + 1, 0, none⟩)], born := 0 }, { key := .int .i64 2, val := .func (.func 46) #[] #[.pointer (some ⟨w.heap.size, 0, none⟩), .pointer (some ⟨w.heap.size + 1, 0, none⟩)], born := 1 }, { key := .int .i64 3, val := .func (.func 47) #[] #[.pointer (some ⟨w.heap.size, 0, none⟩), .pointer (some ⟨w.heap.size + 1, 0, none⟩)], born := 2 }, { key := .int .i64 4, val := .func (.func 48) #[] #[.pointer (some ⟨w.heap.size, 0, none⟩), .pointer (some ⟨w.heap.size + 1, 0, none⟩)], born := 3 }] 4)) = .ok (.tuple #[.func (.func 46) #[] #[.pointer (some ⟨w.heap.size, 0, none⟩), .pointer (some ⟨w.heap.size + 1, 0, none⟩)], .bool true]) (((w.alloc (.cells #[.int .i64 a] 3)).alloc (.cells #[.int .i64 b] 3)).alloc (.map #[{ key := .int .i64 1, val := .func (.func 45) #[] #[.pointer (some ⟨w.heap.size, 0, none⟩), .pointer (some ⟨w.heap.size + 1, 0, none⟩)], born := 0 }, { key := .int .i64 2, val := .func (.func 46) #[] #[.pointer (some ⟨w.heap.size, 0, none⟩), .pointer (some ⟨w.heap.size + 1, 0, none⟩)], born := 1 }, { key := .int .i64 3, val := .func (.func 47) #[] #[.pointer (some ⟨w.heap.size, 0, none⟩), .pointer (some ⟨w.heap.size + 1, 0, none⟩)], born := 2 }, { key := .int .i64 4, val := .func (.func 48) #[] #[.pointer (some ⟨w.heap.size, 0, none⟩), .pointer (some ⟨w.heap.size + 1, 0, none⟩)], born := 3 }] 4)) := look105 _ _ _ _ 1 _ rfl _ (by simp)
    have hca : (((w.alloc (.cells #[.int .i64 a] 3)).alloc (.cells #[.int .i64 b] 3)).alloc (.map #[{ key := .int .i64 1, val := .func (.func 45) #[] #[.pointer (some ⟨w.heap.size, 0, none⟩), .pointer (some ⟨w.heap.size + 1, 0, none⟩)], born := 0 }, { key := .int .i64 2, val := .func (.func 46) #[] #[.pointer (some ⟨w.heap.size, 0, none⟩), .pointer (some ⟨w.heap.size + 1, 0, none⟩)], born := 1 }, { key := .int .i64 3, val := .func (.func 47) #[] #[.pointer (some ⟨w.heap.size, 0, none⟩), .pointer (some ⟨w.heap.size + 1, 0, none⟩)], born := 2 }, { key := .int .i64 4, val := .func (.func 48) #[] #[.pointer (some ⟨w.heap.size, 0, none⟩), .pointer (some ⟨w.heap.size + 1, 0, none⟩)], born := 3 }] 4)).cell? ⟨w.heap.size, 0, none⟩ = some (.int .i64 a) := cell_kept (w := ((w.alloc (.cells #[.int .i64 a] 3)).alloc (.cells #[.int .i64 b] 3))) ((Below.refl _ _).alloc (Nat.le_refl _) _) (((blk2 rfl).1.cell 0).trans rfl) (by simp; try omega)
    have hcb : (((w.alloc (.cells #[.int .i64 a] 3)).alloc (.cells #[.int .i64 b] 3)).alloc (.map #[{ key := .int .i64 1, val := .func (.func 45) #[] #[.pointer (some ⟨w.heap.size, 0, none⟩), .pointer (some ⟨w.heap.size + 1, 0, none⟩)], born := 0 }, { key := .int .i64 2, val := .func (.func 46) #[] #[.pointer (some ⟨w.heap.size, 0, none⟩), .pointer (some ⟨w.heap.size + 1, 0, none⟩)], born := 1 }, { key := .int .i64 3, val := .func (.func 47) #[] #[.pointer (some ⟨w.heap.size, 0, none⟩), .pointer (some ⟨w.heap.size + 1, 0, none⟩)], born := 2 }, { key := .int .i64 4, val := .func (.func 48) #[] #[.pointer (some ⟨w.heap.size, 0, none⟩), .pointer (some ⟨w.heap.size + 1, 0, none⟩)], born := 3 }] 4)).cell? ⟨w.heap.size + 1, 0, none⟩ = some (.int .i64 b) := cell_kept (w := ((w.alloc (.cells #[.int .i64 a] 3)).alloc (.cells #[.int .i64 b] 3))) ((Below.refl _ _).alloc (Nat.le_refl _) _) (((blk2 rfl).2.1.cell 0).trans rfl) (by simp; try omega)
    have hcl := cl46 a b _ _ _ hca hcb
    go_enter Try.func19, Try.ntmps19
    go_wp2_with (go_at_call 46; refine hcl.mono ?_; rintro e w' ⟨rfl, hb'⟩)
    go_ret
    exact ⟨rfl, Hw.out.trans (hb'.mono (by simp; try omega))⟩
  by_cases h3 : op = 3
  case pos =>
    subst h3
    clear h1
    clear h2
    have hl : (Instr.lookup 105 (.map (some (w.heap.size + 1 + 1))) (.int .i64 3) true).run Try.prog (((w.alloc (.cells #[.int .i64 a] 3)).alloc (.cells #[.int .i64 b] 3)).alloc (.map #[{ key := .int .i64 1, val := .func (.func 45) #[] #[.pointer (some ⟨w.heap.size, 0, none⟩), .pointer (some ⟨w.heap.size + 1, 0, none⟩)], born := 0 }, { key := .int .i64 2, val := .func (.func 46) #[] #[.pointer (some ⟨w.heap.size, 0, none⟩), .pointer (some ⟨w.heap.size + 1, 0, none⟩)], born := 1 }, { key := .int .i64 3, val := .func (.func 47) #[] #[.pointer (some ⟨w.heap.size, 0, none⟩), .pointer (some ⟨w.heap.size + 1, 0, none⟩)], born := 2 }, { key := .int .i64 4, val := .func (.func 48) #[] #[.pointer (some ⟨w.heap.size, 0, none⟩), .pointer (some ⟨w.heap.size + 1, 0, none⟩)], born := 3 }] 4)) = .ok (.tuple #[.func (.func 47) #[] #[.pointer (some ⟨w.heap.size, 0, none⟩), .pointer (some ⟨w.heap.size + 1, 0, none⟩)], .bool true]) (((w.alloc (.cells #[.int .i64 a] 3)).alloc (.cells #[.int .i64 b] 3)).alloc (.map #[{ key := .int .i64 1, val := .func (.func 45) #[] #[.pointer (some ⟨w.heap.size, 0, none⟩), .pointer (some ⟨w.heap.size + 1, 0, none⟩)], born := 0 }, { key := .int .i64 2, val := .func (.func 46) #[] #[.pointer (some ⟨w.heap.size, 0, none⟩), .pointer (some ⟨w.heap.size + 1, 0, none⟩)], born := 1 }, { key := .int .i64 3, val := .func (.func 47) #[] #[.pointer (some ⟨w.heap.size, 0, none⟩), .pointer (some ⟨w.heap.size + 1, 0, none⟩)], born := 2 }, { key := .int .i64 4, val := .func (.func 48) #[] #[.pointer (some ⟨w.heap.size, 0, none⟩), .pointer (some ⟨w.heap.size + 1, 0, none⟩)], born := 3 }] 4)) := look105 _ _ _ _ 2 _ rfl _ (by simp)
    have hca : (((w.alloc (.cells #[.int .i64 a] 3)).alloc (.cells #[.int .i64 b] 3)).alloc (.map #[{ key := .int .i64 1, val := .func (.func 45) #[] #[.pointer (some ⟨w.heap.size, 0, none⟩), .pointer (some ⟨w.heap.size + 1, 0, none⟩)], born := 0 }, { key := .int .i64 2, val := .func (.func 46) #[] #[.pointer (some ⟨w.heap.size, 0, none⟩), .pointer (some ⟨w.heap.size + 1, 0, none⟩)], born := 1 }, { key := .int .i64 3, val := .func (.func 47) #[] #[.pointer (some ⟨w.heap.size, 0, none⟩), .pointer (some ⟨w.heap.size + 1, 0, none⟩)], born := 2 }, { key := .int .i64 4, val := .func (.func 48) #[] #[.pointer (some ⟨w.heap.size, 0, none⟩), .pointer (some ⟨w.heap.size + 1, 0, none⟩)], born := 3 }] 4)).cell? ⟨w.heap.size, 0, none⟩ = some (.int .i64 a) := cell_kept (w := ((w.alloc (.cells #[.int .i64 a] 3)).alloc (.cells #[.int .i64 b] 3))) ((Below.refl _ _).alloc (Nat.le_refl _) _) (((blk2 rfl).1.cell 0).trans rfl) (by simp; try omega)
    have hcb : (((w.alloc (.cells #[.int .i64 a] 3)).alloc (.cells #[.int .i64 b] 3)).alloc (.map #[{ key := .int .i64 1, val := .func (.func 45) #[] #[.pointer (some ⟨w.heap.size, 0, none⟩), .pointer (some ⟨w.heap.size + 1, 0, none⟩)], born := 0 }, { key := .int .i64 2, val := .func (.func 46) #[] #[.pointer (some ⟨w.heap.size, 0, none⟩), .pointer (some ⟨w.heap.size + 1, 0, none⟩)], born := 1 }, { key := .int .i64 3, val := .func (.func 47) #[] #[.pointer (some ⟨w.heap.size, 0, none⟩), .pointer (some ⟨w.heap.size + 1, 0, none⟩)], born := 2 }, { key := .int .i64 4, val := .func (.func 48) #[] #[.pointer (some ⟨w.heap.size, 0, none⟩), .pointer (some ⟨w.heap.size + 1, 0, none⟩)], born := 3 }] 4)).cell? ⟨w.heap.size + 1, 0, none⟩ = some (.int .i64 b) := cell_kept (w := ((w.alloc (.cells #[.int .i64 a] 3)).alloc (.cells #[.int .i64 b] 3))) ((Below.refl _ _).alloc (Nat.le_refl _) _) (((blk2 rfl).2.1.cell 0).trans rfl) (by simp; try omega)
    have hcl := cl47 a b _ _ _ hca hcb
    go_enter Try.func19, Try.ntmps19
    go_wp2_with (go_at_call 47; refine hcl.mono ?_; rintro e w' ⟨rfl, hb'⟩)
    go_ret
    exact ⟨rfl, Hw.out.trans (hb'.mono (by simp; try omega))⟩
  by_cases h4 : op = 4
  case pos =>
    subst h4
    clear h1
    clear h2
    clear h3
    have hl : (Instr.lookup 105 (.map (some (w.heap.size + 1 + 1))) (.int .i64 4) true).run Try.prog (((w.alloc (.cells #[.int .i64 a] 3)).alloc (.cells #[.int .i64 b] 3)).alloc (.map #[{ key := .int .i64 1, val := .func (.func 45) #[] #[.pointer (some ⟨w.heap.size, 0, none⟩), .pointer (some ⟨w.heap.size + 1, 0, none⟩)], born := 0 }, { key := .int .i64 2, val := .func (.func 46) #[] #[.pointer (some ⟨w.heap.size, 0, none⟩), .pointer (some ⟨w.heap.size + 1, 0, none⟩)], born := 1 }, { key := .int .i64 3, val := .func (.func 47) #[] #[.pointer (some ⟨w.heap.size, 0, none⟩), .pointer (some ⟨w.heap.size + 1, 0, none⟩)], born := 2 }, { key := .int .i64 4, val := .func (.func 48) #[] #[.pointer (some ⟨w.heap.size, 0, none⟩), .pointer (some ⟨w.heap.size + 1, 0, none⟩)], born := 3 }] 4)) = .ok (.tuple #[.func (.func 48) #[] #[.pointer (some ⟨w.heap.size, 0, none⟩), .pointer (some ⟨w.heap.size + 1, 0, none⟩)], .bool true]) (((w.alloc (.cells #[.int .i64 a] 3)).alloc (.cells #[.int .i64 b] 3)).alloc (.map #[{ key := .int .i64 1, val := .func (.func 45) #[] #[.pointer (some ⟨w.heap.size, 0, none⟩), .pointer (some ⟨w.heap.size + 1, 0, none⟩)], born := 0 }, { key := .int .i64 2, val := .func (.func 46) #[] #[.pointer (some ⟨w.heap.size, 0, none⟩), .pointer (some ⟨w.heap.size + 1, 0, none⟩)], born := 1 }, { key := .int .i64 3, val := .func (.func 47) #[] #[.pointer (some ⟨w.heap.size, 0, none⟩), .pointer (some ⟨w.heap.size + 1, 0, none⟩)], born := 2 }, { key := .int .i64 4, val := .func (.func 48) #[] #[.pointer (some ⟨w.heap.size, 0, none⟩), .pointer (some ⟨w.heap.size + 1, 0, none⟩)], born := 3 }] 4)) := look105 _ _ _ _ 3 _ rfl _ (by simp)
    have hca : (((w.alloc (.cells #[.int .i64 a] 3)).alloc (.cells #[.int .i64 b] 3)).alloc (.map #[{ key := .int .i64 1, val := .func (.func 45) #[] #[.pointer (some ⟨w.heap.size, 0, none⟩), .pointer (some ⟨w.heap.size + 1, 0, none⟩)], born := 0 }, { key := .int .i64 2, val := .func (.func 46) #[] #[.pointer (some ⟨w.heap.size, 0, none⟩), .pointer (some ⟨w.heap.size + 1, 0, none⟩)], born := 1 }, { key := .int .i64 3, val := .func (.func 47) #[] #[.pointer (some ⟨w.heap.size, 0, none⟩), .pointer (some ⟨w.heap.size + 1, 0, none⟩)], born := 2 }, { key := .int .i64 4, val := .func (.func 48) #[] #[.pointer (some ⟨w.heap.size, 0, none⟩), .pointer (some ⟨w.heap.size + 1, 0, none⟩)], born := 3 }] 4)).cell? ⟨w.heap.size, 0, none⟩ = some (.int .i64 a) := cell_kept (w := ((w.alloc (.cells #[.int .i64 a] 3)).alloc (.cells #[.int .i64 b] 3))) ((Below.refl _ _).alloc (Nat.le_refl _) _) (((blk2 rfl).1.cell 0).trans rfl) (by simp; try omega)
    have hcb : (((w.alloc (.cells #[.int .i64 a] 3)).alloc (.cells #[.int .i64 b] 3)).alloc (.map #[{ key := .int .i64 1, val := .func (.func 45) #[] #[.pointer (some ⟨w.heap.size, 0, none⟩), .pointer (some ⟨w.heap.size + 1, 0, none⟩)], born := 0 }, { key := .int .i64 2, val := .func (.func 46) #[] #[.pointer (some ⟨w.heap.size, 0, none⟩), .pointer (some ⟨w.heap.size + 1, 0, none⟩)], born := 1 }, { key := .int .i64 3, val := .func (.func 47) #[] #[.pointer (some ⟨w.heap.size, 0, none⟩), .pointer (some ⟨w.heap.size + 1, 0, none⟩)], born := 2 }, { key := .int .i64 4, val := .func (.func 48) #[] #[.pointer (some ⟨w.heap.size, 0, none⟩), .pointer (some ⟨w.heap.size + 1, 0, none⟩)], born := 3 }] 4)).cell? ⟨w.heap.size + 1, 0, none⟩ = some (.int .i64 b) := cell_kept (w := ((w.alloc (.cells #[.int .i64 a] 3)).alloc (.cells #[.int .i64 b] 3))) ((Below.refl _ _).alloc (Nat.le_refl _) _) (((blk2 rfl).2.1.cell 0).trans rfl) (by simp; try omega)
    have hcl := cl48 a b _ _ _ hca hcb
    go_enter Try.func19, Try.ntmps19
    go_wp2_with (go_at_call 48; refine hcl.mono ?_; rintro e w' ⟨rfl, hb'⟩)
    go_ret
    exact ⟨rfl, Hw.out.trans (hb'.mono (by simp; try omega))⟩

  have hl : (Instr.lookup 105 (.map (some (w.heap.size + 1 + 1))) (.int .i64 op) true).run Try.prog (((w.alloc (.cells #[.int .i64 a] 3)).alloc (.cells #[.int .i64 b] 3)).alloc (.map #[{ key := .int .i64 1, val := .func (.func 45) #[] #[.pointer (some ⟨w.heap.size, 0, none⟩), .pointer (some ⟨w.heap.size + 1, 0, none⟩)], born := 0 }, { key := .int .i64 2, val := .func (.func 46) #[] #[.pointer (some ⟨w.heap.size, 0, none⟩), .pointer (some ⟨w.heap.size + 1, 0, none⟩)], born := 1 }, { key := .int .i64 3, val := .func (.func 47) #[] #[.pointer (some ⟨w.heap.size, 0, none⟩), .pointer (some ⟨w.heap.size + 1, 0, none⟩)], born := 2 }, { key := .int .i64 4, val := .func (.func 48) #[] #[.pointer (some ⟨w.heap.size, 0, none⟩), .pointer (some ⟨w.heap.size + 1, 0, none⟩)], born := 3 }] 4)) = .ok (.tuple #[.nilFunc, .bool false]) (((w.alloc (.cells #[.int .i64 a] 3)).alloc (.cells #[.int .i64 b] 3)).alloc (.map #[{ key := .int .i64 1, val := .func (.func 45) #[] #[.pointer (some ⟨w.heap.size, 0, none⟩), .pointer (some ⟨w.heap.size + 1, 0, none⟩)], born := 0 }, { key := .int .i64 2, val := .func (.func 46) #[] #[.pointer (some ⟨w.heap.size, 0, none⟩), .pointer (some ⟨w.heap.size + 1, 0, none⟩)], born := 1 }, { key := .int .i64 3, val := .func (.func 47) #[] #[.pointer (some ⟨w.heap.size, 0, none⟩), .pointer (some ⟨w.heap.size + 1, 0, none⟩)], born := 2 }, { key := .int .i64 4, val := .func (.func 48) #[] #[.pointer (some ⟨w.heap.size, 0, none⟩), .pointer (some ⟨w.heap.size + 1, 0, none⟩)], born := 3 }] 4)) := nolook105 _ _ _ _ (by simp [Instr.findNow, Instr.sameNow, show (op == 1) = false by simpa using h1, show (op == 2) = false by simpa using h2, show (op == 3) = false by simpa using h3, show (op == 4) = false by simpa using h4]) _ (by simp)
  have Hr := Lib.hid (show compareB op a b = false by simp [compareB, h1, h2, h3, h4])
  clear h1 h2 h3 h4
  go_enter Try.func19, Try.ntmps19
  go_wp2
  go_ret
  exact ⟨ret_bool Hr.out.symm, Hw.out⟩
end Go.Proofs.Ytogenjbabgibbaa
namespace Go.Proofs.Ytogenjbabgibbaa
open Go.RowKit
def alikeB (s : SourceD) (a b : RefD) : Bool := match usable? s a with | some t => (match usable? s b with | some u => cmpB s.units t u | none => false) | none => false
theorem goodT_in {s : SourceD} {t : TyD} (h : goodT s t = true) : unitIn s.units t := fun _ => by
  unfold goodT at h
  simp only [Bool.and_eq_true] at h
  exact kindB_unit h.1
set_option maxRecDepth 20000 in
set_option maxHeartbeats 4000000 in
theorem alike_any (s : SourceD) (p : SrcAt) (ra rb : RefD) (w : World) (hs : Src w s p) (hsh : Short s) :
    Calls Try.prog 17 #[s.val p, ra.val, rb.val] w fun e w' => e = .returned (.bool (alikeB s ra rb)) ∧ Below w.heap.size w w' := by
  obtain ⟨a0, k0, a1, k1, a2, k2, a3, k3, a4, k4, a5, k5⟩ := p
  have Hs := Lib.hid hs
  clear hs
  go_enter Try.func17, Try.ntmps17
  go_wp2_with fail
  generalize hw0 : World.alloc _ _ = w0
  obtain ⟨X0, X1, X2, X3, hsz, hb0⟩ := blk4 hw0
  have x0 : w0.cell? ⟨w.heap.size, 0, none⟩ = some (.slice a0 s.issuers.length k0) := X0.cell 0
  have x1 : w0.cell? ⟨w.heap.size, 1, none⟩ = some (.slice a1 s.units.length k1) := X0.cell 1
  have x2 : w0.cell? ⟨w.heap.size, 2, none⟩ = some (.slice a2 s.schemas.length k2) := X0.cell 2
  have x3 : w0.cell? ⟨w.heap.size, 3, none⟩ = some (.slice a3 s.rules.length k3) := X0.cell 3
  have x4 : w0.cell? ⟨w.heap.size, 4, none⟩ = some (.slice a4 s.converts k4) := X0.cell 4
  have x5 : w0.cell? ⟨w.heap.size, 5, none⟩ = some (.slice a5 s.purposes.length k5) := X0.cell 5
  have hl_x : w.heap.size < w0.heap.size := by omega
  have p0 : w0.cell? ⟨w.heap.size + 1, 0, none⟩ = some (.string ra.name) := X1.cell 0
  have p1 : w0.cell? ⟨w.heap.size + 1, 1, none⟩ = some (.string ra.path) := X1.cell 1
  have p2 : w0.cell? ⟨w.heap.size + 1, 2, none⟩ = some (.int .i64 ra.schema) := X1.cell 2
  have p3 : w0.cell? ⟨w.heap.size + 1, 3, none⟩ = some (.int .i64 ra.field) := X1.cell 3
  have hl_p : w.heap.size + 1 < w0.heap.size := by omega
  have q0 : w0.cell? ⟨w.heap.size + 1 + 1, 0, none⟩ = some (.string rb.name) := X2.cell 0
  have q1 : w0.cell? ⟨w.heap.size + 1 + 1, 1, none⟩ = some (.string rb.path) := X2.cell 1
  have q2 : w0.cell? ⟨w.heap.size + 1 + 1, 2, none⟩ = some (.int .i64 rb.schema) := X2.cell 2
  have q3 : w0.cell? ⟨w.heap.size + 1 + 1, 3, none⟩ = some (.int .i64 rb.field) := X2.cell 3
  have hl_q : w.heap.size + 1 + 1 < w0.heap.size := by omega
  have y0 : w0.cell? ⟨w.heap.size + 1 + 1 + 1, 0, none⟩ = some (.slice a0 s.issuers.length k0) := X3.cell 0
  have y1 : w0.cell? ⟨w.heap.size + 1 + 1 + 1, 1, none⟩ = some (.slice a1 s.units.length k1) := X3.cell 1
  have y2 : w0.cell? ⟨w.heap.size + 1 + 1 + 1, 2, none⟩ = some (.slice a2 s.schemas.length k2) := X3.cell 2
  have y3 : w0.cell? ⟨w.heap.size + 1 + 1 + 1, 3, none⟩ = some (.slice a3 s.rules.length k3) := X3.cell 3
  have y4 : w0.cell? ⟨w.heap.size + 1 + 1 + 1, 4, none⟩ = some (.slice a4 s.converts k4) := X3.cell 4
  have y5 : w0.cell? ⟨w.heap.size + 1 + 1 + 1, 5, none⟩ = some (.slice a5 s.purposes.length k5) := X3.cell 5
  have hl_y : w.heap.size + 1 + 1 + 1 < w0.heap.size := by omega
  have hwl : w.heap.size ≤ w0.heap.size := hb0.size
  have Hb := Lib.hid hb0
  clear hw0 hb0 hsz X0 X1 X2 X3
  refine (usable_any s ⟨a0, k0, a1, k1, a2, k2, a3, k3, a4, k4, a5, k5⟩ ra _ (Hs.out.below Hb.out) _ (Below.refl _ _) hsh).mono ?_
  cases hu : usable? s ra with
  | none =>
    rintro e w1 ⟨⟨t, an, kn, rfl⟩, hb1⟩
    replace x0 := cell_kept hb1 x0 hl_x
    replace x1 := cell_kept hb1 x1 hl_x
    replace x2 := cell_kept hb1 x2 hl_x
    replace x3 := cell_kept hb1 x3 hl_x
    replace x4 := cell_kept hb1 x4 hl_x
    replace x5 := cell_kept hb1 x5 hl_x
    replace p0 := cell_kept hb1 p0 hl_p
    replace p1 := cell_kept hb1 p1 hl_p
    replace p2 := cell_kept hb1 p2 hl_p
    replace p3 := cell_kept hb1 p3 hl_p
    replace q0 := cell_kept hb1 q0 hl_q
    replace q1 := cell_kept hb1 q1 hl_q
    replace q2 := cell_kept hb1 q2 hl_q
    replace q3 := cell_kept hb1 q3 hl_q
    replace y0 := cell_kept hb1 y0 hl_y
    replace y1 := cell_kept hb1 y1 hl_y
    replace y2 := cell_kept hb1 y2 hl_y
    replace y3 := cell_kept hb1 y3 hl_y
    replace y4 := cell_kept hb1 y4 hl_y
    replace y5 := cell_kept hb1 y5 hl_y
    replace Hb := Lib.hid (Hb.out.trans (hb1.mono hwl))
    replace hl_x := Nat.lt_of_lt_of_le hl_x hb1.size
    replace hl_p := Nat.lt_of_lt_of_le hl_p hb1.size
    replace hl_q := Nat.lt_of_lt_of_le hl_q hb1.size
    replace hl_y := Nat.lt_of_lt_of_le hl_y hb1.size
    replace hwl := Nat.le_trans hwl hb1.size
    clear hb1
    go_wp2_with fail
    generalize hw0 : World.alloc _ _ = w2
    obtain ⟨X0, hsz, hb1⟩ := blk1 hw0
    have v0 : w2.cell? ⟨w1.heap.size, 0, none⟩ = some (.int .i64 t.kind) := X0.cell 0
    have v1 : w2.cell? ⟨w1.heap.size, 1, none⟩ = some (.int .i64 t.lo) := X0.cell 1
    have v2 : w2.cell? ⟨w1.heap.size, 2, none⟩ = some (.int .i64 t.hi) := X0.cell 2
    have v3 : w2.cell? ⟨w1.heap.size, 3, none⟩ = some (.string t.of_) := X0.cell 3
    have v4 : w2.cell? ⟨w1.heap.size, 4, none⟩ = some (.int .i64 t.unit) := X0.cell 4
    have v5 : w2.cell? ⟨w1.heap.size, 5, none⟩ = some (.slice an t.names.length kn) := X0.cell 5
    have hl_v : w1.heap.size < w2.heap.size := by omega
    replace x0 := cell_kept hb1 x0 hl_x
    replace x1 := cell_kept hb1 x1 hl_x
    replace x2 := cell_kept hb1 x2 hl_x
    replace x3 := cell_kept hb1 x3 hl_x
    replace x4 := cell_kept hb1 x4 hl_x
    replace x5 := cell_kept hb1 x5 hl_x
    replace p0 := cell_kept hb1 p0 hl_p
    replace p1 := cell_kept hb1 p1 hl_p
    replace p2 := cell_kept hb1 p2 hl_p
    replace p3 := cell_kept hb1 p3 hl_p
    replace q0 := cell_kept hb1 q0 hl_q
    replace q1 := cell_kept hb1 q1 hl_q
    replace q2 := cell_kept hb1 q2 hl_q
    replace q3 := cell_kept hb1 q3 hl_q
    replace y0 := cell_kept hb1 y0 hl_y
    replace y1 := cell_kept hb1 y1 hl_y
    replace y2 := cell_kept hb1 y2 hl_y
    replace y3 := cell_kept hb1 y3 hl_y
    replace y4 := cell_kept hb1 y4 hl_y
    replace y5 := cell_kept hb1 y5 hl_y
    replace Hb := Lib.hid (Hb.out.trans (hb1.mono hwl))
    replace hl_x := Nat.lt_of_lt_of_le hl_x hb1.size
    replace hl_p := Nat.lt_of_lt_of_le hl_p hb1.size
    replace hl_q := Nat.lt_of_lt_of_le hl_q hb1.size
    replace hl_y := Nat.lt_of_lt_of_le hl_y hb1.size
    replace hwl := Nat.le_trans hwl hb1.size
    clear hb1
    clear hw0 hsz X0
    refine (usable_any s ⟨a0, k0, a1, k1, a2, k2, a3, k3, a4, k4, a5, k5⟩ rb _ (Hs.out.below Hb.out) _ (Below.refl _ _) hsh).mono ?_
    have Hr := Lib.hid (show alikeB s ra rb = false by simp only [alikeB, hu])
    cases hu2 : usable? s rb with
    | none =>
      rintro e w3 ⟨⟨u, am, km, rfl⟩, hb1⟩
      replace x0 := cell_kept hb1 x0 hl_x
      replace x1 := cell_kept hb1 x1 hl_x
      replace x2 := cell_kept hb1 x2 hl_x
      replace x3 := cell_kept hb1 x3 hl_x
      replace x4 := cell_kept hb1 x4 hl_x
      replace x5 := cell_kept hb1 x5 hl_x
      replace p0 := cell_kept hb1 p0 hl_p
      replace p1 := cell_kept hb1 p1 hl_p
      replace p2 := cell_kept hb1 p2 hl_p
      replace p3 := cell_kept hb1 p3 hl_p
      replace q0 := cell_kept hb1 q0 hl_q
      replace q1 := cell_kept hb1 q1 hl_q
      replace q2 := cell_kept hb1 q2 hl_q
      replace q3 := cell_kept hb1 q3 hl_q
      replace y0 := cell_kept hb1 y0 hl_y
      replace y1 := cell_kept hb1 y1 hl_y
      replace y2 := cell_kept hb1 y2 hl_y
      replace y3 := cell_kept hb1 y3 hl_y
      replace y4 := cell_kept hb1 y4 hl_y
      replace y5 := cell_kept hb1 y5 hl_y
      replace v0 := cell_kept hb1 v0 hl_v
      replace v1 := cell_kept hb1 v1 hl_v
      replace v2 := cell_kept hb1 v2 hl_v
      replace v3 := cell_kept hb1 v3 hl_v
      replace v4 := cell_kept hb1 v4 hl_v
      replace v5 := cell_kept hb1 v5 hl_v
      replace Hb := Lib.hid (Hb.out.trans (hb1.mono hwl))
      replace hl_x := Nat.lt_of_lt_of_le hl_x hb1.size
      replace hl_p := Nat.lt_of_lt_of_le hl_p hb1.size
      replace hl_q := Nat.lt_of_lt_of_le hl_q hb1.size
      replace hl_y := Nat.lt_of_lt_of_le hl_y hb1.size
      replace hl_v := Nat.lt_of_lt_of_le hl_v hb1.size
      replace hwl := Nat.le_trans hwl hb1.size
      clear hb1
      go_wp2_with fail
      go_ret
      exact ⟨ret_bool Hr.out.symm, Hb.out.alloc hwl _⟩
    | some u =>
      rintro e w3 ⟨⟨am, km, rfl, hnu⟩, hb1⟩
      clear hnu
      replace x0 := cell_kept hb1 x0 hl_x
      replace x1 := cell_kept hb1 x1 hl_x
      replace x2 := cell_kept hb1 x2 hl_x
      replace x3 := cell_kept hb1 x3 hl_x
      replace x4 := cell_kept hb1 x4 hl_x
      replace x5 := cell_kept hb1 x5 hl_x
      replace p0 := cell_kept hb1 p0 hl_p
      replace p1 := cell_kept hb1 p1 hl_p
      replace p2 := cell_kept hb1 p2 hl_p
      replace p3 := cell_kept hb1 p3 hl_p
      replace q0 := cell_kept hb1 q0 hl_q
      replace q1 := cell_kept hb1 q1 hl_q
      replace q2 := cell_kept hb1 q2 hl_q
      replace q3 := cell_kept hb1 q3 hl_q
      replace y0 := cell_kept hb1 y0 hl_y
      replace y1 := cell_kept hb1 y1 hl_y
      replace y2 := cell_kept hb1 y2 hl_y
      replace y3 := cell_kept hb1 y3 hl_y
      replace y4 := cell_kept hb1 y4 hl_y
      replace y5 := cell_kept hb1 y5 hl_y
      replace v0 := cell_kept hb1 v0 hl_v
      replace v1 := cell_kept hb1 v1 hl_v
      replace v2 := cell_kept hb1 v2 hl_v
      replace v3 := cell_kept hb1 v3 hl_v
      replace v4 := cell_kept hb1 v4 hl_v
      replace v5 := cell_kept hb1 v5 hl_v
      replace Hb := Lib.hid (Hb.out.trans (hb1.mono hwl))
      replace hl_x := Nat.lt_of_lt_of_le hl_x hb1.size
      replace hl_p := Nat.lt_of_lt_of_le hl_p hb1.size
      replace hl_q := Nat.lt_of_lt_of_le hl_q hb1.size
      replace hl_y := Nat.lt_of_lt_of_le hl_y hb1.size
      replace hl_v := Nat.lt_of_lt_of_le hl_v hb1.size
      replace hwl := Nat.le_trans hwl hb1.size
      clear hb1
      go_wp2_with fail
      go_ret
      exact ⟨ret_bool Hr.out.symm, Hb.out.alloc hwl _⟩
  | some t =>
    rintro e w1 ⟨⟨an, kn, rfl, hnt⟩, hb1⟩
    obtain ⟨hty, hgt⟩ := usable_facts hu
    have hlt := hsh _ _ _ hty
    have Hnt := Lib.hid (hnt.below RStr.stab hb1)
    clear hnt hty
    replace x0 := cell_kept hb1 x0 hl_x
    replace x1 := cell_kept hb1 x1 hl_x
    replace x2 := cell_kept hb1 x2 hl_x
    replace x3 := cell_kept hb1 x3 hl_x
    replace x4 := cell_kept hb1 x4 hl_x
    replace x5 := cell_kept hb1 x5 hl_x
    replace p0 := cell_kept hb1 p0 hl_p
    replace p1 := cell_kept hb1 p1 hl_p
    replace p2 := cell_kept hb1 p2 hl_p
    replace p3 := cell_kept hb1 p3 hl_p
    replace q0 := cell_kept hb1 q0 hl_q
    replace q1 := cell_kept hb1 q1 hl_q
    replace q2 := cell_kept hb1 q2 hl_q
    replace q3 := cell_kept hb1 q3 hl_q
    replace y0 := cell_kept hb1 y0 hl_y
    replace y1 := cell_kept hb1 y1 hl_y
    replace y2 := cell_kept hb1 y2 hl_y
    replace y3 := cell_kept hb1 y3 hl_y
    replace y4 := cell_kept hb1 y4 hl_y
    replace y5 := cell_kept hb1 y5 hl_y
    replace Hb := Lib.hid (Hb.out.trans (hb1.mono hwl))
    replace hl_x := Nat.lt_of_lt_of_le hl_x hb1.size
    replace hl_p := Nat.lt_of_lt_of_le hl_p hb1.size
    replace hl_q := Nat.lt_of_lt_of_le hl_q hb1.size
    replace hl_y := Nat.lt_of_lt_of_le hl_y hb1.size
    replace hwl := Nat.le_trans hwl hb1.size
    clear hb1
    go_wp2_with fail
    generalize hw0 : World.alloc _ _ = w2
    obtain ⟨X0, hsz, hb1⟩ := blk1 hw0
    have v0 : w2.cell? ⟨w1.heap.size, 0, none⟩ = some (.int .i64 t.kind) := X0.cell 0
    have v1 : w2.cell? ⟨w1.heap.size, 1, none⟩ = some (.int .i64 t.lo) := X0.cell 1
    have v2 : w2.cell? ⟨w1.heap.size, 2, none⟩ = some (.int .i64 t.hi) := X0.cell 2
    have v3 : w2.cell? ⟨w1.heap.size, 3, none⟩ = some (.string t.of_) := X0.cell 3
    have v4 : w2.cell? ⟨w1.heap.size, 4, none⟩ = some (.int .i64 t.unit) := X0.cell 4
    have v5 : w2.cell? ⟨w1.heap.size, 5, none⟩ = some (.slice an t.names.length kn) := X0.cell 5
    have hl_v : w1.heap.size < w2.heap.size := by omega
    replace x0 := cell_kept hb1 x0 hl_x
    replace x1 := cell_kept hb1 x1 hl_x
    replace x2 := cell_kept hb1 x2 hl_x
    replace x3 := cell_kept hb1 x3 hl_x
    replace x4 := cell_kept hb1 x4 hl_x
    replace x5 := cell_kept hb1 x5 hl_x
    replace p0 := cell_kept hb1 p0 hl_p
    replace p1 := cell_kept hb1 p1 hl_p
    replace p2 := cell_kept hb1 p2 hl_p
    replace p3 := cell_kept hb1 p3 hl_p
    replace q0 := cell_kept hb1 q0 hl_q
    replace q1 := cell_kept hb1 q1 hl_q
    replace q2 := cell_kept hb1 q2 hl_q
    replace q3 := cell_kept hb1 q3 hl_q
    replace y0 := cell_kept hb1 y0 hl_y
    replace y1 := cell_kept hb1 y1 hl_y
    replace y2 := cell_kept hb1 y2 hl_y
    replace y3 := cell_kept hb1 y3 hl_y
    replace y4 := cell_kept hb1 y4 hl_y
    replace y5 := cell_kept hb1 y5 hl_y
    replace Hb := Lib.hid (Hb.out.trans (hb1.mono hwl))
    replace hl_x := Nat.lt_of_lt_of_le hl_x hb1.size
    replace hl_p := Nat.lt_of_lt_of_le hl_p hb1.size
    replace hl_q := Nat.lt_of_lt_of_le hl_q hb1.size
    replace hl_y := Nat.lt_of_lt_of_le hl_y hb1.size
    replace hwl := Nat.le_trans hwl hb1.size
    replace Hnt := Lib.hid (Hnt.out.below RStr.stab hb1)
    clear hb1
    clear hw0 hsz X0
    refine (usable_any s ⟨a0, k0, a1, k1, a2, k2, a3, k3, a4, k4, a5, k5⟩ rb _ (Hs.out.below Hb.out) _ (Below.refl _ _) hsh).mono ?_
    cases hu2 : usable? s rb with
    | none =>
      have Hr := Lib.hid (show alikeB s ra rb = false by simp only [alikeB, hu, hu2])
      rintro e w3 ⟨⟨u, am, km, rfl⟩, hb1⟩
      replace x0 := cell_kept hb1 x0 hl_x
      replace x1 := cell_kept hb1 x1 hl_x
      replace x2 := cell_kept hb1 x2 hl_x
      replace x3 := cell_kept hb1 x3 hl_x
      replace x4 := cell_kept hb1 x4 hl_x
      replace x5 := cell_kept hb1 x5 hl_x
      replace p0 := cell_kept hb1 p0 hl_p
      replace p1 := cell_kept hb1 p1 hl_p
      replace p2 := cell_kept hb1 p2 hl_p
      replace p3 := cell_kept hb1 p3 hl_p
      replace q0 := cell_kept hb1 q0 hl_q
      replace q1 := cell_kept hb1 q1 hl_q
      replace q2 := cell_kept hb1 q2 hl_q
      replace q3 := cell_kept hb1 q3 hl_q
      replace y0 := cell_kept hb1 y0 hl_y
      replace y1 := cell_kept hb1 y1 hl_y
      replace y2 := cell_kept hb1 y2 hl_y
      replace y3 := cell_kept hb1 y3 hl_y
      replace y4 := cell_kept hb1 y4 hl_y
      replace y5 := cell_kept hb1 y5 hl_y
      replace v0 := cell_kept hb1 v0 hl_v
      replace v1 := cell_kept hb1 v1 hl_v
      replace v2 := cell_kept hb1 v2 hl_v
      replace v3 := cell_kept hb1 v3 hl_v
      replace v4 := cell_kept hb1 v4 hl_v
      replace v5 := cell_kept hb1 v5 hl_v
      replace Hb := Lib.hid (Hb.out.trans (hb1.mono hwl))
      replace hl_x := Nat.lt_of_lt_of_le hl_x hb1.size
      replace hl_p := Nat.lt_of_lt_of_le hl_p hb1.size
      replace hl_q := Nat.lt_of_lt_of_le hl_q hb1.size
      replace hl_y := Nat.lt_of_lt_of_le hl_y hb1.size
      replace hl_v := Nat.lt_of_lt_of_le hl_v hb1.size
      replace hwl := Nat.le_trans hwl hb1.size
      clear hb1
      go_wp2_with fail
      go_ret
      exact ⟨ret_bool Hr.out.symm, Hb.out.alloc hwl _⟩
    | some u =>
      have Hr := Lib.hid (show alikeB s ra rb = cmpB s.units t u by simp only [alikeB, hu, hu2])
      rintro e w3 ⟨⟨am, km, rfl, hnu⟩, hb1⟩
      obtain ⟨hty2, hgu⟩ := usable_facts hu2
      have Hnu := Lib.hid (hnu.below RStr.stab hb1)
      have Hgt := Lib.hid (goodT_in hgt)
      have Hgu := Lib.hid (goodT_in hgu)
      clear hnu hty2 hu hu2 hgt hgu
      replace x0 := cell_kept hb1 x0 hl_x
      replace x1 := cell_kept hb1 x1 hl_x
      replace x2 := cell_kept hb1 x2 hl_x
      replace x3 := cell_kept hb1 x3 hl_x
      replace x4 := cell_kept hb1 x4 hl_x
      replace x5 := cell_kept hb1 x5 hl_x
      replace p0 := cell_kept hb1 p0 hl_p
      replace p1 := cell_kept hb1 p1 hl_p
      replace p2 := cell_kept hb1 p2 hl_p
      replace p3 := cell_kept hb1 p3 hl_p
      replace q0 := cell_kept hb1 q0 hl_q
      replace q1 := cell_kept hb1 q1 hl_q
      replace q2 := cell_kept hb1 q2 hl_q
      replace q3 := cell_kept hb1 q3 hl_q
      replace y0 := cell_kept hb1 y0 hl_y
      replace y1 := cell_kept hb1 y1 hl_y
      replace y2 := cell_kept hb1 y2 hl_y
      replace y3 := cell_kept hb1 y3 hl_y
      replace y4 := cell_kept hb1 y4 hl_y
      replace y5 := cell_kept hb1 y5 hl_y
      replace v0 := cell_kept hb1 v0 hl_v
      replace v1 := cell_kept hb1 v1 hl_v
      replace v2 := cell_kept hb1 v2 hl_v
      replace v3 := cell_kept hb1 v3 hl_v
      replace v4 := cell_kept hb1 v4 hl_v
      replace v5 := cell_kept hb1 v5 hl_v
      replace Hb := Lib.hid (Hb.out.trans (hb1.mono hwl))
      replace hl_x := Nat.lt_of_lt_of_le hl_x hb1.size
      replace hl_p := Nat.lt_of_lt_of_le hl_p hb1.size
      replace hl_q := Nat.lt_of_lt_of_le hl_q hb1.size
      replace hl_y := Nat.lt_of_lt_of_le hl_y hb1.size
      replace hl_v := Nat.lt_of_lt_of_le hl_v hb1.size
      replace hwl := Nat.le_trans hwl hb1.size
      replace Hnt := Lib.hid (Hnt.out.below RStr.stab hb1)
      clear hb1
      go_wp2_with fail
      generalize hw0 : World.alloc _ _ = w4
      obtain ⟨X0, hsz, hb1⟩ := blk1 hw0
      have u0 : w4.cell? ⟨w3.heap.size, 0, none⟩ = some (.int .i64 u.kind) := X0.cell 0
      have u1 : w4.cell? ⟨w3.heap.size, 1, none⟩ = some (.int .i64 u.lo) := X0.cell 1
      have u2 : w4.cell? ⟨w3.heap.size, 2, none⟩ = some (.int .i64 u.hi) := X0.cell 2
      have u3 : w4.cell? ⟨w3.heap.size, 3, none⟩ = some (.string u.of_) := X0.cell 3
      have u4 : w4.cell? ⟨w3.heap.size, 4, none⟩ = some (.int .i64 u.unit) := X0.cell 4
      have u5 : w4.cell? ⟨w3.heap.size, 5, none⟩ = some (.slice am u.names.length km) := X0.cell 5
      have hl_u : w3.heap.size < w4.heap.size := by omega
      replace x0 := cell_kept hb1 x0 hl_x
      replace x1 := cell_kept hb1 x1 hl_x
      replace x2 := cell_kept hb1 x2 hl_x
      replace x3 := cell_kept hb1 x3 hl_x
      replace x4 := cell_kept hb1 x4 hl_x
      replace x5 := cell_kept hb1 x5 hl_x
      replace p0 := cell_kept hb1 p0 hl_p
      replace p1 := cell_kept hb1 p1 hl_p
      replace p2 := cell_kept hb1 p2 hl_p
      replace p3 := cell_kept hb1 p3 hl_p
      replace q0 := cell_kept hb1 q0 hl_q
      replace q1 := cell_kept hb1 q1 hl_q
      replace q2 := cell_kept hb1 q2 hl_q
      replace q3 := cell_kept hb1 q3 hl_q
      replace y0 := cell_kept hb1 y0 hl_y
      replace y1 := cell_kept hb1 y1 hl_y
      replace y2 := cell_kept hb1 y2 hl_y
      replace y3 := cell_kept hb1 y3 hl_y
      replace y4 := cell_kept hb1 y4 hl_y
      replace y5 := cell_kept hb1 y5 hl_y
      replace v0 := cell_kept hb1 v0 hl_v
      replace v1 := cell_kept hb1 v1 hl_v
      replace v2 := cell_kept hb1 v2 hl_v
      replace v3 := cell_kept hb1 v3 hl_v
      replace v4 := cell_kept hb1 v4 hl_v
      replace v5 := cell_kept hb1 v5 hl_v
      replace Hb := Lib.hid (Hb.out.trans (hb1.mono hwl))
      replace hl_x := Nat.lt_of_lt_of_le hl_x hb1.size
      replace hl_p := Nat.lt_of_lt_of_le hl_p hb1.size
      replace hl_q := Nat.lt_of_lt_of_le hl_q hb1.size
      replace hl_y := Nat.lt_of_lt_of_le hl_y hb1.size
      replace hl_v := Nat.lt_of_lt_of_le hl_v hb1.size
      replace hwl := Nat.le_trans hwl hb1.size
      replace Hnt := Lib.hid (Hnt.out.below RStr.stab hb1)
      replace Hnu := Lib.hid (Hnu.out.below RStr.stab hb1)
      clear hb1
      clear hw0 hsz X0
      refine (cmp_any s ⟨a0, k0, a1, k1, a2, k2, a3, k3, a4, k4, a5, k5⟩ t u an am kn km _ (Hs.out.below Hb.out) Hnt.out Hnu.out hlt Hgt.out Hgu.out).mono ?_
      rintro e w5 ⟨rfl, hb1⟩
      replace x0 := cell_kept hb1 x0 hl_x
      replace x1 := cell_kept hb1 x1 hl_x
      replace x2 := cell_kept hb1 x2 hl_x
      replace x3 := cell_kept hb1 x3 hl_x
      replace x4 := cell_kept hb1 x4 hl_x
      replace x5 := cell_kept hb1 x5 hl_x
      replace p0 := cell_kept hb1 p0 hl_p
      replace p1 := cell_kept hb1 p1 hl_p
      replace p2 := cell_kept hb1 p2 hl_p
      replace p3 := cell_kept hb1 p3 hl_p
      replace q0 := cell_kept hb1 q0 hl_q
      replace q1 := cell_kept hb1 q1 hl_q
      replace q2 := cell_kept hb1 q2 hl_q
      replace q3 := cell_kept hb1 q3 hl_q
      replace y0 := cell_kept hb1 y0 hl_y
      replace y1 := cell_kept hb1 y1 hl_y
      replace y2 := cell_kept hb1 y2 hl_y
      replace y3 := cell_kept hb1 y3 hl_y
      replace y4 := cell_kept hb1 y4 hl_y
      replace y5 := cell_kept hb1 y5 hl_y
      replace v0 := cell_kept hb1 v0 hl_v
      replace v1 := cell_kept hb1 v1 hl_v
      replace v2 := cell_kept hb1 v2 hl_v
      replace v3 := cell_kept hb1 v3 hl_v
      replace v4 := cell_kept hb1 v4 hl_v
      replace v5 := cell_kept hb1 v5 hl_v
      replace u0 := cell_kept hb1 u0 hl_u
      replace u1 := cell_kept hb1 u1 hl_u
      replace u2 := cell_kept hb1 u2 hl_u
      replace u3 := cell_kept hb1 u3 hl_u
      replace u4 := cell_kept hb1 u4 hl_u
      replace u5 := cell_kept hb1 u5 hl_u
      replace Hb := Lib.hid (Hb.out.trans (hb1.mono hwl))
      replace hl_x := Nat.lt_of_lt_of_le hl_x hb1.size
      replace hl_p := Nat.lt_of_lt_of_le hl_p hb1.size
      replace hl_q := Nat.lt_of_lt_of_le hl_q hb1.size
      replace hl_y := Nat.lt_of_lt_of_le hl_y hb1.size
      replace hl_v := Nat.lt_of_lt_of_le hl_v hb1.size
      replace hl_u := Nat.lt_of_lt_of_le hl_u hb1.size
      replace hwl := Nat.le_trans hwl hb1.size
      clear hb1
      go_wp2
      go_ret
      exact ⟨ret_bool Hr.out.symm, Hb.out⟩
end Go.Proofs.Ytogenjbabgibbaa
namespace Go.Proofs.Ytogenjbabgibbaa
open Go.RowKit
theorem ret_i {k : IntKind} {a b : Int} (h : a = b) : Ending.returned (.int k a) = .returned (.int k b) := by rw [h]
theorem limB_facts {s : SourceD} (h : limB s = true) : s.units.length ≤ 64 ∧ s.schemas.length ≤ 16 ∧ s.rules.length ≤ 16 ∧ s.purposes.length ≤ 8 ∧ ∀ x ∈ s.purposes, x.may.length ≤ 100000 := by
  unfold limB at h
  simp only [Bool.and_eq_true, decide_eq_true_eq, Bool.not_eq_true', List.any_eq_false] at h
  refine ⟨h.1.2.1, h.1.2.2.1, h.1.2.2.2.1, h.1.2.2.2.2.2, fun x hx => ?_⟩
  have := h.2 x hx
  simp at this
  omega
set_option maxRecDepth 20000 in
set_option maxHeartbeats 4000000 in
theorem check_u (s : SourceD) (p : SrcAt) (w : World) (hs : Src w s p) (_hf : Few s) (hlim : limB s = true) (h1 : s.units.all (unitB s.units) = false) :
    Calls Try.prog 11 #[s.val p] w fun e w' => e = .returned (.int .i64 (checkB s)) ∧ Below w.heap.size w w' := by
  obtain ⟨a0, k0, a1, k1, a2, k2, a3, k3, a4, k4, a5, k5⟩ := p
  have Hs := Lib.hid hs
  clear hs
  obtain ⟨l1, l2, l3, l4, hmay⟩ := limB_facts hlim
  have e27 : ∀ args w, (callFunc 27 args).run Try.prog w = .ok (.enter 27 args) w := enters_of Try.func27 (by kernel_rfl) rfl
  have e29 : ∀ args w, (callFunc 29 args).run Try.prog w = .ok (.enter 29 args) w := enters_of Try.func29 (by kernel_rfl) rfl
  have e24 : ∀ args w, (callFunc 24 args).run Try.prog w = .ok (.enter 24 args) w := enters_of Try.func24 (by kernel_rfl) rfl
  have e32 : ∀ args w, (callFunc 32 args).run Try.prog w = .ok (.enter 32 args) w := enters_of Try.func32 (by kernel_rfl) rfl
  go_enter Try.func11, Try.ntmps11
  go_wp2_with fail
  generalize hw0 : World.alloc _ _ = w0
  obtain ⟨X0, X1, hsz, hb0⟩ := blk2 hw0
  have x0 : w0.cell? ⟨w.heap.size, 0, none⟩ = some (.slice a0 s.issuers.length k0) := X0.cell 0
  have x1 : w0.cell? ⟨w.heap.size, 1, none⟩ = some (.slice a1 s.units.length k1) := X0.cell 1
  have x2 : w0.cell? ⟨w.heap.size, 2, none⟩ = some (.slice a2 s.schemas.length k2) := X0.cell 2
  have x3 : w0.cell? ⟨w.heap.size, 3, none⟩ = some (.slice a3 s.rules.length k3) := X0.cell 3
  have x4 : w0.cell? ⟨w.heap.size, 4, none⟩ = some (.slice a4 s.converts k4) := X0.cell 4
  have x5 : w0.cell? ⟨w.heap.size, 5, none⟩ = some (.slice a5 s.purposes.length k5) := X0.cell 5
  have hl_x : w.heap.size < w0.heap.size := by omega
  have y0 : w0.cell? ⟨w.heap.size + 1, 0, none⟩ = some (.slice a0 s.issuers.length k0) := X1.cell 0
  have y1 : w0.cell? ⟨w.heap.size + 1, 1, none⟩ = some (.slice a1 s.units.length k1) := X1.cell 1
  have y2 : w0.cell? ⟨w.heap.size + 1, 2, none⟩ = some (.slice a2 s.schemas.length k2) := X1.cell 2
  have y3 : w0.cell? ⟨w.heap.size + 1, 3, none⟩ = some (.slice a3 s.rules.length k3) := X1.cell 3
  have y4 : w0.cell? ⟨w.heap.size + 1, 4, none⟩ = some (.slice a4 s.converts k4) := X1.cell 4
  have y5 : w0.cell? ⟨w.heap.size + 1, 5, none⟩ = some (.slice a5 s.purposes.length k5) := X1.cell 5
  have hl_y : w.heap.size + 1 < w0.heap.size := by omega
  have hwl : w.heap.size ≤ w0.heap.size := hb0.size
  have Hb := Lib.hid hb0
  clear hw0 hb0 hsz X0 X1
  refine (limited_any s ⟨a0, k0, a1, k1, a2, k2, a3, k3, a4, k4, a5, k5⟩ _ (Hs.out.below Hb.out)).mono ?_
  rintro e w1 ⟨rfl, hb1⟩
  rw [hlim]
  replace x0 := cell_kept hb1 x0 hl_x
  replace x1 := cell_kept hb1 x1 hl_x
  replace x2 := cell_kept hb1 x2 hl_x
  replace x3 := cell_kept hb1 x3 hl_x
  replace x4 := cell_kept hb1 x4 hl_x
  replace x5 := cell_kept hb1 x5 hl_x
  replace y0 := cell_kept hb1 y0 hl_y
  replace y1 := cell_kept hb1 y1 hl_y
  replace y2 := cell_kept hb1 y2 hl_y
  replace y3 := cell_kept hb1 y3 hl_y
  replace y4 := cell_kept hb1 y4 hl_y
  replace y5 := cell_kept hb1 y5 hl_y
  replace Hb := Lib.hid (Hb.out.trans (hb1.mono hwl))
  replace hl_x := Nat.lt_of_lt_of_le hl_x hb1.size
  replace hl_y := Nat.lt_of_lt_of_le hl_y hb1.size
  replace hwl := Nat.le_trans hwl hb1.size
  clear hb1
  go_wp2_with fail
  refine (allU a1 k1 s.units 27 #[s.val ⟨a0, k0, a1, k1, a2, k2, a3, k3, a4, k4, a5, k5⟩] #[] (unitB s.units) _ ((Hs.out.below Hb.out).h1) (pred27 s _ _ _ (Hs.out.below Hb.out)) (by omega) e27 false h1).mono ?_
  rintro e w2 ⟨rfl, hb1⟩
  replace x0 := cell_kept hb1 x0 hl_x
  replace x1 := cell_kept hb1 x1 hl_x
  replace x2 := cell_kept hb1 x2 hl_x
  replace x3 := cell_kept hb1 x3 hl_x
  replace x4 := cell_kept hb1 x4 hl_x
  replace x5 := cell_kept hb1 x5 hl_x
  replace y0 := cell_kept hb1 y0 hl_y
  replace y1 := cell_kept hb1 y1 hl_y
  replace y2 := cell_kept hb1 y2 hl_y
  replace y3 := cell_kept hb1 y3 hl_y
  replace y4 := cell_kept hb1 y4 hl_y
  replace y5 := cell_kept hb1 y5 hl_y
  replace Hb := Lib.hid (Hb.out.trans (hb1.mono hwl))
  replace hl_x := Nat.lt_of_lt_of_le hl_x hb1.size
  replace hl_y := Nat.lt_of_lt_of_le hl_y hb1.size
  replace hwl := Nat.le_trans hwl hb1.size
  clear hb1
  go_wp2
  go_ret
  exact ⟨ret_i (by simp [checkB, hlim, h1]), Hb.out⟩

set_option maxRecDepth 20000 in
set_option maxHeartbeats 4000000 in
theorem check_s (s : SourceD) (p : SrcAt) (w : World) (hs : Src w s p) (hf : Few s) (hlim : limB s = true) (h1 : s.units.all (unitB s.units) = true) (h2 : s.schemas.all (schB s) = false) :
    Calls Try.prog 11 #[s.val p] w fun e w' => e = .returned (.int .i64 (checkB s)) ∧ Below w.heap.size w w' := by
  obtain ⟨a0, k0, a1, k1, a2, k2, a3, k3, a4, k4, a5, k5⟩ := p
  have Hs := Lib.hid hs
  clear hs
  obtain ⟨l1, l2, l3, l4, hmay⟩ := limB_facts hlim
  have e27 : ∀ args w, (callFunc 27 args).run Try.prog w = .ok (.enter 27 args) w := enters_of Try.func27 (by kernel_rfl) rfl
  have e29 : ∀ args w, (callFunc 29 args).run Try.prog w = .ok (.enter 29 args) w := enters_of Try.func29 (by kernel_rfl) rfl
  have e24 : ∀ args w, (callFunc 24 args).run Try.prog w = .ok (.enter 24 args) w := enters_of Try.func24 (by kernel_rfl) rfl
  have e32 : ∀ args w, (callFunc 32 args).run Try.prog w = .ok (.enter 32 args) w := enters_of Try.func32 (by kernel_rfl) rfl
  go_enter Try.func11, Try.ntmps11
  go_wp2_with fail
  generalize hw0 : World.alloc _ _ = w0
  obtain ⟨X0, X1, hsz, hb0⟩ := blk2 hw0
  have x0 : w0.cell? ⟨w.heap.size, 0, none⟩ = some (.slice a0 s.issuers.length k0) := X0.cell 0
  have x1 : w0.cell? ⟨w.heap.size, 1, none⟩ = some (.slice a1 s.units.length k1) := X0.cell 1
  have x2 : w0.cell? ⟨w.heap.size, 2, none⟩ = some (.slice a2 s.schemas.length k2) := X0.cell 2
  have x3 : w0.cell? ⟨w.heap.size, 3, none⟩ = some (.slice a3 s.rules.length k3) := X0.cell 3
  have x4 : w0.cell? ⟨w.heap.size, 4, none⟩ = some (.slice a4 s.converts k4) := X0.cell 4
  have x5 : w0.cell? ⟨w.heap.size, 5, none⟩ = some (.slice a5 s.purposes.length k5) := X0.cell 5
  have hl_x : w.heap.size < w0.heap.size := by omega
  have y0 : w0.cell? ⟨w.heap.size + 1, 0, none⟩ = some (.slice a0 s.issuers.length k0) := X1.cell 0
  have y1 : w0.cell? ⟨w.heap.size + 1, 1, none⟩ = some (.slice a1 s.units.length k1) := X1.cell 1
  have y2 : w0.cell? ⟨w.heap.size + 1, 2, none⟩ = some (.slice a2 s.schemas.length k2) := X1.cell 2
  have y3 : w0.cell? ⟨w.heap.size + 1, 3, none⟩ = some (.slice a3 s.rules.length k3) := X1.cell 3
  have y4 : w0.cell? ⟨w.heap.size + 1, 4, none⟩ = some (.slice a4 s.converts k4) := X1.cell 4
  have y5 : w0.cell? ⟨w.heap.size + 1, 5, none⟩ = some (.slice a5 s.purposes.length k5) := X1.cell 5
  have hl_y : w.heap.size + 1 < w0.heap.size := by omega
  have hwl : w.heap.size ≤ w0.heap.size := hb0.size
  have Hb := Lib.hid hb0
  clear hw0 hb0 hsz X0 X1
  refine (limited_any s ⟨a0, k0, a1, k1, a2, k2, a3, k3, a4, k4, a5, k5⟩ _ (Hs.out.below Hb.out)).mono ?_
  rintro e w1 ⟨rfl, hb1⟩
  rw [hlim]
  replace x0 := cell_kept hb1 x0 hl_x
  replace x1 := cell_kept hb1 x1 hl_x
  replace x2 := cell_kept hb1 x2 hl_x
  replace x3 := cell_kept hb1 x3 hl_x
  replace x4 := cell_kept hb1 x4 hl_x
  replace x5 := cell_kept hb1 x5 hl_x
  replace y0 := cell_kept hb1 y0 hl_y
  replace y1 := cell_kept hb1 y1 hl_y
  replace y2 := cell_kept hb1 y2 hl_y
  replace y3 := cell_kept hb1 y3 hl_y
  replace y4 := cell_kept hb1 y4 hl_y
  replace y5 := cell_kept hb1 y5 hl_y
  replace Hb := Lib.hid (Hb.out.trans (hb1.mono hwl))
  replace hl_x := Nat.lt_of_lt_of_le hl_x hb1.size
  replace hl_y := Nat.lt_of_lt_of_le hl_y hb1.size
  replace hwl := Nat.le_trans hwl hb1.size
  clear hb1
  go_wp2_with fail
  refine (allU a1 k1 s.units 27 #[s.val ⟨a0, k0, a1, k1, a2, k2, a3, k3, a4, k4, a5, k5⟩] #[] (unitB s.units) _ ((Hs.out.below Hb.out).h1) (pred27 s _ _ _ (Hs.out.below Hb.out)) (by omega) e27 true h1).mono ?_
  rintro e w2 ⟨rfl, hb1⟩
  replace x0 := cell_kept hb1 x0 hl_x
  replace x1 := cell_kept hb1 x1 hl_x
  replace x2 := cell_kept hb1 x2 hl_x
  replace x3 := cell_kept hb1 x3 hl_x
  replace x4 := cell_kept hb1 x4 hl_x
  replace x5 := cell_kept hb1 x5 hl_x
  replace y0 := cell_kept hb1 y0 hl_y
  replace y1 := cell_kept hb1 y1 hl_y
  replace y2 := cell_kept hb1 y2 hl_y
  replace y3 := cell_kept hb1 y3 hl_y
  replace y4 := cell_kept hb1 y4 hl_y
  replace y5 := cell_kept hb1 y5 hl_y
  replace Hb := Lib.hid (Hb.out.trans (hb1.mono hwl))
  replace hl_x := Nat.lt_of_lt_of_le hl_x hb1.size
  replace hl_y := Nat.lt_of_lt_of_le hl_y hb1.size
  replace hwl := Nat.le_trans hwl hb1.size
  clear hb1
  go_wp2_with fail
  refine (allS a2 k2 s.schemas 29 #[s.val ⟨a0, k0, a1, k1, a2, k2, a3, k3, a4, k4, a5, k5⟩] #[] (schB s) _ ((Hs.out.below Hb.out).h2) (pred29 s _ _ hf) (by omega) e29 false h2).mono ?_
  rintro e w3 ⟨rfl, hb1⟩
  replace x0 := cell_kept hb1 x0 hl_x
  replace x1 := cell_kept hb1 x1 hl_x
  replace x2 := cell_kept hb1 x2 hl_x
  replace x3 := cell_kept hb1 x3 hl_x
  replace x4 := cell_kept hb1 x4 hl_x
  replace x5 := cell_kept hb1 x5 hl_x
  replace y0 := cell_kept hb1 y0 hl_y
  replace y1 := cell_kept hb1 y1 hl_y
  replace y2 := cell_kept hb1 y2 hl_y
  replace y3 := cell_kept hb1 y3 hl_y
  replace y4 := cell_kept hb1 y4 hl_y
  replace y5 := cell_kept hb1 y5 hl_y
  replace Hb := Lib.hid (Hb.out.trans (hb1.mono hwl))
  replace hl_x := Nat.lt_of_lt_of_le hl_x hb1.size
  replace hl_y := Nat.lt_of_lt_of_le hl_y hb1.size
  replace hwl := Nat.le_trans hwl hb1.size
  clear hb1
  go_wp2
  go_ret
  exact ⟨ret_i (by simp [checkB, hlim, h1, h2]), Hb.out⟩

set_option maxRecDepth 20000 in
set_option maxHeartbeats 4000000 in
theorem check_r (s : SourceD) (p : SrcAt) (w : World) (hs : Src w s p) (hf : Few s) (hlim : limB s = true) (h1 : s.units.all (unitB s.units) = true) (h2 : s.schemas.all (schB s) = true) (hgd : Good s) (h3 : s.rules.all (ruleB s) = false) :
    Calls Try.prog 11 #[s.val p] w fun e w' => e = .returned (.int .i64 (checkB s)) ∧ Below w.heap.size w w' := by
  obtain ⟨a0, k0, a1, k1, a2, k2, a3, k3, a4, k4, a5, k5⟩ := p
  have Hs := Lib.hid hs
  clear hs
  obtain ⟨l1, l2, l3, l4, hmay⟩ := limB_facts hlim
  have e27 : ∀ args w, (callFunc 27 args).run Try.prog w = .ok (.enter 27 args) w := enters_of Try.func27 (by kernel_rfl) rfl
  have e29 : ∀ args w, (callFunc 29 args).run Try.prog w = .ok (.enter 29 args) w := enters_of Try.func29 (by kernel_rfl) rfl
  have e24 : ∀ args w, (callFunc 24 args).run Try.prog w = .ok (.enter 24 args) w := enters_of Try.func24 (by kernel_rfl) rfl
  have e32 : ∀ args w, (callFunc 32 args).run Try.prog w = .ok (.enter 32 args) w := enters_of Try.func32 (by kernel_rfl) rfl
  go_enter Try.func11, Try.ntmps11
  go_wp2_with fail
  generalize hw0 : World.alloc _ _ = w0
  obtain ⟨X0, X1, hsz, hb0⟩ := blk2 hw0
  have x0 : w0.cell? ⟨w.heap.size, 0, none⟩ = some (.slice a0 s.issuers.length k0) := X0.cell 0
  have x1 : w0.cell? ⟨w.heap.size, 1, none⟩ = some (.slice a1 s.units.length k1) := X0.cell 1
  have x2 : w0.cell? ⟨w.heap.size, 2, none⟩ = some (.slice a2 s.schemas.length k2) := X0.cell 2
  have x3 : w0.cell? ⟨w.heap.size, 3, none⟩ = some (.slice a3 s.rules.length k3) := X0.cell 3
  have x4 : w0.cell? ⟨w.heap.size, 4, none⟩ = some (.slice a4 s.converts k4) := X0.cell 4
  have x5 : w0.cell? ⟨w.heap.size, 5, none⟩ = some (.slice a5 s.purposes.length k5) := X0.cell 5
  have hl_x : w.heap.size < w0.heap.size := by omega
  have y0 : w0.cell? ⟨w.heap.size + 1, 0, none⟩ = some (.slice a0 s.issuers.length k0) := X1.cell 0
  have y1 : w0.cell? ⟨w.heap.size + 1, 1, none⟩ = some (.slice a1 s.units.length k1) := X1.cell 1
  have y2 : w0.cell? ⟨w.heap.size + 1, 2, none⟩ = some (.slice a2 s.schemas.length k2) := X1.cell 2
  have y3 : w0.cell? ⟨w.heap.size + 1, 3, none⟩ = some (.slice a3 s.rules.length k3) := X1.cell 3
  have y4 : w0.cell? ⟨w.heap.size + 1, 4, none⟩ = some (.slice a4 s.converts k4) := X1.cell 4
  have y5 : w0.cell? ⟨w.heap.size + 1, 5, none⟩ = some (.slice a5 s.purposes.length k5) := X1.cell 5
  have hl_y : w.heap.size + 1 < w0.heap.size := by omega
  have hwl : w.heap.size ≤ w0.heap.size := hb0.size
  have Hb := Lib.hid hb0
  clear hw0 hb0 hsz X0 X1
  refine (limited_any s ⟨a0, k0, a1, k1, a2, k2, a3, k3, a4, k4, a5, k5⟩ _ (Hs.out.below Hb.out)).mono ?_
  rintro e w1 ⟨rfl, hb1⟩
  rw [hlim]
  replace x0 := cell_kept hb1 x0 hl_x
  replace x1 := cell_kept hb1 x1 hl_x
  replace x2 := cell_kept hb1 x2 hl_x
  replace x3 := cell_kept hb1 x3 hl_x
  replace x4 := cell_kept hb1 x4 hl_x
  replace x5 := cell_kept hb1 x5 hl_x
  replace y0 := cell_kept hb1 y0 hl_y
  replace y1 := cell_kept hb1 y1 hl_y
  replace y2 := cell_kept hb1 y2 hl_y
  replace y3 := cell_kept hb1 y3 hl_y
  replace y4 := cell_kept hb1 y4 hl_y
  replace y5 := cell_kept hb1 y5 hl_y
  replace Hb := Lib.hid (Hb.out.trans (hb1.mono hwl))
  replace hl_x := Nat.lt_of_lt_of_le hl_x hb1.size
  replace hl_y := Nat.lt_of_lt_of_le hl_y hb1.size
  replace hwl := Nat.le_trans hwl hb1.size
  clear hb1
  go_wp2_with fail
  refine (allU a1 k1 s.units 27 #[s.val ⟨a0, k0, a1, k1, a2, k2, a3, k3, a4, k4, a5, k5⟩] #[] (unitB s.units) _ ((Hs.out.below Hb.out).h1) (pred27 s _ _ _ (Hs.out.below Hb.out)) (by omega) e27 true h1).mono ?_
  rintro e w2 ⟨rfl, hb1⟩
  replace x0 := cell_kept hb1 x0 hl_x
  replace x1 := cell_kept hb1 x1 hl_x
  replace x2 := cell_kept hb1 x2 hl_x
  replace x3 := cell_kept hb1 x3 hl_x
  replace x4 := cell_kept hb1 x4 hl_x
  replace x5 := cell_kept hb1 x5 hl_x
  replace y0 := cell_kept hb1 y0 hl_y
  replace y1 := cell_kept hb1 y1 hl_y
  replace y2 := cell_kept hb1 y2 hl_y
  replace y3 := cell_kept hb1 y3 hl_y
  replace y4 := cell_kept hb1 y4 hl_y
  replace y5 := cell_kept hb1 y5 hl_y
  replace Hb := Lib.hid (Hb.out.trans (hb1.mono hwl))
  replace hl_x := Nat.lt_of_lt_of_le hl_x hb1.size
  replace hl_y := Nat.lt_of_lt_of_le hl_y hb1.size
  replace hwl := Nat.le_trans hwl hb1.size
  clear hb1
  go_wp2_with fail
  refine (allS a2 k2 s.schemas 29 #[s.val ⟨a0, k0, a1, k1, a2, k2, a3, k3, a4, k4, a5, k5⟩] #[] (schB s) _ ((Hs.out.below Hb.out).h2) (pred29 s _ _ hf) (by omega) e29 true h2).mono ?_
  rintro e w3 ⟨rfl, hb1⟩
  replace x0 := cell_kept hb1 x0 hl_x
  replace x1 := cell_kept hb1 x1 hl_x
  replace x2 := cell_kept hb1 x2 hl_x
  replace x3 := cell_kept hb1 x3 hl_x
  replace x4 := cell_kept hb1 x4 hl_x
  replace x5 := cell_kept hb1 x5 hl_x
  replace y0 := cell_kept hb1 y0 hl_y
  replace y1 := cell_kept hb1 y1 hl_y
  replace y2 := cell_kept hb1 y2 hl_y
  replace y3 := cell_kept hb1 y3 hl_y
  replace y4 := cell_kept hb1 y4 hl_y
  replace y5 := cell_kept hb1 y5 hl_y
  replace Hb := Lib.hid (Hb.out.trans (hb1.mono hwl))
  replace hl_x := Nat.lt_of_lt_of_le hl_x hb1.size
  replace hl_y := Nat.lt_of_lt_of_le hl_y hb1.size
  replace hwl := Nat.le_trans hwl hb1.size
  clear hb1
  go_wp2_with fail
  refine (allR a3 k3 s.rules 24 #[] #[.pointer (some ⟨w.heap.size + 1, 0, none⟩)] (ruleB s) _ ((Hs.out.below Hb.out).h3) (pred24 s (w.heap.size + 1) a0 a1 a2 a3 a4 a5 k0 k1 k2 k3 k4 k5 _ _ (Hs.out.below Hb.out) hl_y (by intro i v hi; match i, hi with | 0, hi => cases hi; exact y0 | 1, hi => cases hi; exact y1 | 2, hi => cases hi; exact y2 | 3, hi => cases hi; exact y3 | 4, hi => cases hi; exact y4 | 5, hi => cases hi; exact y5 | n + 6, hi => simp at hi) hf.short hgd hf.fields) (by omega) e24 false h3).mono ?_
  rintro e w4 ⟨rfl, hb1⟩
  replace x0 := cell_kept hb1 x0 hl_x
  replace x1 := cell_kept hb1 x1 hl_x
  replace x2 := cell_kept hb1 x2 hl_x
  replace x3 := cell_kept hb1 x3 hl_x
  replace x4 := cell_kept hb1 x4 hl_x
  replace x5 := cell_kept hb1 x5 hl_x
  replace y0 := cell_kept hb1 y0 hl_y
  replace y1 := cell_kept hb1 y1 hl_y
  replace y2 := cell_kept hb1 y2 hl_y
  replace y3 := cell_kept hb1 y3 hl_y
  replace y4 := cell_kept hb1 y4 hl_y
  replace y5 := cell_kept hb1 y5 hl_y
  replace Hb := Lib.hid (Hb.out.trans (hb1.mono hwl))
  replace hl_x := Nat.lt_of_lt_of_le hl_x hb1.size
  replace hl_y := Nat.lt_of_lt_of_le hl_y hb1.size
  replace hwl := Nat.le_trans hwl hb1.size
  clear hb1
  go_wp2
  go_ret
  exact ⟨ret_i (by simp [checkB, hlim, h1, h2, h3]), Hb.out⟩

set_option maxRecDepth 20000 in
set_option maxHeartbeats 4000000 in
theorem check_p (s : SourceD) (p : SrcAt) (w : World) (hs : Src w s p) (hf : Few s) (hlim : limB s = true) (h1 : s.units.all (unitB s.units) = true) (h2 : s.schemas.all (schB s) = true) (hgd : Good s) (h3 : s.rules.all (ruleB s) = true) (h4 : s.purposes.all (purpB s) = false) :
    Calls Try.prog 11 #[s.val p] w fun e w' => e = .returned (.int .i64 (checkB s)) ∧ Below w.heap.size w w' := by
  obtain ⟨a0, k0, a1, k1, a2, k2, a3, k3, a4, k4, a5, k5⟩ := p
  have Hs := Lib.hid hs
  clear hs
  obtain ⟨l1, l2, l3, l4, hmay⟩ := limB_facts hlim
  have e27 : ∀ args w, (callFunc 27 args).run Try.prog w = .ok (.enter 27 args) w := enters_of Try.func27 (by kernel_rfl) rfl
  have e29 : ∀ args w, (callFunc 29 args).run Try.prog w = .ok (.enter 29 args) w := enters_of Try.func29 (by kernel_rfl) rfl
  have e24 : ∀ args w, (callFunc 24 args).run Try.prog w = .ok (.enter 24 args) w := enters_of Try.func24 (by kernel_rfl) rfl
  have e32 : ∀ args w, (callFunc 32 args).run Try.prog w = .ok (.enter 32 args) w := enters_of Try.func32 (by kernel_rfl) rfl
  go_enter Try.func11, Try.ntmps11
  go_wp2_with fail
  generalize hw0 : World.alloc _ _ = w0
  obtain ⟨X0, X1, hsz, hb0⟩ := blk2 hw0
  have x0 : w0.cell? ⟨w.heap.size, 0, none⟩ = some (.slice a0 s.issuers.length k0) := X0.cell 0
  have x1 : w0.cell? ⟨w.heap.size, 1, none⟩ = some (.slice a1 s.units.length k1) := X0.cell 1
  have x2 : w0.cell? ⟨w.heap.size, 2, none⟩ = some (.slice a2 s.schemas.length k2) := X0.cell 2
  have x3 : w0.cell? ⟨w.heap.size, 3, none⟩ = some (.slice a3 s.rules.length k3) := X0.cell 3
  have x4 : w0.cell? ⟨w.heap.size, 4, none⟩ = some (.slice a4 s.converts k4) := X0.cell 4
  have x5 : w0.cell? ⟨w.heap.size, 5, none⟩ = some (.slice a5 s.purposes.length k5) := X0.cell 5
  have hl_x : w.heap.size < w0.heap.size := by omega
  have y0 : w0.cell? ⟨w.heap.size + 1, 0, none⟩ = some (.slice a0 s.issuers.length k0) := X1.cell 0
  have y1 : w0.cell? ⟨w.heap.size + 1, 1, none⟩ = some (.slice a1 s.units.length k1) := X1.cell 1
  have y2 : w0.cell? ⟨w.heap.size + 1, 2, none⟩ = some (.slice a2 s.schemas.length k2) := X1.cell 2
  have y3 : w0.cell? ⟨w.heap.size + 1, 3, none⟩ = some (.slice a3 s.rules.length k3) := X1.cell 3
  have y4 : w0.cell? ⟨w.heap.size + 1, 4, none⟩ = some (.slice a4 s.converts k4) := X1.cell 4
  have y5 : w0.cell? ⟨w.heap.size + 1, 5, none⟩ = some (.slice a5 s.purposes.length k5) := X1.cell 5
  have hl_y : w.heap.size + 1 < w0.heap.size := by omega
  have hwl : w.heap.size ≤ w0.heap.size := hb0.size
  have Hb := Lib.hid hb0
  clear hw0 hb0 hsz X0 X1
  refine (limited_any s ⟨a0, k0, a1, k1, a2, k2, a3, k3, a4, k4, a5, k5⟩ _ (Hs.out.below Hb.out)).mono ?_
  rintro e w1 ⟨rfl, hb1⟩
  rw [hlim]
  replace x0 := cell_kept hb1 x0 hl_x
  replace x1 := cell_kept hb1 x1 hl_x
  replace x2 := cell_kept hb1 x2 hl_x
  replace x3 := cell_kept hb1 x3 hl_x
  replace x4 := cell_kept hb1 x4 hl_x
  replace x5 := cell_kept hb1 x5 hl_x
  replace y0 := cell_kept hb1 y0 hl_y
  replace y1 := cell_kept hb1 y1 hl_y
  replace y2 := cell_kept hb1 y2 hl_y
  replace y3 := cell_kept hb1 y3 hl_y
  replace y4 := cell_kept hb1 y4 hl_y
  replace y5 := cell_kept hb1 y5 hl_y
  replace Hb := Lib.hid (Hb.out.trans (hb1.mono hwl))
  replace hl_x := Nat.lt_of_lt_of_le hl_x hb1.size
  replace hl_y := Nat.lt_of_lt_of_le hl_y hb1.size
  replace hwl := Nat.le_trans hwl hb1.size
  clear hb1
  go_wp2_with fail
  refine (allU a1 k1 s.units 27 #[s.val ⟨a0, k0, a1, k1, a2, k2, a3, k3, a4, k4, a5, k5⟩] #[] (unitB s.units) _ ((Hs.out.below Hb.out).h1) (pred27 s _ _ _ (Hs.out.below Hb.out)) (by omega) e27 true h1).mono ?_
  rintro e w2 ⟨rfl, hb1⟩
  replace x0 := cell_kept hb1 x0 hl_x
  replace x1 := cell_kept hb1 x1 hl_x
  replace x2 := cell_kept hb1 x2 hl_x
  replace x3 := cell_kept hb1 x3 hl_x
  replace x4 := cell_kept hb1 x4 hl_x
  replace x5 := cell_kept hb1 x5 hl_x
  replace y0 := cell_kept hb1 y0 hl_y
  replace y1 := cell_kept hb1 y1 hl_y
  replace y2 := cell_kept hb1 y2 hl_y
  replace y3 := cell_kept hb1 y3 hl_y
  replace y4 := cell_kept hb1 y4 hl_y
  replace y5 := cell_kept hb1 y5 hl_y
  replace Hb := Lib.hid (Hb.out.trans (hb1.mono hwl))
  replace hl_x := Nat.lt_of_lt_of_le hl_x hb1.size
  replace hl_y := Nat.lt_of_lt_of_le hl_y hb1.size
  replace hwl := Nat.le_trans hwl hb1.size
  clear hb1
  go_wp2_with fail
  refine (allS a2 k2 s.schemas 29 #[s.val ⟨a0, k0, a1, k1, a2, k2, a3, k3, a4, k4, a5, k5⟩] #[] (schB s) _ ((Hs.out.below Hb.out).h2) (pred29 s _ _ hf) (by omega) e29 true h2).mono ?_
  rintro e w3 ⟨rfl, hb1⟩
  replace x0 := cell_kept hb1 x0 hl_x
  replace x1 := cell_kept hb1 x1 hl_x
  replace x2 := cell_kept hb1 x2 hl_x
  replace x3 := cell_kept hb1 x3 hl_x
  replace x4 := cell_kept hb1 x4 hl_x
  replace x5 := cell_kept hb1 x5 hl_x
  replace y0 := cell_kept hb1 y0 hl_y
  replace y1 := cell_kept hb1 y1 hl_y
  replace y2 := cell_kept hb1 y2 hl_y
  replace y3 := cell_kept hb1 y3 hl_y
  replace y4 := cell_kept hb1 y4 hl_y
  replace y5 := cell_kept hb1 y5 hl_y
  replace Hb := Lib.hid (Hb.out.trans (hb1.mono hwl))
  replace hl_x := Nat.lt_of_lt_of_le hl_x hb1.size
  replace hl_y := Nat.lt_of_lt_of_le hl_y hb1.size
  replace hwl := Nat.le_trans hwl hb1.size
  clear hb1
  go_wp2_with fail
  refine (allR a3 k3 s.rules 24 #[] #[.pointer (some ⟨w.heap.size + 1, 0, none⟩)] (ruleB s) _ ((Hs.out.below Hb.out).h3) (pred24 s (w.heap.size + 1) a0 a1 a2 a3 a4 a5 k0 k1 k2 k3 k4 k5 _ _ (Hs.out.below Hb.out) hl_y (by intro i v hi; match i, hi with | 0, hi => cases hi; exact y0 | 1, hi => cases hi; exact y1 | 2, hi => cases hi; exact y2 | 3, hi => cases hi; exact y3 | 4, hi => cases hi; exact y4 | 5, hi => cases hi; exact y5 | n + 6, hi => simp at hi) hf.short hgd hf.fields) (by omega) e24 true h3).mono ?_
  rintro e w4 ⟨rfl, hb1⟩
  replace x0 := cell_kept hb1 x0 hl_x
  replace x1 := cell_kept hb1 x1 hl_x
  replace x2 := cell_kept hb1 x2 hl_x
  replace x3 := cell_kept hb1 x3 hl_x
  replace x4 := cell_kept hb1 x4 hl_x
  replace x5 := cell_kept hb1 x5 hl_x
  replace y0 := cell_kept hb1 y0 hl_y
  replace y1 := cell_kept hb1 y1 hl_y
  replace y2 := cell_kept hb1 y2 hl_y
  replace y3 := cell_kept hb1 y3 hl_y
  replace y4 := cell_kept hb1 y4 hl_y
  replace y5 := cell_kept hb1 y5 hl_y
  replace Hb := Lib.hid (Hb.out.trans (hb1.mono hwl))
  replace hl_x := Nat.lt_of_lt_of_le hl_x hb1.size
  replace hl_y := Nat.lt_of_lt_of_le hl_y hb1.size
  replace hwl := Nat.le_trans hwl hb1.size
  clear hb1
  go_wp2_with fail
  refine (allP a5 k5 s.purposes 32 #[s.val ⟨a0, k0, a1, k1, a2, k2, a3, k3, a4, k4, a5, k5⟩] #[] (purpB s) _ ((Hs.out.below Hb.out).h5) (pred32 s _ _ (Hs.out.below Hb.out) hmay) (by omega) e32 false h4).mono ?_
  rintro e w5 ⟨rfl, hb1⟩
  replace x0 := cell_kept hb1 x0 hl_x
  replace x1 := cell_kept hb1 x1 hl_x
  replace x2 := cell_kept hb1 x2 hl_x
  replace x3 := cell_kept hb1 x3 hl_x
  replace x4 := cell_kept hb1 x4 hl_x
  replace x5 := cell_kept hb1 x5 hl_x
  replace y0 := cell_kept hb1 y0 hl_y
  replace y1 := cell_kept hb1 y1 hl_y
  replace y2 := cell_kept hb1 y2 hl_y
  replace y3 := cell_kept hb1 y3 hl_y
  replace y4 := cell_kept hb1 y4 hl_y
  replace y5 := cell_kept hb1 y5 hl_y
  replace Hb := Lib.hid (Hb.out.trans (hb1.mono hwl))
  replace hl_x := Nat.lt_of_lt_of_le hl_x hb1.size
  replace hl_y := Nat.lt_of_lt_of_le hl_y hb1.size
  replace hwl := Nat.le_trans hwl hb1.size
  clear hb1
  go_wp2
  go_ret
  exact ⟨ret_i (by simp [checkB, hlim, h1, h2, h3, h4]), Hb.out⟩

set_option maxRecDepth 20000 in
set_option maxHeartbeats 4000000 in
theorem check_o (s : SourceD) (p : SrcAt) (w : World) (hs : Src w s p) (hf : Few s) (hlim : limB s = true) (h1 : s.units.all (unitB s.units) = true) (h2 : s.schemas.all (schB s) = true) (hgd : Good s) (h3 : s.rules.all (ruleB s) = true) (h4 : s.purposes.all (purpB s) = true) :
    Calls Try.prog 11 #[s.val p] w fun e w' => e = .returned (.int .i64 (checkB s)) ∧ Below w.heap.size w w' := by
  obtain ⟨a0, k0, a1, k1, a2, k2, a3, k3, a4, k4, a5, k5⟩ := p
  have Hs := Lib.hid hs
  clear hs
  obtain ⟨l1, l2, l3, l4, hmay⟩ := limB_facts hlim
  have e27 : ∀ args w, (callFunc 27 args).run Try.prog w = .ok (.enter 27 args) w := enters_of Try.func27 (by kernel_rfl) rfl
  have e29 : ∀ args w, (callFunc 29 args).run Try.prog w = .ok (.enter 29 args) w := enters_of Try.func29 (by kernel_rfl) rfl
  have e24 : ∀ args w, (callFunc 24 args).run Try.prog w = .ok (.enter 24 args) w := enters_of Try.func24 (by kernel_rfl) rfl
  have e32 : ∀ args w, (callFunc 32 args).run Try.prog w = .ok (.enter 32 args) w := enters_of Try.func32 (by kernel_rfl) rfl
  go_enter Try.func11, Try.ntmps11
  go_wp2_with fail
  generalize hw0 : World.alloc _ _ = w0
  obtain ⟨X0, X1, hsz, hb0⟩ := blk2 hw0
  have x0 : w0.cell? ⟨w.heap.size, 0, none⟩ = some (.slice a0 s.issuers.length k0) := X0.cell 0
  have x1 : w0.cell? ⟨w.heap.size, 1, none⟩ = some (.slice a1 s.units.length k1) := X0.cell 1
  have x2 : w0.cell? ⟨w.heap.size, 2, none⟩ = some (.slice a2 s.schemas.length k2) := X0.cell 2
  have x3 : w0.cell? ⟨w.heap.size, 3, none⟩ = some (.slice a3 s.rules.length k3) := X0.cell 3
  have x4 : w0.cell? ⟨w.heap.size, 4, none⟩ = some (.slice a4 s.converts k4) := X0.cell 4
  have x5 : w0.cell? ⟨w.heap.size, 5, none⟩ = some (.slice a5 s.purposes.length k5) := X0.cell 5
  have hl_x : w.heap.size < w0.heap.size := by omega
  have y0 : w0.cell? ⟨w.heap.size + 1, 0, none⟩ = some (.slice a0 s.issuers.length k0) := X1.cell 0
  have y1 : w0.cell? ⟨w.heap.size + 1, 1, none⟩ = some (.slice a1 s.units.length k1) := X1.cell 1
  have y2 : w0.cell? ⟨w.heap.size + 1, 2, none⟩ = some (.slice a2 s.schemas.length k2) := X1.cell 2
  have y3 : w0.cell? ⟨w.heap.size + 1, 3, none⟩ = some (.slice a3 s.rules.length k3) := X1.cell 3
  have y4 : w0.cell? ⟨w.heap.size + 1, 4, none⟩ = some (.slice a4 s.converts k4) := X1.cell 4
  have y5 : w0.cell? ⟨w.heap.size + 1, 5, none⟩ = some (.slice a5 s.purposes.length k5) := X1.cell 5
  have hl_y : w.heap.size + 1 < w0.heap.size := by omega
  have hwl : w.heap.size ≤ w0.heap.size := hb0.size
  have Hb := Lib.hid hb0
  clear hw0 hb0 hsz X0 X1
  refine (limited_any s ⟨a0, k0, a1, k1, a2, k2, a3, k3, a4, k4, a5, k5⟩ _ (Hs.out.below Hb.out)).mono ?_
  rintro e w1 ⟨rfl, hb1⟩
  rw [hlim]
  replace x0 := cell_kept hb1 x0 hl_x
  replace x1 := cell_kept hb1 x1 hl_x
  replace x2 := cell_kept hb1 x2 hl_x
  replace x3 := cell_kept hb1 x3 hl_x
  replace x4 := cell_kept hb1 x4 hl_x
  replace x5 := cell_kept hb1 x5 hl_x
  replace y0 := cell_kept hb1 y0 hl_y
  replace y1 := cell_kept hb1 y1 hl_y
  replace y2 := cell_kept hb1 y2 hl_y
  replace y3 := cell_kept hb1 y3 hl_y
  replace y4 := cell_kept hb1 y4 hl_y
  replace y5 := cell_kept hb1 y5 hl_y
  replace Hb := Lib.hid (Hb.out.trans (hb1.mono hwl))
  replace hl_x := Nat.lt_of_lt_of_le hl_x hb1.size
  replace hl_y := Nat.lt_of_lt_of_le hl_y hb1.size
  replace hwl := Nat.le_trans hwl hb1.size
  clear hb1
  go_wp2_with fail
  refine (allU a1 k1 s.units 27 #[s.val ⟨a0, k0, a1, k1, a2, k2, a3, k3, a4, k4, a5, k5⟩] #[] (unitB s.units) _ ((Hs.out.below Hb.out).h1) (pred27 s _ _ _ (Hs.out.below Hb.out)) (by omega) e27 true h1).mono ?_
  rintro e w2 ⟨rfl, hb1⟩
  replace x0 := cell_kept hb1 x0 hl_x
  replace x1 := cell_kept hb1 x1 hl_x
  replace x2 := cell_kept hb1 x2 hl_x
  replace x3 := cell_kept hb1 x3 hl_x
  replace x4 := cell_kept hb1 x4 hl_x
  replace x5 := cell_kept hb1 x5 hl_x
  replace y0 := cell_kept hb1 y0 hl_y
  replace y1 := cell_kept hb1 y1 hl_y
  replace y2 := cell_kept hb1 y2 hl_y
  replace y3 := cell_kept hb1 y3 hl_y
  replace y4 := cell_kept hb1 y4 hl_y
  replace y5 := cell_kept hb1 y5 hl_y
  replace Hb := Lib.hid (Hb.out.trans (hb1.mono hwl))
  replace hl_x := Nat.lt_of_lt_of_le hl_x hb1.size
  replace hl_y := Nat.lt_of_lt_of_le hl_y hb1.size
  replace hwl := Nat.le_trans hwl hb1.size
  clear hb1
  go_wp2_with fail
  refine (allS a2 k2 s.schemas 29 #[s.val ⟨a0, k0, a1, k1, a2, k2, a3, k3, a4, k4, a5, k5⟩] #[] (schB s) _ ((Hs.out.below Hb.out).h2) (pred29 s _ _ hf) (by omega) e29 true h2).mono ?_
  rintro e w3 ⟨rfl, hb1⟩
  replace x0 := cell_kept hb1 x0 hl_x
  replace x1 := cell_kept hb1 x1 hl_x
  replace x2 := cell_kept hb1 x2 hl_x
  replace x3 := cell_kept hb1 x3 hl_x
  replace x4 := cell_kept hb1 x4 hl_x
  replace x5 := cell_kept hb1 x5 hl_x
  replace y0 := cell_kept hb1 y0 hl_y
  replace y1 := cell_kept hb1 y1 hl_y
  replace y2 := cell_kept hb1 y2 hl_y
  replace y3 := cell_kept hb1 y3 hl_y
  replace y4 := cell_kept hb1 y4 hl_y
  replace y5 := cell_kept hb1 y5 hl_y
  replace Hb := Lib.hid (Hb.out.trans (hb1.mono hwl))
  replace hl_x := Nat.lt_of_lt_of_le hl_x hb1.size
  replace hl_y := Nat.lt_of_lt_of_le hl_y hb1.size
  replace hwl := Nat.le_trans hwl hb1.size
  clear hb1
  go_wp2_with fail
  refine (allR a3 k3 s.rules 24 #[] #[.pointer (some ⟨w.heap.size + 1, 0, none⟩)] (ruleB s) _ ((Hs.out.below Hb.out).h3) (pred24 s (w.heap.size + 1) a0 a1 a2 a3 a4 a5 k0 k1 k2 k3 k4 k5 _ _ (Hs.out.below Hb.out) hl_y (by intro i v hi; match i, hi with | 0, hi => cases hi; exact y0 | 1, hi => cases hi; exact y1 | 2, hi => cases hi; exact y2 | 3, hi => cases hi; exact y3 | 4, hi => cases hi; exact y4 | 5, hi => cases hi; exact y5 | n + 6, hi => simp at hi) hf.short hgd hf.fields) (by omega) e24 true h3).mono ?_
  rintro e w4 ⟨rfl, hb1⟩
  replace x0 := cell_kept hb1 x0 hl_x
  replace x1 := cell_kept hb1 x1 hl_x
  replace x2 := cell_kept hb1 x2 hl_x
  replace x3 := cell_kept hb1 x3 hl_x
  replace x4 := cell_kept hb1 x4 hl_x
  replace x5 := cell_kept hb1 x5 hl_x
  replace y0 := cell_kept hb1 y0 hl_y
  replace y1 := cell_kept hb1 y1 hl_y
  replace y2 := cell_kept hb1 y2 hl_y
  replace y3 := cell_kept hb1 y3 hl_y
  replace y4 := cell_kept hb1 y4 hl_y
  replace y5 := cell_kept hb1 y5 hl_y
  replace Hb := Lib.hid (Hb.out.trans (hb1.mono hwl))
  replace hl_x := Nat.lt_of_lt_of_le hl_x hb1.size
  replace hl_y := Nat.lt_of_lt_of_le hl_y hb1.size
  replace hwl := Nat.le_trans hwl hb1.size
  clear hb1
  go_wp2_with fail
  refine (allP a5 k5 s.purposes 32 #[s.val ⟨a0, k0, a1, k1, a2, k2, a3, k3, a4, k4, a5, k5⟩] #[] (purpB s) _ ((Hs.out.below Hb.out).h5) (pred32 s _ _ (Hs.out.below Hb.out) hmay) (by omega) e32 true h4).mono ?_
  rintro e w5 ⟨rfl, hb1⟩
  replace x0 := cell_kept hb1 x0 hl_x
  replace x1 := cell_kept hb1 x1 hl_x
  replace x2 := cell_kept hb1 x2 hl_x
  replace x3 := cell_kept hb1 x3 hl_x
  replace x4 := cell_kept hb1 x4 hl_x
  replace x5 := cell_kept hb1 x5 hl_x
  replace y0 := cell_kept hb1 y0 hl_y
  replace y1 := cell_kept hb1 y1 hl_y
  replace y2 := cell_kept hb1 y2 hl_y
  replace y3 := cell_kept hb1 y3 hl_y
  replace y4 := cell_kept hb1 y4 hl_y
  replace y5 := cell_kept hb1 y5 hl_y
  replace Hb := Lib.hid (Hb.out.trans (hb1.mono hwl))
  replace hl_x := Nat.lt_of_lt_of_le hl_x hb1.size
  replace hl_y := Nat.lt_of_lt_of_le hl_y hb1.size
  replace hwl := Nat.le_trans hwl hb1.size
  clear hb1
  go_wp2
  go_ret
  exact ⟨ret_i (by simp [checkB, hlim, h1, h2, h3, h4]), Hb.out⟩

set_option maxRecDepth 20000 in
set_option maxHeartbeats 4000000 in
theorem check_any (s : SourceD) (p : SrcAt) (w : World) (hs : Src w s p) (hf : Few s) :
    Calls Try.prog 11 #[s.val p] w fun e w' => e = .returned (.int .i64 (checkB s)) ∧ Below w.heap.size w w' := by
  cases hlim : limB s with
  | false =>
    obtain ⟨a0, k0, a1, k1, a2, k2, a3, k3, a4, k4, a5, k5⟩ := p
    have Hs := Lib.hid hs
    clear hs
    go_enter Try.func11, Try.ntmps11
    go_wp2_with fail
    generalize hw0 : World.alloc _ _ = w0
    obtain ⟨X0, X1, hsz, hb0⟩ := blk2 hw0
    have x0 : w0.cell? ⟨w.heap.size, 0, none⟩ = some (.slice a0 s.issuers.length k0) := X0.cell 0
    have x1 : w0.cell? ⟨w.heap.size, 1, none⟩ = some (.slice a1 s.units.length k1) := X0.cell 1
    have x2 : w0.cell? ⟨w.heap.size, 2, none⟩ = some (.slice a2 s.schemas.length k2) := X0.cell 2
    have x3 : w0.cell? ⟨w.heap.size, 3, none⟩ = some (.slice a3 s.rules.length k3) := X0.cell 3
    have x4 : w0.cell? ⟨w.heap.size, 4, none⟩ = some (.slice a4 s.converts k4) := X0.cell 4
    have x5 : w0.cell? ⟨w.heap.size, 5, none⟩ = some (.slice a5 s.purposes.length k5) := X0.cell 5
    have hl_x : w.heap.size < w0.heap.size := by omega
    have y0 : w0.cell? ⟨w.heap.size + 1, 0, none⟩ = some (.slice a0 s.issuers.length k0) := X1.cell 0
    have y1 : w0.cell? ⟨w.heap.size + 1, 1, none⟩ = some (.slice a1 s.units.length k1) := X1.cell 1
    have y2 : w0.cell? ⟨w.heap.size + 1, 2, none⟩ = some (.slice a2 s.schemas.length k2) := X1.cell 2
    have y3 : w0.cell? ⟨w.heap.size + 1, 3, none⟩ = some (.slice a3 s.rules.length k3) := X1.cell 3
    have y4 : w0.cell? ⟨w.heap.size + 1, 4, none⟩ = some (.slice a4 s.converts k4) := X1.cell 4
    have y5 : w0.cell? ⟨w.heap.size + 1, 5, none⟩ = some (.slice a5 s.purposes.length k5) := X1.cell 5
    have hl_y : w.heap.size + 1 < w0.heap.size := by omega
    have hwl : w.heap.size ≤ w0.heap.size := hb0.size
    have Hb := Lib.hid hb0
    clear hw0 hb0 hsz X0 X1
    refine (limited_any s ⟨a0, k0, a1, k1, a2, k2, a3, k3, a4, k4, a5, k5⟩ _ (Hs.out.below Hb.out)).mono ?_
    rintro e w1 ⟨rfl, hb1⟩
    rw [hlim]
    replace x0 := cell_kept hb1 x0 hl_x
    replace x1 := cell_kept hb1 x1 hl_x
    replace x2 := cell_kept hb1 x2 hl_x
    replace x3 := cell_kept hb1 x3 hl_x
    replace x4 := cell_kept hb1 x4 hl_x
    replace x5 := cell_kept hb1 x5 hl_x
    replace y0 := cell_kept hb1 y0 hl_y
    replace y1 := cell_kept hb1 y1 hl_y
    replace y2 := cell_kept hb1 y2 hl_y
    replace y3 := cell_kept hb1 y3 hl_y
    replace y4 := cell_kept hb1 y4 hl_y
    replace y5 := cell_kept hb1 y5 hl_y
    replace Hb := Lib.hid (Hb.out.trans (hb1.mono hwl))
    replace hl_x := Nat.lt_of_lt_of_le hl_x hb1.size
    replace hl_y := Nat.lt_of_lt_of_le hl_y hb1.size
    replace hwl := Nat.le_trans hwl hb1.size
    clear hb1
    go_wp2
    go_ret
    exact ⟨ret_i (by simp [checkB, hlim]), Hb.out⟩
  | true =>
    cases h1 : s.units.all (unitB s.units) with
    | false => exact check_u s p w hs hf hlim h1
    | true =>
      cases h2 : s.schemas.all (schB s) with
      | false => exact check_s s p w hs hf hlim h1 h2
      | true =>
        have hgd := good_of h2
        cases h3 : s.rules.all (ruleB s) with
        | false => exact check_r s p w hs hf hlim h1 h2 hgd h3
        | true =>
          cases h4 : s.purposes.all (purpB s) with
          | false => exact check_p s p w hs hf hlim h1 h2 hgd h3 h4
          | true => exact check_o s p w hs hf hlim h1 h2 hgd h3 h4
end Go.Proofs.Ytogenjbabgibbaa
