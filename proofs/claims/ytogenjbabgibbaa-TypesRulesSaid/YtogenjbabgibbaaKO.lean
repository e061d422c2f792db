import Derived.Test.YtogenjbabgibbaaKM
namespace Go.Proofs.Ytogenjbabgibbaa
open Go.RowKit
def schIn (s : SourceD) (n : Int) : Bool := decide (0 ≤ n) && decide (n < s.schemas.length)
/-- is variable i of a rule valid -/
def fromB (s : SourceD) (fs : List FromD) (i : Nat) : Bool := match fs[i]? with
  | some f => schIn s f.schema && (decide (f.of_.var = -1) || match termTy? s fs f.of_ i with | some t => decide (t.kind = 3) | none => false)
  | none => true
def fromsB (s : SourceD) (fs : List FromD) : Bool := decide (1 ≤ fs.length) && decide (fs.length ≤ 3) && (List.range fs.length).all (fromB s fs)
theorem range_all {n : Nat} {f : Nat → Bool} (h : ∀ j, j < n → f j = true) : (List.range n).all f = true := by
  rw [List.all_eq_true]; intro x hx; exact h x (List.mem_range.1 hx)
theorem range_not {n k : Nat} {f : Nat → Bool} (hk : k < n) (h : f k = false) : (List.range n).all f = false := by
  rw [List.all_eq_false]; exact ⟨k, List.mem_range.2 hk, by simp [h]⟩
set_option maxRecDepth 20000 in
set_option maxHeartbeats 4000000 in
theorem fromsOK_any (s : SourceD) (p : SrcAt) (r : RuleD) (q : RuleAt) (wb : World) (hs : Src wb s p) (hr : Rul wb r q) (w : World) (hbb : Below wb.heap.size wb w) :
    Calls Try.prog 53 #[rcVal s p r q] w fun e w' => e = .returned (.bool (fromsB s r.froms)) ∧ Below w.heap.size w w' := by
  by_cases hlen : 1 ≤ r.froms.length ∧ r.froms.length ≤ 3
  case neg =>
    have H := Lib.hid hlen
    clear hs hr hbb hlen
    go_enter Try.func53, Try.ntmps53
    go_wp2
    all_goals (try (exfalso; have := H.out; omega))
    all_goals go_ret
    all_goals exact ⟨ret_bool (by have := H.out; simp [fromsB]; intros; omega), by (repeat (first | exact Below.refl _ _ | refine Below.alloc ?_ (by first | (simp; done) | (simp; omega)) _ | refine Below.setCell ?_ (by first | (simp; done) | (simp; omega)) _ | refine below_drewN ?_ _))⟩
  obtain ⟨hl1, hl3⟩ := hlen
  obtain ⟨b, off, e1, -⟩ := FromD.out hr.h2 0 (by omega)
  obtain ⟨f2, l2, f3, l3, f4, l4⟩ := q
  simp only at e1
  subst e1
  have hfb : ∀ k (h : k < r.froms.length), fromB s r.froms k = (schIn s r.froms[k].schema && (decide (r.froms[k].of_.var = -1) || match termTy? s r.froms r.froms[k].of_ k with | some t => decide (t.kind = 3) | none => false)) := fun k h => by
    unfold fromB; rw [List.getElem?_eq_getElem h]
  have Hfb := Lib.hid hfb
  have Hs := Lib.hid hs
  have Hr := Lib.hid hr
  have Hbb := Lib.hid hbb
  clear hs hr hbb hfb
  go_enter Try.func53, Try.ntmps53
  go_wp2_with fail
  all_goals (try (exfalso; omega))
  generalize hw0 : World.alloc _ _ = w0
  obtain ⟨X0, hsz, hb0⟩ := blk1 hw0
  have x0 : w0.cell? ⟨w.heap.size, 0, none⟩ = some (.slice p.a0 s.issuers.length p.k0) := X0.cell 0
  have x1 : w0.cell? ⟨w.heap.size, 1, none⟩ = some (.slice p.a1 s.units.length p.k1) := X0.cell 1
  have x2 : w0.cell? ⟨w.heap.size, 2, none⟩ = some (.slice p.a2 s.schemas.length p.k2) := X0.cell 2
  have x3 : w0.cell? ⟨w.heap.size, 3, none⟩ = some (.slice p.a3 s.rules.length p.k3) := X0.cell 3
  have x4 : w0.cell? ⟨w.heap.size, 4, none⟩ = some (.slice p.a4 s.converts p.k4) := X0.cell 4
  have x5 : w0.cell? ⟨w.heap.size, 5, none⟩ = some (.slice p.a5 s.purposes.length p.k5) := X0.cell 5
  have x6 : w0.cell? ⟨w.heap.size, 6, none⟩ = some (.string r.head) := X0.cell 6
  have x7 : w0.cell? ⟨w.heap.size, 7, none⟩ = some (.int .i64 r.schema) := X0.cell 7
  have x8 : w0.cell? ⟨w.heap.size, 8, none⟩ = some (.slice (some ⟨b, off, none⟩) r.froms.length l2) := X0.cell 8
  have x9 : w0.cell? ⟨w.heap.size, 9, none⟩ = some (.slice f3 r.where_.length l3) := X0.cell 9
  have x10 : w0.cell? ⟨w.heap.size, 10, none⟩ = some (.slice f4 r.sets.length l4) := X0.cell 10
  have hl_x : w.heap.size < w0.heap.size := by omega
  have hwl : w.heap.size ≤ w0.heap.size := hb0.size
  have Hb := Lib.hid hb0
  clear hw0 hb0 hsz X0
  go_loopw [23] (fun i wr => ∃ k : Nat, k ≤ r.froms.length ∧ i = .int .i64 k ∧ Hid (∀ j, j < k → fromB s r.froms j = true) ∧ Below w0.heap.size w0 wr) (fun i _ => r.froms.length - (intOf i).toNat)
  case atStart => exact ⟨0, Nat.zero_le _, rfl, Lib.hid (fun j hj => absurd hj (Nat.not_lt_zero j)), Below.refl _ _⟩
  case round =>
    obtain ⟨k, hk, rfl, Hn, hb1⟩ := hrel
    have Hb1 := Lib.hid hb1
    have hwl1 := hb1.size
    replace x0 := cell_kept hb1 x0 hl_x
    replace x1 := cell_kept hb1 x1 hl_x
    replace x2 := cell_kept hb1 x2 hl_x
    replace x3 := cell_kept hb1 x3 hl_x
    replace x4 := cell_kept hb1 x4 hl_x
    replace x5 := cell_kept hb1 x5 hl_x
    replace x6 := cell_kept hb1 x6 hl_x
    replace x7 := cell_kept hb1 x7 hl_x
    replace x8 := cell_kept hb1 x8 hl_x
    replace x9 := cell_kept hb1 x9 hl_x
    replace x10 := cell_kept hb1 x10 hl_x
    replace Hb := Lib.hid (Hb.out.trans (hb1.mono hwl))
    replace hl_x := Nat.lt_of_lt_of_le hl_x hb1.size
    replace hwl := Nat.le_trans hwl hb1.size
    clear hb1
    by_cases hlt : k < r.froms.length
    case neg =>
      go_wp2
      go_ret
      exact ⟨ret_bool (by simp only [fromsB, range_all (n := r.froms.length) (f := fromB s r.froms) (fun j hj => Hn.out j (by omega))]; simp [hl1, hl3]), Hb.out⟩
    have hlt' : (k : Int) < (r.froms.length : Int) := by omega
    obtain ⟨b', off', e1, hl_c, _, c0, c1, c2, c3, c4, c5, c6, c7⟩ := FromD.out ((Hr.out.below Hbb.out).h2.below RFromD.stab Hb.out) k hlt
    simp only [Option.some.injEq, Addr.mk.injEq, and_true] at e1
    obtain ⟨rfl, rfl⟩ := e1
    have Hv := Lib.hid (Hfb.out k hlt)
    generalize r.froms[k] = f at *
    by_cases hsc : 0 ≤ f.schema ∧ f.schema < s.schemas.length
    case neg =>
      have Hsc := Lib.hid hsc
      clear hsc
      go_wp2_with fail
      all_goals (try (exfalso; have := Hsc.out; omega))
      all_goals go_ret
      all_goals (refine ⟨ret_bool ?_, Hb.out.alloc hwl _⟩)
      all_goals (have hno : fromB s r.froms k = false := by rw [Hv.out]; have := Hsc.out; simp [schIn]; intros; omega)
      all_goals (simp [fromsB, range_not hlt hno])
    have hsi : schIn s f.schema = true := by simp [schIn, hsc]
    obtain ⟨hsc0, hsc1⟩ := hsc
    have Hsi := Lib.hid hsi
    clear hsi
    by_cases hm : f.of_.var = -1
    case pos =>
      have Hm := Lib.hid hm
      clear hm
      go_wp2_with fail
      all_goals (try (exfalso; have := Hm.out; simp at *; omega))
      all_goals go_roundw
      case rel => exact ⟨k + 1, by omega, by go_num, Lib.hid (fun j hj => by
        by_cases e : j = k
        · subst e; rw [Hv.out, Hsi.out, Hm.out]; simp
        · exact Hn.out j (by omega)), Hb1.out.alloc hwl1 _⟩
      case measure => simp [intOf]; omega
    have dm : (f.of_.var == -1) = false := by simpa using hm
    have Hm := Lib.hid hm
    clear hm
    go_wp2_with fail
    generalize hw0 : World.alloc _ _ = w2
    obtain ⟨X0, hsz, hb1⟩ := blk1 hw0
    have y0 : w2.cell? ⟨wr.heap.size, 0, none⟩ = some (.string f.name) := X0.cell 0
    have y1 : w2.cell? ⟨wr.heap.size, 1, none⟩ = some (.string f.kind) := X0.cell 1
    have y2 : w2.cell? ⟨wr.heap.size, 2, none⟩ = some (.int .i64 f.schema) := X0.cell 2
    have y3 : w2.cell? ⟨wr.heap.size, 3, none⟩ = some (.string f.of_.name) := X0.cell 3
    have y4 : w2.cell? ⟨wr.heap.size, 4, none⟩ = some (.string f.of_.path) := X0.cell 4
    have y5 : w2.cell? ⟨wr.heap.size, 5, none⟩ = some (.int .i64 f.of_.var) := X0.cell 5
    have y6 : w2.cell? ⟨wr.heap.size, 6, none⟩ = some (.int .i64 f.of_.field) := X0.cell 6
    have y7 : w2.cell? ⟨wr.heap.size, 7, none⟩ = some (.int .i64 f.of_.n) := X0.cell 7
    have hl_y : wr.heap.size < w2.heap.size := by omega
    replace x0 := cell_kept hb1 x0 hl_x
    replace x1 := cell_kept hb1 x1 hl_x
    replace x2 := cell_kept hb1 x2 hl_x
    replace x3 := cell_kept hb1 x3 hl_x
    replace x4 := cell_kept hb1 x4 hl_x
    replace x5 := cell_kept hb1 x5 hl_x
    replace x6 := cell_kept hb1 x6 hl_x
    replace x7 := cell_kept hb1 x7 hl_x
    replace x8 := cell_kept hb1 x8 hl_x
    replace x9 := cell_kept hb1 x9 hl_x
    replace x10 := cell_kept hb1 x10 hl_x
    replace c0 := cell_kept hb1 c0 hl_c
    replace c1 := cell_kept hb1 c1 hl_c
    replace c2 := cell_kept hb1 c2 hl_c
    replace c3 := cell_kept hb1 c3 hl_c
    replace c4 := cell_kept hb1 c4 hl_c
    replace c5 := cell_kept hb1 c5 hl_c
    replace c6 := cell_kept hb1 c6 hl_c
    replace c7 := cell_kept hb1 c7 hl_c
    replace Hb := Lib.hid (Hb.out.trans (hb1.mono hwl))
    replace Hb1 := Lib.hid (Hb1.out.trans (hb1.mono hwl1))
    replace hl_x := Nat.lt_of_lt_of_le hl_x hb1.size
    replace hl_c := Nat.lt_of_lt_of_le hl_c hb1.size
    replace hwl := Nat.le_trans hwl hb1.size
    replace hwl1 := Nat.le_trans hwl1 hb1.size
    clear hb1
    clear hw0 hsz X0
    refine (termType_any s p r ⟨some ⟨b, off, none⟩, l2, f3, l3, f4, l4⟩ f.of_ k wb Hs.out Hr.out _ (Hbb.out.trans (Hb.out.mono Hbb.out.size)) (by omega)).mono ?_
    cases htt : termTy? s r.froms f.of_ k with
    | none =>
      rintro e w3 ⟨⟨ty, an, kn, rfl⟩, hb1⟩
      replace x0 := cell_kept hb1 x0 hl_x
      replace x1 := cell_kept hb1 x1 hl_x
      replace x2 := cell_kept hb1 x2 hl_x
      replace x3 := cell_kept hb1 x3 hl_x
      replace x4 := cell_kept hb1 x4 hl_x
      replace x5 := cell_kept hb1 x5 hl_x
      replace x6 := cell_kept hb1 x6 hl_x
      replace x7 := cell_kept hb1 x7 hl_x
      replace x8 := cell_kept hb1 x8 hl_x
      replace x9 := cell_kept hb1 x9 hl_x
      replace x10 := cell_kept hb1 x10 hl_x
      replace c0 := cell_kept hb1 c0 hl_c
      replace c1 := cell_kept hb1 c1 hl_c
      replace c2 := cell_kept hb1 c2 hl_c
      replace c3 := cell_kept hb1 c3 hl_c
      replace c4 := cell_kept hb1 c4 hl_c
      replace c5 := cell_kept hb1 c5 hl_c
      replace c6 := cell_kept hb1 c6 hl_c
      replace c7 := cell_kept hb1 c7 hl_c
      replace Hb := Lib.hid (Hb.out.trans (hb1.mono hwl))
      replace Hb1 := Lib.hid (Hb1.out.trans (hb1.mono hwl1))
      replace hl_x := Nat.lt_of_lt_of_le hl_x hb1.size
      replace hl_c := Nat.lt_of_lt_of_le hl_c hb1.size
      replace hwl := Nat.le_trans hwl hb1.size
      replace hwl1 := Nat.le_trans hwl1 hb1.size
      clear hb1
      go_wp2_with fail
      go_ret
      refine ⟨ret_bool ?_, Hb.out.alloc hwl _⟩
      have hno : fromB s r.froms k = false := by rw [Hv.out, htt]; simp [Hm.out]
      simp [fromsB, range_not hlt hno]
    | some ty =>
      rintro e w3 ⟨⟨an, kn, rfl, hn⟩, hb1⟩
      replace x0 := cell_kept hb1 x0 hl_x
      replace x1 := cell_kept hb1 x1 hl_x
      replace x2 := cell_kept hb1 x2 hl_x
      replace x3 := cell_kept hb1 x3 hl_x
      replace x4 := cell_kept hb1 x4 hl_x
      replace x5 := cell_kept hb1 x5 hl_x
      replace x6 := cell_kept hb1 x6 hl_x
      replace x7 := cell_kept hb1 x7 hl_x
      replace x8 := cell_kept hb1 x8 hl_x
      replace x9 := cell_kept hb1 x9 hl_x
      replace x10 := cell_kept hb1 x10 hl_x
      replace c0 := cell_kept hb1 c0 hl_c
      replace c1 := cell_kept hb1 c1 hl_c
      replace c2 := cell_kept hb1 c2 hl_c
      replace c3 := cell_kept hb1 c3 hl_c
      replace c4 := cell_kept hb1 c4 hl_c
      replace c5 := cell_kept hb1 c5 hl_c
      replace c6 := cell_kept hb1 c6 hl_c
      replace c7 := cell_kept hb1 c7 hl_c
      replace Hb := Lib.hid (Hb.out.trans (hb1.mono hwl))
      replace Hb1 := Lib.hid (Hb1.out.trans (hb1.mono hwl1))
      replace hl_x := Nat.lt_of_lt_of_le hl_x hb1.size
      replace hl_c := Nat.lt_of_lt_of_le hl_c hb1.size
      replace hwl := Nat.le_trans hwl hb1.size
      replace hwl1 := Nat.le_trans hwl1 hb1.size
      clear hb1
      clear hn
      by_cases h3 : ty.kind = 3
      · have Hk := Lib.hid h3
        go_wp2_with fail
        all_goals (try (exfalso; simp at *; omega))
        go_roundw
        case rel => exact ⟨k + 1, by omega, by go_num, Lib.hid (fun j hj => by
          by_cases e : j = k
          · subst e; rw [Hv.out, htt, Hsi.out]; simp [Hk.out]
          · exact Hn.out j (by omega)), Hb1.out.alloc hwl1 _⟩
        case measure => simp [intOf]; omega
      · go_wp2_with fail
        all_goals (try (exfalso; simp at *; omega))
        go_ret
        refine ⟨ret_bool ?_, Hb.out.alloc hwl _⟩
        have hno : fromB s r.froms k = false := by rw [Hv.out, htt]; simp [Hm.out, h3]
        simp [fromsB, range_not hlt hno]
end Go.Proofs.Ytogenjbabgibbaa
