/- TypesOrder: for every source, ref and two numbers the law returns true and leaves its arguments as they were. No condition. -/
import Derived.Test.YtogenjbabgibbaaKL3
namespace Go.Proofs.Ytogenjbabgibbaa
open Go.ChangeShapes Go.WideShapes Go.ChangeAt Go.RowKit
namespace typesOrder
theorem compare_q (op a b : Int) (w : World) (r : Bool) (hr : compareB op a b = r) :
    Calls Try.prog 19 #[.int .i64 op, .int .i64 a, .int .i64 b] w fun e w' => e = .returned (.bool r) ∧ Below w.heap.size w w' := by
  subst hr
  exact compare_any op a b w
theorem base_law {s : SourceD} {r : RefD} {a b x y : Int} (ha : baseV s r a = (x, 0)) (hb : baseV s r b = (y, 0)) : (a < b ↔ x < y) ∧ (a = b ↔ x = y) ∧ 0 ≤ x := by
  unfold baseV at ha hb
  cases hu : usable? s r with
  | none => rw [hu] at ha; cases ha
  | some t =>
    rw [hu] at ha hb
    simp only at ha hb
    split at ha
    · next h1 =>
      split at hb
      · next h2 =>
        by_cases h0 : 0 ≤ t.unit
        · rw [if_pos h0] at ha hb
          obtain ⟨hlt, _, hub⟩ := goodT_unit (usable_facts hu).2 h0
          have hsc := (unitB_scale hub).1
          have e : scaleOf s.units t.unit = s.units[t.unit.toNat].scale := by unfold scaleOf; rw [List.getElem?_eq_getElem hlt]
          rw [e] at ha hb
          generalize s.units[t.unit.toNat].scale = k at *
          simp only [Prod.mk.injEq, and_true] at ha hb
          subst ha hb
          have hk : 0 < k := by omega
          refine ⟨(Int.mul_lt_mul_right hk).symm, ?_, Int.mul_nonneg h1.1 (by omega)⟩
          constructor
          · intro h; rw [h]
          · intro h; exact Int.eq_of_mul_eq_mul_right (by omega) h
        · rw [if_neg h0] at ha hb
          simp only [Prod.mk.injEq, and_true] at ha hb
          subst ha hb
          exact ⟨Iff.rfl, Iff.rfl, h1.1⟩
      · cases hb
    · cases ha
set_option maxRecDepth 20000 in
set_option maxHeartbeats 4000000 in
theorem walk_few (s : SourceD) (p : SrcAt) (ra : RefD) (a b : Int) (w : World) (hs : Src w s p) (hn : Lens s) (hfew : fewB s = false) :
    Calls Try.prog 7 #[s.val p, ra.val, .int .i64 a, .int .i64 b] w fun e w' => e = .returned (.bool true) ∧ Below w.heap.size w w' := by
  obtain ⟨a0, k0, a1, k1, a2, k2, a3, k3, a4, k4, a5, k5⟩ := p
  have Hs := Lib.hid hs
  clear hs
  go_enter Try.func7, Try.ntmps7
  go_wp2_with fail
  generalize hw0 : World.alloc _ _ = w0
  obtain ⟨X0, X1, hsz, hb0⟩ := blk2 hw0
  have x0 : w0.cell? ⟨w.heap.size, 0, none⟩ = some (.slice a0 s.issuers.length k0) := X0.cell 0
  have x1 : w0.cell? ⟨w.heap.size, 1, none⟩ = some (.slice a1 s.units.length k1) := X0.cell 1
  have x2 : w0.cell? ⟨w.heap.size, 2, none⟩ = some (.slice a2 s.schemas.length k2) := X0.cell 2
  have x3 : w0.cell? ⟨w.heap.size, 3, none⟩ = some (.slice a3 s.rules.length k3) := X0.cell 3
  have x4 : w0.cell? ⟨w.heap.size, 4, none⟩ = some (.slice a4 s.converts k4) := X0.cell 4
  have x5 : w0.cell? ⟨w.heap.size, 5, none⟩ = some (.slice a5 s.purposes.length k5) := X0.cell 5
  have hl_x : w.heap.size < w0.heap.size := by omega
  have p0 : w0.cell? ⟨w.heap.size + 1, 0, none⟩ = some (.string ra.name) := X1.cell 0
  have p1 : w0.cell? ⟨w.heap.size + 1, 1, none⟩ = some (.string ra.path) := X1.cell 1
  have p2 : w0.cell? ⟨w.heap.size + 1, 2, none⟩ = some (.int .i64 ra.schema) := X1.cell 2
  have p3 : w0.cell? ⟨w.heap.size + 1, 3, none⟩ = some (.int .i64 ra.field) := X1.cell 3
  have hl_p : w.heap.size + 1 < w0.heap.size := by omega
  have hwl : w.heap.size ≤ w0.heap.size := hb0.size
  have Hb := Lib.hid hb0
  clear hw0 hb0 hsz X0 X1
  refine (sane_any _).mono ?_
  rintro e w1 ⟨rfl, hb1⟩
  replace x0 := cell_kept hb1 x0 hl_x
  replace x1 := cell_kept hb1 x1 hl_x
  replace x2 := cell_kept hb1 x2 hl_x
  replace x3 := cell_kept hb1 x3 hl_x
  replace x4 := cell_kept hb1 x4 hl_x
  replace x5 := cell_kept hb1 x5 hl_x
  replace p0 := cell_kept hb1 p0 hl_p
  replace p1 := cell_kept hb1 p1 hl_p
  replace p2 := cell_kept hb1 p2 hl_p
  replace p3 := cell_kept hb1 p3 hl_p
  replace Hb := Lib.hid (Hb.out.trans (hb1.mono hwl))
  replace hl_x := Nat.lt_of_lt_of_le hl_x hb1.size
  replace hl_p := Nat.lt_of_lt_of_le hl_p hb1.size
  replace hwl := Nat.le_trans hwl hb1.size
  clear hb1
  go_wp2_with fail
  refine (few_q s ⟨a0, k0, a1, k1, a2, k2, a3, k3, a4, k4, a5, k5⟩ _ (Hs.out.below Hb.out) hn false hfew).mono ?_
  rintro e w2 ⟨rfl, hb1⟩
  replace x0 := cell_kept hb1 x0 hl_x
  replace x1 := cell_kept hb1 x1 hl_x
  replace x2 := cell_kept hb1 x2 hl_x
  replace x3 := cell_kept hb1 x3 hl_x
  replace x4 := cell_kept hb1 x4 hl_x
  replace x5 := cell_kept hb1 x5 hl_x
  replace p0 := cell_kept hb1 p0 hl_p
  replace p1 := cell_kept hb1 p1 hl_p
  replace p2 := cell_kept hb1 p2 hl_p
  replace p3 := cell_kept hb1 p3 hl_p
  replace Hb := Lib.hid (Hb.out.trans (hb1.mono hwl))
  replace hl_x := Nat.lt_of_lt_of_le hl_x hb1.size
  replace hl_p := Nat.lt_of_lt_of_le hl_p hb1.size
  replace hwl := Nat.le_trans hwl hb1.size
  clear hb1
  go_wp2
  go_ret
  exact ⟨rfl, Hb.out⟩

set_option maxRecDepth 20000 in
set_option maxHeartbeats 4000000 in
theorem walk_L (s : SourceD) (p : SrcAt) (ra : RefD) (a b : Int) (w : World) (hs : Src w s p) (hn : Lens s) (hfew : fewB s = true) (ho : a < b) (x y e1 e2 : Int) (hx : baseV s ra a = (x, e1)) (hy : baseV s ra b = (y, e2)) :
    Calls Try.prog 7 #[s.val p, ra.val, .int .i64 a, .int .i64 b] w fun e w' => e = .returned (.bool true) ∧ Below w.heap.size w w' := by
  have hsh := (few_of hfew).short
  have Ho := Lib.hid ho
  have Hx := Lib.hid hx
  have Hy := Lib.hid hy
  clear ho hx hy
  obtain ⟨a0, k0, a1, k1, a2, k2, a3, k3, a4, k4, a5, k5⟩ := p
  have Hs := Lib.hid hs
  clear hs
  go_enter Try.func7, Try.ntmps7
  go_wp2_with fail
  generalize hw0 : World.alloc _ _ = w0
  obtain ⟨X0, X1, hsz, hb0⟩ := blk2 hw0
  have x0 : w0.cell? ⟨w.heap.size, 0, none⟩ = some (.slice a0 s.issuers.length k0) := X0.cell 0
  have x1 : w0.cell? ⟨w.heap.size, 1, none⟩ = some (.slice a1 s.units.length k1) := X0.cell 1
  have x2 : w0.cell? ⟨w.heap.size, 2, none⟩ = some (.slice a2 s.schemas.length k2) := X0.cell 2
  have x3 : w0.cell? ⟨w.heap.size, 3, none⟩ = some (.slice a3 s.rules.length k3) := X0.cell 3
  have x4 : w0.cell? ⟨w.heap.size, 4, none⟩ = some (.slice a4 s.converts k4) := X0.cell 4
  have x5 : w0.cell? ⟨w.heap.size, 5, none⟩ = some (.slice a5 s.purposes.length k5) := X0.cell 5
  have hl_x : w.heap.size < w0.heap.size := by omega
  have p0 : w0.cell? ⟨w.heap.size + 1, 0, none⟩ = some (.string ra.name) := X1.cell 0
  have p1 : w0.cell? ⟨w.heap.size + 1, 1, none⟩ = some (.string ra.path) := X1.cell 1
  have p2 : w0.cell? ⟨w.heap.size + 1, 2, none⟩ = some (.int .i64 ra.schema) := X1.cell 2
  have p3 : w0.cell? ⟨w.heap.size + 1, 3, none⟩ = some (.int .i64 ra.field) := X1.cell 3
  have hl_p : w.heap.size + 1 < w0.heap.size := by omega
  have hwl : w.heap.size ≤ w0.heap.size := hb0.size
  have Hb := Lib.hid hb0
  clear hw0 hb0 hsz X0 X1
  refine (sane_any _).mono ?_
  rintro e w1 ⟨rfl, hb1⟩
  replace x0 := cell_kept hb1 x0 hl_x
  replace x1 := cell_kept hb1 x1 hl_x
  replace x2 := cell_kept hb1 x2 hl_x
  replace x3 := cell_kept hb1 x3 hl_x
  replace x4 := cell_kept hb1 x4 hl_x
  replace x5 := cell_kept hb1 x5 hl_x
  replace p0 := cell_kept hb1 p0 hl_p
  replace p1 := cell_kept hb1 p1 hl_p
  replace p2 := cell_kept hb1 p2 hl_p
  replace p3 := cell_kept hb1 p3 hl_p
  replace Hb := Lib.hid (Hb.out.trans (hb1.mono hwl))
  replace hl_x := Nat.lt_of_lt_of_le hl_x hb1.size
  replace hl_p := Nat.lt_of_lt_of_le hl_p hb1.size
  replace hwl := Nat.le_trans hwl hb1.size
  clear hb1
  go_wp2_with fail
  refine (few_q s ⟨a0, k0, a1, k1, a2, k2, a3, k3, a4, k4, a5, k5⟩ _ (Hs.out.below Hb.out) hn true hfew).mono ?_
  rintro e w2 ⟨rfl, hb1⟩
  replace x0 := cell_kept hb1 x0 hl_x
  replace x1 := cell_kept hb1 x1 hl_x
  replace x2 := cell_kept hb1 x2 hl_x
  replace x3 := cell_kept hb1 x3 hl_x
  replace x4 := cell_kept hb1 x4 hl_x
  replace x5 := cell_kept hb1 x5 hl_x
  replace p0 := cell_kept hb1 p0 hl_p
  replace p1 := cell_kept hb1 p1 hl_p
  replace p2 := cell_kept hb1 p2 hl_p
  replace p3 := cell_kept hb1 p3 hl_p
  replace Hb := Lib.hid (Hb.out.trans (hb1.mono hwl))
  replace hl_x := Nat.lt_of_lt_of_le hl_x hb1.size
  replace hl_p := Nat.lt_of_lt_of_le hl_p hb1.size
  replace hwl := Nat.le_trans hwl hb1.size
  clear hb1
  go_wp2_with fail
  refine (compare_q 2 a b _ true (by have := Ho.out; simp [compareB]; try omega)).mono ?_
  rintro e w3 ⟨rfl, hb1⟩
  replace x0 := cell_kept hb1 x0 hl_x
  replace x1 := cell_kept hb1 x1 hl_x
  replace x2 := cell_kept hb1 x2 hl_x
  replace x3 := cell_kept hb1 x3 hl_x
  replace x4 := cell_kept hb1 x4 hl_x
  replace x5 := cell_kept hb1 x5 hl_x
  replace p0 := cell_kept hb1 p0 hl_p
  replace p1 := cell_kept hb1 p1 hl_p
  replace p2 := cell_kept hb1 p2 hl_p
  replace p3 := cell_kept hb1 p3 hl_p
  replace Hb := Lib.hid (Hb.out.trans (hb1.mono hwl))
  replace hl_x := Nat.lt_of_lt_of_le hl_x hb1.size
  replace hl_p := Nat.lt_of_lt_of_le hl_p hb1.size
  replace hwl := Nat.le_trans hwl hb1.size
  clear hb1
  go_wp2_with fail
  refine (compare_q 1 a b _ false (by have := Ho.out; simp [compareB]; try omega)).mono ?_
  rintro e w4 ⟨rfl, hb1⟩
  replace x0 := cell_kept hb1 x0 hl_x
  replace x1 := cell_kept hb1 x1 hl_x
  replace x2 := cell_kept hb1 x2 hl_x
  replace x3 := cell_kept hb1 x3 hl_x
  replace x4 := cell_kept hb1 x4 hl_x
  replace x5 := cell_kept hb1 x5 hl_x
  replace p0 := cell_kept hb1 p0 hl_p
  replace p1 := cell_kept hb1 p1 hl_p
  replace p2 := cell_kept hb1 p2 hl_p
  replace p3 := cell_kept hb1 p3 hl_p
  replace Hb := Lib.hid (Hb.out.trans (hb1.mono hwl))
  replace hl_x := Nat.lt_of_lt_of_le hl_x hb1.size
  replace hl_p := Nat.lt_of_lt_of_le hl_p hb1.size
  replace hwl := Nat.le_trans hwl hb1.size
  clear hb1
  go_wp2_with fail
  refine (compare_q 2 b a _ false (by have := Ho.out; simp [compareB]; try omega)).mono ?_
  rintro e w5 ⟨rfl, hb1⟩
  replace x0 := cell_kept hb1 x0 hl_x
  replace x1 := cell_kept hb1 x1 hl_x
  replace x2 := cell_kept hb1 x2 hl_x
  replace x3 := cell_kept hb1 x3 hl_x
  replace x4 := cell_kept hb1 x4 hl_x
  replace x5 := cell_kept hb1 x5 hl_x
  replace p0 := cell_kept hb1 p0 hl_p
  replace p1 := cell_kept hb1 p1 hl_p
  replace p2 := cell_kept hb1 p2 hl_p
  replace p3 := cell_kept hb1 p3 hl_p
  replace Hb := Lib.hid (Hb.out.trans (hb1.mono hwl))
  replace hl_x := Nat.lt_of_lt_of_le hl_x hb1.size
  replace hl_p := Nat.lt_of_lt_of_le hl_p hb1.size
  replace hwl := Nat.le_trans hwl hb1.size
  clear hb1
  go_wp2_with fail
  generalize hw0 : World.alloc _ _ = w6
  obtain ⟨X0, hsz, hb1⟩ := blk1 hw0
  have v0 : w6.cell? ⟨w5.heap.size, 0, none⟩ = some (.bool true) := X0.cell 0
  have v1 : w6.cell? ⟨w5.heap.size, 1, none⟩ = some (.bool false) := X0.cell 1
  have v2 : w6.cell? ⟨w5.heap.size, 2, none⟩ = some (.bool false) := X0.cell 2
  have hl_v : w5.heap.size < w6.heap.size := by omega
  replace x0 := cell_kept hb1 x0 hl_x
  replace x1 := cell_kept hb1 x1 hl_x
  replace x2 := cell_kept hb1 x2 hl_x
  replace x3 := cell_kept hb1 x3 hl_x
  replace x4 := cell_kept hb1 x4 hl_x
  replace x5 := cell_kept hb1 x5 hl_x
  replace p0 := cell_kept hb1 p0 hl_p
  replace p1 := cell_kept hb1 p1 hl_p
  replace p2 := cell_kept hb1 p2 hl_p
  replace p3 := cell_kept hb1 p3 hl_p
  replace Hb := Lib.hid (Hb.out.trans (hb1.mono hwl))
  replace hl_x := Nat.lt_of_lt_of_le hl_x hb1.size
  replace hl_p := Nat.lt_of_lt_of_le hl_p hb1.size
  replace hwl := Nat.le_trans hwl hb1.size
  clear hb1
  clear hw0 hsz X0
  go_wp2_with fail
  go_loopw [12, 38] (fun n i wr => ((n = .int .i64 0 ∧ i = .int .i64 0) ∨ (n = .int .i64 1 ∧ i = .int .i64 1) ∨ (n = .int .i64 1 ∧ i = .int .i64 2) ∨ (n = .int .i64 1 ∧ i = .int .i64 3)) ∧ Below w6.heap.size w6 wr) (fun _ i _ => 3 - (intOf i).toNat)
  case atStart => exact ⟨Or.inl ⟨rfl, rfl⟩, Below.refl _ _⟩
  case round =>
    obtain ⟨hrel, hb1⟩ := hrel
    have Hb1 := Lib.hid hb1
    have hwl1 := hb1.size
    replace x0 := cell_kept hb1 x0 hl_x
    replace x1 := cell_kept hb1 x1 hl_x
    replace x2 := cell_kept hb1 x2 hl_x
    replace x3 := cell_kept hb1 x3 hl_x
    replace x4 := cell_kept hb1 x4 hl_x
    replace x5 := cell_kept hb1 x5 hl_x
    replace p0 := cell_kept hb1 p0 hl_p
    replace p1 := cell_kept hb1 p1 hl_p
    replace p2 := cell_kept hb1 p2 hl_p
    replace p3 := cell_kept hb1 p3 hl_p
    replace v0 := cell_kept hb1 v0 hl_v
    replace v1 := cell_kept hb1 v1 hl_v
    replace v2 := cell_kept hb1 v2 hl_v
    replace Hb := Lib.hid (Hb.out.trans (hb1.mono hwl))
    replace hl_x := Nat.lt_of_lt_of_le hl_x hb1.size
    replace hl_p := Nat.lt_of_lt_of_le hl_p hb1.size
    replace hl_v := Nat.lt_of_lt_of_le hl_v hb1.size
    replace hwl := Nat.le_trans hwl hb1.size
    clear hb1
    rcases hrel with ⟨rfl, rfl⟩ | ⟨rfl, rfl⟩ | ⟨rfl, rfl⟩ | ⟨rfl, rfl⟩
    · go_wp2_with fail
      go_roundw
      case rel => exact ⟨Or.inr (Or.inl ⟨rfl, rfl⟩), Hb1.out⟩
      case measure => simp [intOf]
    · go_wp2_with fail
      go_roundw
      case rel => exact ⟨Or.inr (Or.inr (Or.inl ⟨rfl, rfl⟩)), Hb1.out⟩
      case measure => simp [intOf]
    · go_wp2_with fail
      go_roundw
      case rel => exact ⟨Or.inr (Or.inr (Or.inr (⟨rfl, rfl⟩))), Hb1.out⟩
      case measure => simp [intOf]
    · go_wp2_with fail
      refine (compare_q 3 a b _ true (by have := Ho.out; simp [compareB]; try omega)).mono ?_
      rintro e w7 ⟨rfl, hb1⟩
      replace x0 := cell_kept hb1 x0 hl_x
      replace x1 := cell_kept hb1 x1 hl_x
      replace x2 := cell_kept hb1 x2 hl_x
      replace x3 := cell_kept hb1 x3 hl_x
      replace x4 := cell_kept hb1 x4 hl_x
      replace x5 := cell_kept hb1 x5 hl_x
      replace p0 := cell_kept hb1 p0 hl_p
      replace p1 := cell_kept hb1 p1 hl_p
      replace p2 := cell_kept hb1 p2 hl_p
      replace p3 := cell_kept hb1 p3 hl_p
      replace v0 := cell_kept hb1 v0 hl_v
      replace v1 := cell_kept hb1 v1 hl_v
      replace v2 := cell_kept hb1 v2 hl_v
      replace Hb := Lib.hid (Hb.out.trans (hb1.mono hwl))
      replace Hb1 := Lib.hid (Hb1.out.trans (hb1.mono hwl1))
      replace hl_x := Nat.lt_of_lt_of_le hl_x hb1.size
      replace hl_p := Nat.lt_of_lt_of_le hl_p hb1.size
      replace hl_v := Nat.lt_of_lt_of_le hl_v hb1.size
      replace hwl := Nat.le_trans hwl hb1.size
      replace hwl1 := Nat.le_trans hwl1 hb1.size
      clear hb1
      go_wp2_with fail
      refine (compare_q 4 a b _ true (by have := Ho.out; simp [compareB]; try omega)).mono ?_
      rintro e w8 ⟨rfl, hb1⟩
      replace x0 := cell_kept hb1 x0 hl_x
      replace x1 := cell_kept hb1 x1 hl_x
      replace x2 := cell_kept hb1 x2 hl_x
      replace x3 := cell_kept hb1 x3 hl_x
      replace x4 := cell_kept hb1 x4 hl_x
      replace x5 := cell_kept hb1 x5 hl_x
      replace p0 := cell_kept hb1 p0 hl_p
      replace p1 := cell_kept hb1 p1 hl_p
      replace p2 := cell_kept hb1 p2 hl_p
      replace p3 := cell_kept hb1 p3 hl_p
      replace v0 := cell_kept hb1 v0 hl_v
      replace v1 := cell_kept hb1 v1 hl_v
      replace v2 := cell_kept hb1 v2 hl_v
      replace Hb := Lib.hid (Hb.out.trans (hb1.mono hwl))
      replace Hb1 := Lib.hid (Hb1.out.trans (hb1.mono hwl1))
      replace hl_x := Nat.lt_of_lt_of_le hl_x hb1.size
      replace hl_p := Nat.lt_of_lt_of_le hl_p hb1.size
      replace hl_v := Nat.lt_of_lt_of_le hl_v hb1.size
      replace hwl := Nat.le_trans hwl hb1.size
      replace hwl1 := Nat.le_trans hwl1 hb1.size
      clear hb1
      go_wp2_with fail
      refine (base_any s ⟨a0, k0, a1, k1, a2, k2, a3, k3, a4, k4, a5, k5⟩ ra a _ (Hs.out.below Hb.out) hsh).mono ?_
      rw [Hx.out]
      rintro e w9 ⟨rfl, hb1⟩
      replace x0 := cell_kept hb1 x0 hl_x
      replace x1 := cell_kept hb1 x1 hl_x
      replace x2 := cell_kept hb1 x2 hl_x
      replace x3 := cell_kept hb1 x3 hl_x
      replace x4 := cell_kept hb1 x4 hl_x
      replace x5 := cell_kept hb1 x5 hl_x
      replace p0 := cell_kept hb1 p0 hl_p
      replace p1 := cell_kept hb1 p1 hl_p
      replace p2 := cell_kept hb1 p2 hl_p
      replace p3 := cell_kept hb1 p3 hl_p
      replace v0 := cell_kept hb1 v0 hl_v
      replace v1 := cell_kept hb1 v1 hl_v
      replace v2 := cell_kept hb1 v2 hl_v
      replace Hb := Lib.hid (Hb.out.trans (hb1.mono hwl))
      replace Hb1 := Lib.hid (Hb1.out.trans (hb1.mono hwl1))
      replace hl_x := Nat.lt_of_lt_of_le hl_x hb1.size
      replace hl_p := Nat.lt_of_lt_of_le hl_p hb1.size
      replace hl_v := Nat.lt_of_lt_of_le hl_v hb1.size
      replace hwl := Nat.le_trans hwl hb1.size
      replace hwl1 := Nat.le_trans hwl1 hb1.size
      clear hb1
      go_wp2_with fail
      refine (base_any s ⟨a0, k0, a1, k1, a2, k2, a3, k3, a4, k4, a5, k5⟩ ra b _ (Hs.out.below Hb.out) hsh).mono ?_
      rw [Hy.out]
      rintro e w10 ⟨rfl, hb1⟩
      replace x0 := cell_kept hb1 x0 hl_x
      replace x1 := cell_kept hb1 x1 hl_x
      replace x2 := cell_kept hb1 x2 hl_x
      replace x3 := cell_kept hb1 x3 hl_x
      replace x4 := cell_kept hb1 x4 hl_x
      replace x5 := cell_kept hb1 x5 hl_x
      replace p0 := cell_kept hb1 p0 hl_p
      replace p1 := cell_kept hb1 p1 hl_p
      replace p2 := cell_kept hb1 p2 hl_p
      replace p3 := cell_kept hb1 p3 hl_p
      replace v0 := cell_kept hb1 v0 hl_v
      replace v1 := cell_kept hb1 v1 hl_v
      replace v2 := cell_kept hb1 v2 hl_v
      replace Hb := Lib.hid (Hb.out.trans (hb1.mono hwl))
      replace Hb1 := Lib.hid (Hb1.out.trans (hb1.mono hwl1))
      replace hl_x := Nat.lt_of_lt_of_le hl_x hb1.size
      replace hl_p := Nat.lt_of_lt_of_le hl_p hb1.size
      replace hl_v := Nat.lt_of_lt_of_le hl_v hb1.size
      replace hwl := Nat.le_trans hwl hb1.size
      replace hwl1 := Nat.le_trans hwl1 hb1.size
      clear hb1
      by_cases he1 : e1 = 0
      case neg =>
        have q1 : (e1 != 0) = true := by simpa using he1
        have He1 := Lib.hid he1
        clear he1
        go_wp2
        go_ret
        exact ⟨rfl, Hb.out⟩
      have q1 : (e1 != 0) = false := by simpa using he1
      by_cases he2 : e2 = 0
      case neg =>
        have q2 : (e2 != 0) = true := by simpa using he2
        have He1 := Lib.hid he1
        have He2 := Lib.hid he2
        clear he2 he1
        go_wp2
        go_ret
        exact ⟨rfl, Hb.out⟩
      have q2 : (e2 != 0) = false := by simpa using he2
      have hbl := base_law (by rw [← he1]; exact Hx.out) (by rw [← he2]; exact Hy.out)
      have Hxy := Lib.hid (show x < y by have := Ho.out; omega)
      have hx0 := hbl.2.2
      clear hbl he1 he2
      go_wp2_with fail
      refine (compare_q 2 x y _ true (by have := Hxy.out; simp [compareB]; try omega)).mono ?_
      rintro e w11 ⟨rfl, hb1⟩
      replace x0 := cell_kept hb1 x0 hl_x
      replace x1 := cell_kept hb1 x1 hl_x
      replace x2 := cell_kept hb1 x2 hl_x
      replace x3 := cell_kept hb1 x3 hl_x
      replace x4 := cell_kept hb1 x4 hl_x
      replace x5 := cell_kept hb1 x5 hl_x
      replace p0 := cell_kept hb1 p0 hl_p
      replace p1 := cell_kept hb1 p1 hl_p
      replace p2 := cell_kept hb1 p2 hl_p
      replace p3 := cell_kept hb1 p3 hl_p
      replace v0 := cell_kept hb1 v0 hl_v
      replace v1 := cell_kept hb1 v1 hl_v
      replace v2 := cell_kept hb1 v2 hl_v
      replace Hb := Lib.hid (Hb.out.trans (hb1.mono hwl))
      replace Hb1 := Lib.hid (Hb1.out.trans (hb1.mono hwl1))
      replace hl_x := Nat.lt_of_lt_of_le hl_x hb1.size
      replace hl_p := Nat.lt_of_lt_of_le hl_p hb1.size
      replace hl_v := Nat.lt_of_lt_of_le hl_v hb1.size
      replace hwl := Nat.le_trans hwl hb1.size
      replace hwl1 := Nat.le_trans hwl1 hb1.size
      clear hb1
      go_wp2_with fail
      refine (compare_q 1 x y _ false (by have := Hxy.out; simp [compareB]; try omega)).mono ?_
      rintro e w12 ⟨rfl, hb1⟩
      replace x0 := cell_kept hb1 x0 hl_x
      replace x1 := cell_kept hb1 x1 hl_x
      replace x2 := cell_kept hb1 x2 hl_x
      replace x3 := cell_kept hb1 x3 hl_x
      replace x4 := cell_kept hb1 x4 hl_x
      replace x5 := cell_kept hb1 x5 hl_x
      replace p0 := cell_kept hb1 p0 hl_p
      replace p1 := cell_kept hb1 p1 hl_p
      replace p2 := cell_kept hb1 p2 hl_p
      replace p3 := cell_kept hb1 p3 hl_p
      replace v0 := cell_kept hb1 v0 hl_v
      replace v1 := cell_kept hb1 v1 hl_v
      replace v2 := cell_kept hb1 v2 hl_v
      replace Hb := Lib.hid (Hb.out.trans (hb1.mono hwl))
      replace Hb1 := Lib.hid (Hb1.out.trans (hb1.mono hwl1))
      replace hl_x := Nat.lt_of_lt_of_le hl_x hb1.size
      replace hl_p := Nat.lt_of_lt_of_le hl_p hb1.size
      replace hl_v := Nat.lt_of_lt_of_le hl_v hb1.size
      replace hwl := Nat.le_trans hwl hb1.size
      replace hwl1 := Nat.le_trans hwl1 hb1.size
      clear hb1
      go_wp2
      all_goals (try (exfalso; omega))
      go_ret
      exact ⟨by first | rfl | (simp; omega), Hb.out⟩
set_option maxRecDepth 20000 in
set_option maxHeartbeats 4000000 in
theorem walk_E (s : SourceD) (p : SrcAt) (ra : RefD) (a b : Int) (w : World) (hs : Src w s p) (hn : Lens s) (hfew : fewB s = true) (ho : a = b) (x y e1 e2 : Int) (hx : baseV s ra a = (x, e1)) (hy : baseV s ra b = (y, e2)) :
    Calls Try.prog 7 #[s.val p, ra.val, .int .i64 a, .int .i64 b] w fun e w' => e = .returned (.bool true) ∧ Below w.heap.size w w' := by
  have hsh := (few_of hfew).short
  have Ho := Lib.hid ho
  have Hx := Lib.hid hx
  have Hy := Lib.hid hy
  clear ho hx hy
  obtain ⟨a0, k0, a1, k1, a2, k2, a3, k3, a4, k4, a5, k5⟩ := p
  have Hs := Lib.hid hs
  clear hs
  go_enter Try.func7, Try.ntmps7
  go_wp2_with fail
  generalize hw0 : World.alloc _ _ = w0
  obtain ⟨X0, X1, hsz, hb0⟩ := blk2 hw0
  have x0 : w0.cell? ⟨w.heap.size, 0, none⟩ = some (.slice a0 s.issuers.length k0) := X0.cell 0
  have x1 : w0.cell? ⟨w.heap.size, 1, none⟩ = some (.slice a1 s.units.length k1) := X0.cell 1
  have x2 : w0.cell? ⟨w.heap.size, 2, none⟩ = some (.slice a2 s.schemas.length k2) := X0.cell 2
  have x3 : w0.cell? ⟨w.heap.size, 3, none⟩ = some (.slice a3 s.rules.length k3) := X0.cell 3
  have x4 : w0.cell? ⟨w.heap.size, 4, none⟩ = some (.slice a4 s.converts k4) := X0.cell 4
  have x5 : w0.cell? ⟨w.heap.size, 5, none⟩ = some (.slice a5 s.purposes.length k5) := X0.cell 5
  have hl_x : w.heap.size < w0.heap.size := by omega
  have p0 : w0.cell? ⟨w.heap.size + 1, 0, none⟩ = some (.string ra.name) := X1.cell 0
  have p1 : w0.cell? ⟨w.heap.size + 1, 1, none⟩ = some (.string ra.path) := X1.cell 1
  have p2 : w0.cell? ⟨w.heap.size + 1, 2, none⟩ = some (.int .i64 ra.schema) := X1.cell 2
  have p3 : w0.cell? ⟨w.heap.size + 1, 3, none⟩ = some (.int .i64 ra.field) := X1.cell 3
  have hl_p : w.heap.size + 1 < w0.heap.size := by omega
  have hwl : w.heap.size ≤ w0.heap.size := hb0.size
  have Hb := Lib.hid hb0
  clear hw0 hb0 hsz X0 X1
  refine (sane_any _).mono ?_
  rintro e w1 ⟨rfl, hb1⟩
  replace x0 := cell_kept hb1 x0 hl_x
  replace x1 := cell_kept hb1 x1 hl_x
  replace x2 := cell_kept hb1 x2 hl_x
  replace x3 := cell_kept hb1 x3 hl_x
  replace x4 := cell_kept hb1 x4 hl_x
  replace x5 := cell_kept hb1 x5 hl_x
  replace p0 := cell_kept hb1 p0 hl_p
  replace p1 := cell_kept hb1 p1 hl_p
  replace p2 := cell_kept hb1 p2 hl_p
  replace p3 := cell_kept hb1 p3 hl_p
  replace Hb := Lib.hid (Hb.out.trans (hb1.mono hwl))
  replace hl_x := Nat.lt_of_lt_of_le hl_x hb1.size
  replace hl_p := Nat.lt_of_lt_of_le hl_p hb1.size
  replace hwl := Nat.le_trans hwl hb1.size
  clear hb1
  go_wp2_with fail
  refine (few_q s ⟨a0, k0, a1, k1, a2, k2, a3, k3, a4, k4, a5, k5⟩ _ (Hs.out.below Hb.out) hn true hfew).mono ?_
  rintro e w2 ⟨rfl, hb1⟩
  replace x0 := cell_kept hb1 x0 hl_x
  replace x1 := cell_kept hb1 x1 hl_x
  replace x2 := cell_kept hb1 x2 hl_x
  replace x3 := cell_kept hb1 x3 hl_x
  replace x4 := cell_kept hb1 x4 hl_x
  replace x5 := cell_kept hb1 x5 hl_x
  replace p0 := cell_kept hb1 p0 hl_p
  replace p1 := cell_kept hb1 p1 hl_p
  replace p2 := cell_kept hb1 p2 hl_p
  replace p3 := cell_kept hb1 p3 hl_p
  replace Hb := Lib.hid (Hb.out.trans (hb1.mono hwl))
  replace hl_x := Nat.lt_of_lt_of_le hl_x hb1.size
  replace hl_p := Nat.lt_of_lt_of_le hl_p hb1.size
  replace hwl := Nat.le_trans hwl hb1.size
  clear hb1
  go_wp2_with fail
  refine (compare_q 2 a b _ false (by have := Ho.out; simp [compareB]; try omega)).mono ?_
  rintro e w3 ⟨rfl, hb1⟩
  replace x0 := cell_kept hb1 x0 hl_x
  replace x1 := cell_kept hb1 x1 hl_x
  replace x2 := cell_kept hb1 x2 hl_x
  replace x3 := cell_kept hb1 x3 hl_x
  replace x4 := cell_kept hb1 x4 hl_x
  replace x5 := cell_kept hb1 x5 hl_x
  replace p0 := cell_kept hb1 p0 hl_p
  replace p1 := cell_kept hb1 p1 hl_p
  replace p2 := cell_kept hb1 p2 hl_p
  replace p3 := cell_kept hb1 p3 hl_p
  replace Hb := Lib.hid (Hb.out.trans (hb1.mono hwl))
  replace hl_x := Nat.lt_of_lt_of_le hl_x hb1.size
  replace hl_p := Nat.lt_of_lt_of_le hl_p hb1.size
  replace hwl := Nat.le_trans hwl hb1.size
  clear hb1
  go_wp2_with fail
  refine (compare_q 1 a b _ true (by have := Ho.out; simp [compareB]; try omega)).mono ?_
  rintro e w4 ⟨rfl, hb1⟩
  replace x0 := cell_kept hb1 x0 hl_x
  replace x1 := cell_kept hb1 x1 hl_x
  replace x2 := cell_kept hb1 x2 hl_x
  replace x3 := cell_kept hb1 x3 hl_x
  replace x4 := cell_kept hb1 x4 hl_x
  replace x5 := cell_kept hb1 x5 hl_x
  replace p0 := cell_kept hb1 p0 hl_p
  replace p1 := cell_kept hb1 p1 hl_p
  replace p2 := cell_kept hb1 p2 hl_p
  replace p3 := cell_kept hb1 p3 hl_p
  replace Hb := Lib.hid (Hb.out.trans (hb1.mono hwl))
  replace hl_x := Nat.lt_of_lt_of_le hl_x hb1.size
  replace hl_p := Nat.lt_of_lt_of_le hl_p hb1.size
  replace hwl := Nat.le_trans hwl hb1.size
  clear hb1
  go_wp2_with fail
  refine (compare_q 2 b a _ false (by have := Ho.out; simp [compareB]; try omega)).mono ?_
  rintro e w5 ⟨rfl, hb1⟩
  replace x0 := cell_kept hb1 x0 hl_x
  replace x1 := cell_kept hb1 x1 hl_x
  replace x2 := cell_kept hb1 x2 hl_x
  replace x3 := cell_kept hb1 x3 hl_x
  replace x4 := cell_kept hb1 x4 hl_x
  replace x5 := cell_kept hb1 x5 hl_x
  replace p0 := cell_kept hb1 p0 hl_p
  replace p1 := cell_kept hb1 p1 hl_p
  replace p2 := cell_kept hb1 p2 hl_p
  replace p3 := cell_kept hb1 p3 hl_p
  replace Hb := Lib.hid (Hb.out.trans (hb1.mono hwl))
  replace hl_x := Nat.lt_of_lt_of_le hl_x hb1.size
  replace hl_p := Nat.lt_of_lt_of_le hl_p hb1.size
  replace hwl := Nat.le_trans hwl hb1.size
  clear hb1
  go_wp2_with fail
  generalize hw0 : World.alloc _ _ = w6
  obtain ⟨X0, hsz, hb1⟩ := blk1 hw0
  have v0 : w6.cell? ⟨w5.heap.size, 0, none⟩ = some (.bool false) := X0.cell 0
  have v1 : w6.cell? ⟨w5.heap.size, 1, none⟩ = some (.bool true) := X0.cell 1
  have v2 : w6.cell? ⟨w5.heap.size, 2, none⟩ = some (.bool false) := X0.cell 2
  have hl_v : w5.heap.size < w6.heap.size := by omega
  replace x0 := cell_kept hb1 x0 hl_x
  replace x1 := cell_kept hb1 x1 hl_x
  replace x2 := cell_kept hb1 x2 hl_x
  replace x3 := cell_kept hb1 x3 hl_x
  replace x4 := cell_kept hb1 x4 hl_x
  replace x5 := cell_kept hb1 x5 hl_x
  replace p0 := cell_kept hb1 p0 hl_p
  replace p1 := cell_kept hb1 p1 hl_p
  replace p2 := cell_kept hb1 p2 hl_p
  replace p3 := cell_kept hb1 p3 hl_p
  replace Hb := Lib.hid (Hb.out.trans (hb1.mono hwl))
  replace hl_x := Nat.lt_of_lt_of_le hl_x hb1.size
  replace hl_p := Nat.lt_of_lt_of_le hl_p hb1.size
  replace hwl := Nat.le_trans hwl hb1.size
  clear hb1
  clear hw0 hsz X0
  go_wp2_with fail
  go_loopw [12, 38] (fun n i wr => ((n = .int .i64 0 ∧ i = .int .i64 0) ∨ (n = .int .i64 0 ∧ i = .int .i64 1) ∨ (n = .int .i64 1 ∧ i = .int .i64 2) ∨ (n = .int .i64 1 ∧ i = .int .i64 3)) ∧ Below w6.heap.size w6 wr) (fun _ i _ => 3 - (intOf i).toNat)
  case atStart => exact ⟨Or.inl ⟨rfl, rfl⟩, Below.refl _ _⟩
  case round =>
    obtain ⟨hrel, hb1⟩ := hrel
    have Hb1 := Lib.hid hb1
    have hwl1 := hb1.size
    replace x0 := cell_kept hb1 x0 hl_x
    replace x1 := cell_kept hb1 x1 hl_x
    replace x2 := cell_kept hb1 x2 hl_x
    replace x3 := cell_kept hb1 x3 hl_x
    replace x4 := cell_kept hb1 x4 hl_x
    replace x5 := cell_kept hb1 x5 hl_x
    replace p0 := cell_kept hb1 p0 hl_p
    replace p1 := cell_kept hb1 p1 hl_p
    replace p2 := cell_kept hb1 p2 hl_p
    replace p3 := cell_kept hb1 p3 hl_p
    replace v0 := cell_kept hb1 v0 hl_v
    replace v1 := cell_kept hb1 v1 hl_v
    replace v2 := cell_kept hb1 v2 hl_v
    replace Hb := Lib.hid (Hb.out.trans (hb1.mono hwl))
    replace hl_x := Nat.lt_of_lt_of_le hl_x hb1.size
    replace hl_p := Nat.lt_of_lt_of_le hl_p hb1.size
    replace hl_v := Nat.lt_of_lt_of_le hl_v hb1.size
    replace hwl := Nat.le_trans hwl hb1.size
    clear hb1
    rcases hrel with ⟨rfl, rfl⟩ | ⟨rfl, rfl⟩ | ⟨rfl, rfl⟩ | ⟨rfl, rfl⟩
    · go_wp2_with fail
      go_roundw
      case rel => exact ⟨Or.inr (Or.inl ⟨rfl, rfl⟩), Hb1.out⟩
      case measure => simp [intOf]
    · go_wp2_with fail
      go_roundw
      case rel => exact ⟨Or.inr (Or.inr (Or.inl ⟨rfl, rfl⟩)), Hb1.out⟩
      case measure => simp [intOf]
    · go_wp2_with fail
      go_roundw
      case rel => exact ⟨Or.inr (Or.inr (Or.inr (⟨rfl, rfl⟩))), Hb1.out⟩
      case measure => simp [intOf]
    · go_wp2_with fail
      refine (compare_q 3 a b _ true (by have := Ho.out; simp [compareB]; try omega)).mono ?_
      rintro e w7 ⟨rfl, hb1⟩
      replace x0 := cell_kept hb1 x0 hl_x
      replace x1 := cell_kept hb1 x1 hl_x
      replace x2 := cell_kept hb1 x2 hl_x
      replace x3 := cell_kept hb1 x3 hl_x
      replace x4 := cell_kept hb1 x4 hl_x
      replace x5 := cell_kept hb1 x5 hl_x
      replace p0 := cell_kept hb1 p0 hl_p
      replace p1 := cell_kept hb1 p1 hl_p
      replace p2 := cell_kept hb1 p2 hl_p
      replace p3 := cell_kept hb1 p3 hl_p
      replace v0 := cell_kept hb1 v0 hl_v
      replace v1 := cell_kept hb1 v1 hl_v
      replace v2 := cell_kept hb1 v2 hl_v
      replace Hb := Lib.hid (Hb.out.trans (hb1.mono hwl))
      replace Hb1 := Lib.hid (Hb1.out.trans (hb1.mono hwl1))
      replace hl_x := Nat.lt_of_lt_of_le hl_x hb1.size
      replace hl_p := Nat.lt_of_lt_of_le hl_p hb1.size
      replace hl_v := Nat.lt_of_lt_of_le hl_v hb1.size
      replace hwl := Nat.le_trans hwl hb1.size
      replace hwl1 := Nat.le_trans hwl1 hb1.size
      clear hb1
      go_wp2_with fail
      refine (compare_q 4 a b _ false (by have := Ho.out; simp [compareB]; try omega)).mono ?_
      rintro e w8 ⟨rfl, hb1⟩
      replace x0 := cell_kept hb1 x0 hl_x
      replace x1 := cell_kept hb1 x1 hl_x
      replace x2 := cell_kept hb1 x2 hl_x
      replace x3 := cell_kept hb1 x3 hl_x
      replace x4 := cell_kept hb1 x4 hl_x
      replace x5 := cell_kept hb1 x5 hl_x
      replace p0 := cell_kept hb1 p0 hl_p
      replace p1 := cell_kept hb1 p1 hl_p
      replace p2 := cell_kept hb1 p2 hl_p
      replace p3 := cell_kept hb1 p3 hl_p
      replace v0 := cell_kept hb1 v0 hl_v
      replace v1 := cell_kept hb1 v1 hl_v
      replace v2 := cell_kept hb1 v2 hl_v
      replace Hb := Lib.hid (Hb.out.trans (hb1.mono hwl))
      replace Hb1 := Lib.hid (Hb1.out.trans (hb1.mono hwl1))
      replace hl_x := Nat.lt_of_lt_of_le hl_x hb1.size
      replace hl_p := Nat.lt_of_lt_of_le hl_p hb1.size
      replace hl_v := Nat.lt_of_lt_of_le hl_v hb1.size
      replace hwl := Nat.le_trans hwl hb1.size
      replace hwl1 := Nat.le_trans hwl1 hb1.size
      clear hb1
      go_wp2_with fail
      refine (base_any s ⟨a0, k0, a1, k1, a2, k2, a3, k3, a4, k4, a5, k5⟩ ra a _ (Hs.out.below Hb.out) hsh).mono ?_
      rw [Hx.out]
      rintro e w9 ⟨rfl, hb1⟩
      replace x0 := cell_kept hb1 x0 hl_x
      replace x1 := cell_kept hb1 x1 hl_x
      replace x2 := cell_kept hb1 x2 hl_x
      replace x3 := cell_kept hb1 x3 hl_x
      replace x4 := cell_kept hb1 x4 hl_x
      replace x5 := cell_kept hb1 x5 hl_x
      replace p0 := cell_kept hb1 p0 hl_p
      replace p1 := cell_kept hb1 p1 hl_p
      replace p2 := cell_kept hb1 p2 hl_p
      replace p3 := cell_kept hb1 p3 hl_p
      replace v0 := cell_kept hb1 v0 hl_v
      replace v1 := cell_kept hb1 v1 hl_v
      replace v2 := cell_kept hb1 v2 hl_v
      replace Hb := Lib.hid (Hb.out.trans (hb1.mono hwl))
      replace Hb1 := Lib.hid (Hb1.out.trans (hb1.mono hwl1))
      replace hl_x := Nat.lt_of_lt_of_le hl_x hb1.size
      replace hl_p := Nat.lt_of_lt_of_le hl_p hb1.size
      replace hl_v := Nat.lt_of_lt_of_le hl_v hb1.size
      replace hwl := Nat.le_trans hwl hb1.size
      replace hwl1 := Nat.le_trans hwl1 hb1.size
      clear hb1
      go_wp2_with fail
      refine (base_any s ⟨a0, k0, a1, k1, a2, k2, a3, k3, a4, k4, a5, k5⟩ ra b _ (Hs.out.below Hb.out) hsh).mono ?_
      rw [Hy.out]
      rintro e w10 ⟨rfl, hb1⟩
      replace x0 := cell_kept hb1 x0 hl_x
      replace x1 := cell_kept hb1 x1 hl_x
      replace x2 := cell_kept hb1 x2 hl_x
      replace x3 := cell_kept hb1 x3 hl_x
      replace x4 := cell_kept hb1 x4 hl_x
      replace x5 := cell_kept hb1 x5 hl_x
      replace p0 := cell_kept hb1 p0 hl_p
      replace p1 := cell_kept hb1 p1 hl_p
      replace p2 := cell_kept hb1 p2 hl_p
      replace p3 := cell_kept hb1 p3 hl_p
      replace v0 := cell_kept hb1 v0 hl_v
      replace v1 := cell_kept hb1 v1 hl_v
      replace v2 := cell_kept hb1 v2 hl_v
      replace Hb := Lib.hid (Hb.out.trans (hb1.mono hwl))
      replace Hb1 := Lib.hid (Hb1.out.trans (hb1.mono hwl1))
      replace hl_x := Nat.lt_of_lt_of_le hl_x hb1.size
      replace hl_p := Nat.lt_of_lt_of_le hl_p hb1.size
      replace hl_v := Nat.lt_of_lt_of_le hl_v hb1.size
      replace hwl := Nat.le_trans hwl hb1.size
      replace hwl1 := Nat.le_trans hwl1 hb1.size
      clear hb1
      by_cases he1 : e1 = 0
      case neg =>
        have q1 : (e1 != 0) = true := by simpa using he1
        have He1 := Lib.hid he1
        clear he1
        go_wp2
        go_ret
        exact ⟨rfl, Hb.out⟩
      have q1 : (e1 != 0) = false := by simpa using he1
      by_cases he2 : e2 = 0
      case neg =>
        have q2 : (e2 != 0) = true := by simpa using he2
        have He1 := Lib.hid he1
        have He2 := Lib.hid he2
        clear he2 he1
        go_wp2
        go_ret
        exact ⟨rfl, Hb.out⟩
      have q2 : (e2 != 0) = false := by simpa using he2
      have hbl := base_law (by rw [← he1]; exact Hx.out) (by rw [← he2]; exact Hy.out)
      have Hxy := Lib.hid (show x = y by have := Ho.out; omega)
      have hx0 := hbl.2.2
      clear hbl he1 he2
      go_wp2_with fail
      refine (compare_q 2 x y _ false (by have := Hxy.out; simp [compareB]; try omega)).mono ?_
      rintro e w11 ⟨rfl, hb1⟩
      replace x0 := cell_kept hb1 x0 hl_x
      replace x1 := cell_kept hb1 x1 hl_x
      replace x2 := cell_kept hb1 x2 hl_x
      replace x3 := cell_kept hb1 x3 hl_x
      replace x4 := cell_kept hb1 x4 hl_x
      replace x5 := cell_kept hb1 x5 hl_x
      replace p0 := cell_kept hb1 p0 hl_p
      replace p1 := cell_kept hb1 p1 hl_p
      replace p2 := cell_kept hb1 p2 hl_p
      replace p3 := cell_kept hb1 p3 hl_p
      replace v0 := cell_kept hb1 v0 hl_v
      replace v1 := cell_kept hb1 v1 hl_v
      replace v2 := cell_kept hb1 v2 hl_v
      replace Hb := Lib.hid (Hb.out.trans (hb1.mono hwl))
      replace Hb1 := Lib.hid (Hb1.out.trans (hb1.mono hwl1))
      replace hl_x := Nat.lt_of_lt_of_le hl_x hb1.size
      replace hl_p := Nat.lt_of_lt_of_le hl_p hb1.size
      replace hl_v := Nat.lt_of_lt_of_le hl_v hb1.size
      replace hwl := Nat.le_trans hwl hb1.size
      replace hwl1 := Nat.le_trans hwl1 hb1.size
      clear hb1
      go_wp2_with fail
      refine (compare_q 1 x y _ true (by have := Hxy.out; simp [compareB]; try omega)).mono ?_
      rintro e w12 ⟨rfl, hb1⟩
      replace x0 := cell_kept hb1 x0 hl_x
      replace x1 := cell_kept hb1 x1 hl_x
      replace x2 := cell_kept hb1 x2 hl_x
      replace x3 := cell_kept hb1 x3 hl_x
      replace x4 := cell_kept hb1 x4 hl_x
      replace x5 := cell_kept hb1 x5 hl_x
      replace p0 := cell_kept hb1 p0 hl_p
      replace p1 := cell_kept hb1 p1 hl_p
      replace p2 := cell_kept hb1 p2 hl_p
      replace p3 := cell_kept hb1 p3 hl_p
      replace v0 := cell_kept hb1 v0 hl_v
      replace v1 := cell_kept hb1 v1 hl_v
      replace v2 := cell_kept hb1 v2 hl_v
      replace Hb := Lib.hid (Hb.out.trans (hb1.mono hwl))
      replace Hb1 := Lib.hid (Hb1.out.trans (hb1.mono hwl1))
      replace hl_x := Nat.lt_of_lt_of_le hl_x hb1.size
      replace hl_p := Nat.lt_of_lt_of_le hl_p hb1.size
      replace hl_v := Nat.lt_of_lt_of_le hl_v hb1.size
      replace hwl := Nat.le_trans hwl hb1.size
      replace hwl1 := Nat.le_trans hwl1 hb1.size
      clear hb1
      go_wp2
      all_goals (try (exfalso; omega))
      go_ret
      exact ⟨by first | rfl | (simp; omega), Hb.out⟩
set_option maxRecDepth 20000 in
set_option maxHeartbeats 4000000 in
theorem walk_G (s : SourceD) (p : SrcAt) (ra : RefD) (a b : Int) (w : World) (hs : Src w s p) (hn : Lens s) (hfew : fewB s = true) (ho : b < a) (x y e1 e2 : Int) (hx : baseV s ra a = (x, e1)) (hy : baseV s ra b = (y, e2)) :
    Calls Try.prog 7 #[s.val p, ra.val, .int .i64 a, .int .i64 b] w fun e w' => e = .returned (.bool true) ∧ Below w.heap.size w w' := by
  have hsh := (few_of hfew).short
  have Ho := Lib.hid ho
  have Hx := Lib.hid hx
  have Hy := Lib.hid hy
  clear ho hx hy
  obtain ⟨a0, k0, a1, k1, a2, k2, a3, k3, a4, k4, a5, k5⟩ := p
  have Hs := Lib.hid hs
  clear hs
  go_enter Try.func7, Try.ntmps7
  go_wp2_with fail
  generalize hw0 : World.alloc _ _ = w0
  obtain ⟨X0, X1, hsz, hb0⟩ := blk2 hw0
  have x0 : w0.cell? ⟨w.heap.size, 0, none⟩ = some (.slice a0 s.issuers.length k0) := X0.cell 0
  have x1 : w0.cell? ⟨w.heap.size, 1, none⟩ = some (.slice a1 s.units.length k1) := X0.cell 1
  have x2 : w0.cell? ⟨w.heap.size, 2, none⟩ = some (.slice a2 s.schemas.length k2) := X0.cell 2
  have x3 : w0.cell? ⟨w.heap.size, 3, none⟩ = some (.slice a3 s.rules.length k3) := X0.cell 3
  have x4 : w0.cell? ⟨w.heap.size, 4, none⟩ = some (.slice a4 s.converts k4) := X0.cell 4
  have x5 : w0.cell? ⟨w.heap.size, 5, none⟩ = some (.slice a5 s.purposes.length k5) := X0.cell 5
  have hl_x : w.heap.size < w0.heap.size := by omega
  have p0 : w0.cell? ⟨w.heap.size + 1, 0, none⟩ = some (.string ra.name) := X1.cell 0
  have p1 : w0.cell? ⟨w.heap.size + 1, 1, none⟩ = some (.string ra.path) := X1.cell 1
  have p2 : w0.cell? ⟨w.heap.size + 1, 2, none⟩ = some (.int .i64 ra.schema) := X1.cell 2
  have p3 : w0.cell? ⟨w.heap.size + 1, 3, none⟩ = some (.int .i64 ra.field) := X1.cell 3
  have hl_p : w.heap.size + 1 < w0.heap.size := by omega
  have hwl : w.heap.size ≤ w0.heap.size := hb0.size
  have Hb := Lib.hid hb0
  clear hw0 hb0 hsz X0 X1
  refine (sane_any _).mono ?_
  rintro e w1 ⟨rfl, hb1⟩
  replace x0 := cell_kept hb1 x0 hl_x
  replace x1 := cell_kept hb1 x1 hl_x
  replace x2 := cell_kept hb1 x2 hl_x
  replace x3 := cell_kept hb1 x3 hl_x
  replace x4 := cell_kept hb1 x4 hl_x
  replace x5 := cell_kept hb1 x5 hl_x
  replace p0 := cell_kept hb1 p0 hl_p
  replace p1 := cell_kept hb1 p1 hl_p
  replace p2 := cell_kept hb1 p2 hl_p
  replace p3 := cell_kept hb1 p3 hl_p
  replace Hb := Lib.hid (Hb.out.trans (hb1.mono hwl))
  replace hl_x := Nat.lt_of_lt_of_le hl_x hb1.size
  replace hl_p := Nat.lt_of_lt_of_le hl_p hb1.size
  replace hwl := Nat.le_trans hwl hb1.size
  clear hb1
  go_wp2_with fail
  refine (few_q s ⟨a0, k0, a1, k1, a2, k2, a3, k3, a4, k4, a5, k5⟩ _ (Hs.out.below Hb.out) hn true hfew).mono ?_
  rintro e w2 ⟨rfl, hb1⟩
  replace x0 := cell_kept hb1 x0 hl_x
  replace x1 := cell_kept hb1 x1 hl_x
  replace x2 := cell_kept hb1 x2 hl_x
  replace x3 := cell_kept hb1 x3 hl_x
  replace x4 := cell_kept hb1 x4 hl_x
  replace x5 := cell_kept hb1 x5 hl_x
  replace p0 := cell_kept hb1 p0 hl_p
  replace p1 := cell_kept hb1 p1 hl_p
  replace p2 := cell_kept hb1 p2 hl_p
  replace p3 := cell_kept hb1 p3 hl_p
  replace Hb := Lib.hid (Hb.out.trans (hb1.mono hwl))
  replace hl_x := Nat.lt_of_lt_of_le hl_x hb1.size
  replace hl_p := Nat.lt_of_lt_of_le hl_p hb1.size
  replace hwl := Nat.le_trans hwl hb1.size
  clear hb1
  go_wp2_with fail
  refine (compare_q 2 a b _ false (by have := Ho.out; simp [compareB]; try omega)).mono ?_
  rintro e w3 ⟨rfl, hb1⟩
  replace x0 := cell_kept hb1 x0 hl_x
  replace x1 := cell_kept hb1 x1 hl_x
  replace x2 := cell_kept hb1 x2 hl_x
  replace x3 := cell_kept hb1 x3 hl_x
  replace x4 := cell_kept hb1 x4 hl_x
  replace x5 := cell_kept hb1 x5 hl_x
  replace p0 := cell_kept hb1 p0 hl_p
  replace p1 := cell_kept hb1 p1 hl_p
  replace p2 := cell_kept hb1 p2 hl_p
  replace p3 := cell_kept hb1 p3 hl_p
  replace Hb := Lib.hid (Hb.out.trans (hb1.mono hwl))
  replace hl_x := Nat.lt_of_lt_of_le hl_x hb1.size
  replace hl_p := Nat.lt_of_lt_of_le hl_p hb1.size
  replace hwl := Nat.le_trans hwl hb1.size
  clear hb1
  go_wp2_with fail
  refine (compare_q 1 a b _ false (by have := Ho.out; simp [compareB]; try omega)).mono ?_
  rintro e w4 ⟨rfl, hb1⟩
  replace x0 := cell_kept hb1 x0 hl_x
  replace x1 := cell_kept hb1 x1 hl_x
  replace x2 := cell_kept hb1 x2 hl_x
  replace x3 := cell_kept hb1 x3 hl_x
  replace x4 := cell_kept hb1 x4 hl_x
  replace x5 := cell_kept hb1 x5 hl_x
  replace p0 := cell_kept hb1 p0 hl_p
  replace p1 := cell_kept hb1 p1 hl_p
  replace p2 := cell_kept hb1 p2 hl_p
  replace p3 := cell_kept hb1 p3 hl_p
  replace Hb := Lib.hid (Hb.out.trans (hb1.mono hwl))
  replace hl_x := Nat.lt_of_lt_of_le hl_x hb1.size
  replace hl_p := Nat.lt_of_lt_of_le hl_p hb1.size
  replace hwl := Nat.le_trans hwl hb1.size
  clear hb1
  go_wp2_with fail
  refine (compare_q 2 b a _ true (by have := Ho.out; simp [compareB]; try omega)).mono ?_
  rintro e w5 ⟨rfl, hb1⟩
  replace x0 := cell_kept hb1 x0 hl_x
  replace x1 := cell_kept hb1 x1 hl_x
  replace x2 := cell_kept hb1 x2 hl_x
  replace x3 := cell_kept hb1 x3 hl_x
  replace x4 := cell_kept hb1 x4 hl_x
  replace x5 := cell_kept hb1 x5 hl_x
  replace p0 := cell_kept hb1 p0 hl_p
  replace p1 := cell_kept hb1 p1 hl_p
  replace p2 := cell_kept hb1 p2 hl_p
  replace p3 := cell_kept hb1 p3 hl_p
  replace Hb := Lib.hid (Hb.out.trans (hb1.mono hwl))
  replace hl_x := Nat.lt_of_lt_of_le hl_x hb1.size
  replace hl_p := Nat.lt_of_lt_of_le hl_p hb1.size
  replace hwl := Nat.le_trans hwl hb1.size
  clear hb1
  go_wp2_with fail
  generalize hw0 : World.alloc _ _ = w6
  obtain ⟨X0, hsz, hb1⟩ := blk1 hw0
  have v0 : w6.cell? ⟨w5.heap.size, 0, none⟩ = some (.bool false) := X0.cell 0
  have v1 : w6.cell? ⟨w5.heap.size, 1, none⟩ = some (.bool false) := X0.cell 1
  have v2 : w6.cell? ⟨w5.heap.size, 2, none⟩ = some (.bool true) := X0.cell 2
  have hl_v : w5.heap.size < w6.heap.size := by omega
  replace x0 := cell_kept hb1 x0 hl_x
  replace x1 := cell_kept hb1 x1 hl_x
  replace x2 := cell_kept hb1 x2 hl_x
  replace x3 := cell_kept hb1 x3 hl_x
  replace x4 := cell_kept hb1 x4 hl_x
  replace x5 := cell_kept hb1 x5 hl_x
  replace p0 := cell_kept hb1 p0 hl_p
  replace p1 := cell_kept hb1 p1 hl_p
  replace p2 := cell_kept hb1 p2 hl_p
  replace p3 := cell_kept hb1 p3 hl_p
  replace Hb := Lib.hid (Hb.out.trans (hb1.mono hwl))
  replace hl_x := Nat.lt_of_lt_of_le hl_x hb1.size
  replace hl_p := Nat.lt_of_lt_of_le hl_p hb1.size
  replace hwl := Nat.le_trans hwl hb1.size
  clear hb1
  clear hw0 hsz X0
  go_wp2_with fail
  go_loopw [12, 38] (fun n i wr => ((n = .int .i64 0 ∧ i = .int .i64 0) ∨ (n = .int .i64 0 ∧ i = .int .i64 1) ∨ (n = .int .i64 0 ∧ i = .int .i64 2) ∨ (n = .int .i64 1 ∧ i = .int .i64 3)) ∧ Below w6.heap.size w6 wr) (fun _ i _ => 3 - (intOf i).toNat)
  case atStart => exact ⟨Or.inl ⟨rfl, rfl⟩, Below.refl _ _⟩
  case round =>
    obtain ⟨hrel, hb1⟩ := hrel
    have Hb1 := Lib.hid hb1
    have hwl1 := hb1.size
    replace x0 := cell_kept hb1 x0 hl_x
    replace x1 := cell_kept hb1 x1 hl_x
    replace x2 := cell_kept hb1 x2 hl_x
    replace x3 := cell_kept hb1 x3 hl_x
    replace x4 := cell_kept hb1 x4 hl_x
    replace x5 := cell_kept hb1 x5 hl_x
    replace p0 := cell_kept hb1 p0 hl_p
    replace p1 := cell_kept hb1 p1 hl_p
    replace p2 := cell_kept hb1 p2 hl_p
    replace p3 := cell_kept hb1 p3 hl_p
    replace v0 := cell_kept hb1 v0 hl_v
    replace v1 := cell_kept hb1 v1 hl_v
    replace v2 := cell_kept hb1 v2 hl_v
    replace Hb := Lib.hid (Hb.out.trans (hb1.mono hwl))
    replace hl_x := Nat.lt_of_lt_of_le hl_x hb1.size
    replace hl_p := Nat.lt_of_lt_of_le hl_p hb1.size
    replace hl_v := Nat.lt_of_lt_of_le hl_v hb1.size
    replace hwl := Nat.le_trans hwl hb1.size
    clear hb1
    rcases hrel with ⟨rfl, rfl⟩ | ⟨rfl, rfl⟩ | ⟨rfl, rfl⟩ | ⟨rfl, rfl⟩
    · go_wp2_with fail
      go_roundw
      case rel => exact ⟨Or.inr (Or.inl ⟨rfl, rfl⟩), Hb1.out⟩
      case measure => simp [intOf]
    · go_wp2_with fail
      go_roundw
      case rel => exact ⟨Or.inr (Or.inr (Or.inl ⟨rfl, rfl⟩)), Hb1.out⟩
      case measure => simp [intOf]
    · go_wp2_with fail
      go_roundw
      case rel => exact ⟨Or.inr (Or.inr (Or.inr (⟨rfl, rfl⟩))), Hb1.out⟩
      case measure => simp [intOf]
    · go_wp2_with fail
      refine (compare_q 3 a b _ false (by have := Ho.out; simp [compareB]; try omega)).mono ?_
      rintro e w7 ⟨rfl, hb1⟩
      replace x0 := cell_kept hb1 x0 hl_x
      replace x1 := cell_kept hb1 x1 hl_x
      replace x2 := cell_kept hb1 x2 hl_x
      replace x3 := cell_kept hb1 x3 hl_x
      replace x4 := cell_kept hb1 x4 hl_x
      replace x5 := cell_kept hb1 x5 hl_x
      replace p0 := cell_kept hb1 p0 hl_p
      replace p1 := cell_kept hb1 p1 hl_p
      replace p2 := cell_kept hb1 p2 hl_p
      replace p3 := cell_kept hb1 p3 hl_p
      replace v0 := cell_kept hb1 v0 hl_v
      replace v1 := cell_kept hb1 v1 hl_v
      replace v2 := cell_kept hb1 v2 hl_v
      replace Hb := Lib.hid (Hb.out.trans (hb1.mono hwl))
      replace Hb1 := Lib.hid (Hb1.out.trans (hb1.mono hwl1))
      replace hl_x := Nat.lt_of_lt_of_le hl_x hb1.size
      replace hl_p := Nat.lt_of_lt_of_le hl_p hb1.size
      replace hl_v := Nat.lt_of_lt_of_le hl_v hb1.size
      replace hwl := Nat.le_trans hwl hb1.size
      replace hwl1 := Nat.le_trans hwl1 hb1.size
      clear hb1
      go_wp2_with fail
      refine (compare_q 4 a b _ true (by have := Ho.out; simp [compareB]; try omega)).mono ?_
      rintro e w8 ⟨rfl, hb1⟩
      replace x0 := cell_kept hb1 x0 hl_x
      replace x1 := cell_kept hb1 x1 hl_x
      replace x2 := cell_kept hb1 x2 hl_x
      replace x3 := cell_kept hb1 x3 hl_x
      replace x4 := cell_kept hb1 x4 hl_x
      replace x5 := cell_kept hb1 x5 hl_x
      replace p0 := cell_kept hb1 p0 hl_p
      replace p1 := cell_kept hb1 p1 hl_p
      replace p2 := cell_kept hb1 p2 hl_p
      replace p3 := cell_kept hb1 p3 hl_p
      replace v0 := cell_kept hb1 v0 hl_v
      replace v1 := cell_kept hb1 v1 hl_v
      replace v2 := cell_kept hb1 v2 hl_v
      replace Hb := Lib.hid (Hb.out.trans (hb1.mono hwl))
      replace Hb1 := Lib.hid (Hb1.out.trans (hb1.mono hwl1))
      replace hl_x := Nat.lt_of_lt_of_le hl_x hb1.size
      replace hl_p := Nat.lt_of_lt_of_le hl_p hb1.size
      replace hl_v := Nat.lt_of_lt_of_le hl_v hb1.size
      replace hwl := Nat.le_trans hwl hb1.size
      replace hwl1 := Nat.le_trans hwl1 hb1.size
      clear hb1
      go_wp2_with fail
      refine (base_any s ⟨a0, k0, a1, k1, a2, k2, a3, k3, a4, k4, a5, k5⟩ ra a _ (Hs.out.below Hb.out) hsh).mono ?_
      rw [Hx.out]
      rintro e w9 ⟨rfl, hb1⟩
      replace x0 := cell_kept hb1 x0 hl_x
      replace x1 := cell_kept hb1 x1 hl_x
      replace x2 := cell_kept hb1 x2 hl_x
      replace x3 := cell_kept hb1 x3 hl_x
      replace x4 := cell_kept hb1 x4 hl_x
      replace x5 := cell_kept hb1 x5 hl_x
      replace p0 := cell_kept hb1 p0 hl_p
      replace p1 := cell_kept hb1 p1 hl_p
      replace p2 := cell_kept hb1 p2 hl_p
      replace p3 := cell_kept hb1 p3 hl_p
      replace v0 := cell_kept hb1 v0 hl_v
      replace v1 := cell_kept hb1 v1 hl_v
      replace v2 := cell_kept hb1 v2 hl_v
      replace Hb := Lib.hid (Hb.out.trans (hb1.mono hwl))
      replace Hb1 := Lib.hid (Hb1.out.trans (hb1.mono hwl1))
      replace hl_x := Nat.lt_of_lt_of_le hl_x hb1.size
      replace hl_p := Nat.lt_of_lt_of_le hl_p hb1.size
      replace hl_v := Nat.lt_of_lt_of_le hl_v hb1.size
      replace hwl := Nat.le_trans hwl hb1.size
      replace hwl1 := Nat.le_trans hwl1 hb1.size
      clear hb1
      go_wp2_with fail
      refine (base_any s ⟨a0, k0, a1, k1, a2, k2, a3, k3, a4, k4, a5, k5⟩ ra b _ (Hs.out.below Hb.out) hsh).mono ?_
      rw [Hy.out]
      rintro e w10 ⟨rfl, hb1⟩
      replace x0 := cell_kept hb1 x0 hl_x
      replace x1 := cell_kept hb1 x1 hl_x
      replace x2 := cell_kept hb1 x2 hl_x
      replace x3 := cell_kept hb1 x3 hl_x
      replace x4 := cell_kept hb1 x4 hl_x
      replace x5 := cell_kept hb1 x5 hl_x
      replace p0 := cell_kept hb1 p0 hl_p
      replace p1 := cell_kept hb1 p1 hl_p
      replace p2 := cell_kept hb1 p2 hl_p
      replace p3 := cell_kept hb1 p3 hl_p
      replace v0 := cell_kept hb1 v0 hl_v
      replace v1 := cell_kept hb1 v1 hl_v
      replace v2 := cell_kept hb1 v2 hl_v
      replace Hb := Lib.hid (Hb.out.trans (hb1.mono hwl))
      replace Hb1 := Lib.hid (Hb1.out.trans (hb1.mono hwl1))
      replace hl_x := Nat.lt_of_lt_of_le hl_x hb1.size
      replace hl_p := Nat.lt_of_lt_of_le hl_p hb1.size
      replace hl_v := Nat.lt_of_lt_of_le hl_v hb1.size
      replace hwl := Nat.le_trans hwl hb1.size
      replace hwl1 := Nat.le_trans hwl1 hb1.size
      clear hb1
      by_cases he1 : e1 = 0
      case neg =>
        have q1 : (e1 != 0) = true := by simpa using he1
        have He1 := Lib.hid he1
        clear he1
        go_wp2
        go_ret
        exact ⟨rfl, Hb.out⟩
      have q1 : (e1 != 0) = false := by simpa using he1
      by_cases he2 : e2 = 0
      case neg =>
        have q2 : (e2 != 0) = true := by simpa using he2
        have He1 := Lib.hid he1
        have He2 := Lib.hid he2
        clear he2 he1
        go_wp2
        go_ret
        exact ⟨rfl, Hb.out⟩
      have q2 : (e2 != 0) = false := by simpa using he2
      have hbl := base_law (by rw [← he1]; exact Hx.out) (by rw [← he2]; exact Hy.out)
      have Hxy := Lib.hid (show y < x by have := Ho.out; omega)
      have hx0 := hbl.2.2
      clear hbl he1 he2
      go_wp2_with fail
      refine (compare_q 2 x y _ false (by have := Hxy.out; simp [compareB]; try omega)).mono ?_
      rintro e w11 ⟨rfl, hb1⟩
      replace x0 := cell_kept hb1 x0 hl_x
      replace x1 := cell_kept hb1 x1 hl_x
      replace x2 := cell_kept hb1 x2 hl_x
      replace x3 := cell_kept hb1 x3 hl_x
      replace x4 := cell_kept hb1 x4 hl_x
      replace x5 := cell_kept hb1 x5 hl_x
      replace p0 := cell_kept hb1 p0 hl_p
      replace p1 := cell_kept hb1 p1 hl_p
      replace p2 := cell_kept hb1 p2 hl_p
      replace p3 := cell_kept hb1 p3 hl_p
      replace v0 := cell_kept hb1 v0 hl_v
      replace v1 := cell_kept hb1 v1 hl_v
      replace v2 := cell_kept hb1 v2 hl_v
      replace Hb := Lib.hid (Hb.out.trans (hb1.mono hwl))
      replace Hb1 := Lib.hid (Hb1.out.trans (hb1.mono hwl1))
      replace hl_x := Nat.lt_of_lt_of_le hl_x hb1.size
      replace hl_p := Nat.lt_of_lt_of_le hl_p hb1.size
      replace hl_v := Nat.lt_of_lt_of_le hl_v hb1.size
      replace hwl := Nat.le_trans hwl hb1.size
      replace hwl1 := Nat.le_trans hwl1 hb1.size
      clear hb1
      go_wp2_with fail
      refine (compare_q 1 x y _ false (by have := Hxy.out; simp [compareB]; try omega)).mono ?_
      rintro e w12 ⟨rfl, hb1⟩
      replace x0 := cell_kept hb1 x0 hl_x
      replace x1 := cell_kept hb1 x1 hl_x
      replace x2 := cell_kept hb1 x2 hl_x
      replace x3 := cell_kept hb1 x3 hl_x
      replace x4 := cell_kept hb1 x4 hl_x
      replace x5 := cell_kept hb1 x5 hl_x
      replace p0 := cell_kept hb1 p0 hl_p
      replace p1 := cell_kept hb1 p1 hl_p
      replace p2 := cell_kept hb1 p2 hl_p
      replace p3 := cell_kept hb1 p3 hl_p
      replace v0 := cell_kept hb1 v0 hl_v
      replace v1 := cell_kept hb1 v1 hl_v
      replace v2 := cell_kept hb1 v2 hl_v
      replace Hb := Lib.hid (Hb.out.trans (hb1.mono hwl))
      replace Hb1 := Lib.hid (Hb1.out.trans (hb1.mono hwl1))
      replace hl_x := Nat.lt_of_lt_of_le hl_x hb1.size
      replace hl_p := Nat.lt_of_lt_of_le hl_p hb1.size
      replace hl_v := Nat.lt_of_lt_of_le hl_v hb1.size
      replace hwl := Nat.le_trans hwl hb1.size
      replace hwl1 := Nat.le_trans hwl1 hb1.size
      clear hb1
      go_wp2
      all_goals (try (exfalso; omega))
      go_ret
      exact ⟨by first | rfl | (simp; omega), Hb.out⟩

theorem walk (s : SourceD) (p : SrcAt) (ra : RefD) (a b : Int) (w : World) (hs : Src w s p) (hn : Lens s) (_ : (Lit.int .i64 a).wf = true) (_ : (Lit.int .i64 b).wf = true) :
    Calls Try.prog 7 #[s.val p, ra.val, .int .i64 a, .int .i64 b] w fun e w' => e = .returned (.bool true) ∧ Below w.heap.size w w' := by
  cases hfew : fewB s with
  | false => exact walk_few s p ra a b w hs hn hfew
  | true =>
    by_cases h1 : a < b
    · exact walk_L s p ra a b w hs hn hfew h1 _ _ _ _ rfl rfl
    · by_cases h2 : a = b
      · exact walk_E s p ra a b w hs hn hfew h2 _ _ _ _ rfl rfl
      · exact walk_G s p ra a b w hs hn hfew (by omega) _ _ _ _ rfl rfl

theorem own : ownKnob Try.prog.godebug = none := by kernel_rfl
theorem laidOut : laidOutB Try.prog = true := by kernel_rfl
set_option maxRecDepth 100000 in
theorem lifted (os : Os) (started : os.Started) (H : Type) (enc : TypeId × Value → H) :
    ReturnsInHanded {} Try.checked os 7 .any (Rows.typesOrderSpec.pre6 enc Try.prog Try.f7 Rows.typesOrderRow.domain false) (Rows.typesOrderSpec.post enc Try.prog Try.f7 false true false false) := by
  refine returnsInHanded_of_change (C := Try.checked) own started (by kernel_rfl) Try.func7
    (ChangeSpec.witness6 (enc := enc) (C := Try.checked) false ⟨#[], #[.agg #[.slice none 0 0, .slice none 0 0, .slice none 0 0, .slice none 0 0, .slice none 0 0, .slice none 0 0], .agg #[.string ⟨#[]⟩, .string ⟨#[]⟩, .int .i64 0, .int .i64 0], .int .i64 0, .int .i64 0], []⟩ 8 (by kernel_rfl) (by kernel_rfl) (by kernel_rfl) (by kernel_rfl)) ?_
  intro W base args ds gs before hval0 hW hcnd _
  have hval : ∀ (j : Nat) t v, Try.f7.params[j]? = some t → args[j]? = some v → Value.okWide Try.prog W .any base t v := hval0
  have hW' := hW
  obtain ⟨p, q, hA0, hV, rfl, hfz, hnd⟩ := hW
  have hA : DataW.TrodAll enc Try.prog W 0 (fun _ => true) true Try.f7.params.toList args.toList ds p := hA0
  rw [Try.params7] at hA hval
  obtain ⟨v0, vs0, d0, ds0, p0, q0, hargs, rfl, rfl, h0, r0⟩ := trodAll_cons hA
  obtain ⟨v1, vs1, d1, ds1, p1, q1, rfl, rfl, rfl, h1, r1⟩ := trodAll_cons r0
  obtain ⟨v2, vs2, d2, ds2, p2, q2, rfl, rfl, rfl, h2, r2⟩ := trodAll_cons r1
  obtain ⟨v3, vs3, d3, ds3, p3, q3, rfl, rfl, rfl, h3, r3⟩ := trodAll_cons r2
  obtain ⟨rfl, rfl, rfl⟩ := trodAll_nil r3
  obtain rfl : args = #[v0, v1, v2, v3] := by cases args; simp_all
  obtain ⟨rfl, rfl⟩ := trodVars_none hV
  have k0 := h0
  have lt0 : ∀ x ∈ p0, x.block < W.heap.size := by obtain ⟨m, hm⟩ := k0; exact DataW.trod_lt m _ _ _ hm
  obtain ⟨s0, at0, rfl, hs0, hn0⟩ := open_source (hval 0 29 v0 rfl rfl) h0
  have k1 := h1
  have lt1 : ∀ x ∈ p1, x.block < W.heap.size := by obtain ⟨m, hm⟩ := k1; exact DataW.trod_lt m _ _ _ hm
  obtain ⟨r1_, rfl⟩ := open_ref (hval 1 35 v1 rfl rfl) h1
  have k2 := h2
  have lt2 : ∀ x ∈ p2, x.block < W.heap.size := by obtain ⟨m, hm⟩ := k2; exact DataW.trod_lt m _ _ _ hm
  obtain ⟨z2, rfl, rfl, rfl, wf2⟩ := open_int Try.underlying3 (hval 2 3 v2 rfl rfl) h2
  have k3 := h3
  have lt3 : ∀ x ∈ p3, x.block < W.heap.size := by obtain ⟨m, hm⟩ := k3; exact DataW.trod_lt m _ _ _ hm
  obtain ⟨z3, rfl, rfl, rfl, wf3⟩ := open_int Try.underlying3 (hval 3 3 v3 rfl rfl) h3
  clear hA0 hval0
  refine (walk s0 at0 r1_ z2 z3 W hs0 hn0 wf2 wf3).mono fun e W' ⟨he, bel⟩ => ?_
  subst he
  exact ⟨_, rfl, _, _, _, [], _, [], hW', trodAll_mk1 (shut_bool Try.underlying4 _), (trodAll_cons_mk (Below.trod laidOut (by kernel_rfl) (of_decide_eq_true (by kernel_rfl)) k0 bel lt0) (trodAll_cons_mk (Below.trod laidOut (by kernel_rfl) (of_decide_eq_true (by kernel_rfl)) k1 bel lt1) (trodAll_cons_mk (Below.trod laidOut (by kernel_rfl) (of_decide_eq_true (by kernel_rfl)) k2 bel lt2) (trodAll_cons_mk (Below.trod laidOut (by kernel_rfl) (of_decide_eq_true (by kernel_rfl)) k3 bel lt3) trodAll_mk0)))), rfl, bel.frame _, fun h => by cases h⟩

theorem over : Rows.typesOrderRow.holds Try.pinned (OpenSpec.ofChange Rows.typesOrderSpec) :=
  OpenClaim.holds_of_wide 7 Try.f7 rfl rfl rfl rfl rfl rfl rfl ⟨rfl, rfl, rfl, rfl, rfl⟩ rfl rfl rfl rfl rfl (by kernel_rfl) Try.func7 (by kernel_rfl)
    (of_decide_eq_true (by kernel_rfl)) (by unfold Func.isWrapper; first | (rw [if_pos (by decide +kernel)]; kernel_rfl) | (rw [if_neg (by decide +kernel)]; exact ⟨rfl, rfl⟩))
    (fun os started H enc _ => lifted os started H enc)
end typesOrder
theorem typesOrder_holds : Rows.TypesOrderSaid := typesOrder.over
#print axioms typesOrder_holds
end Go.Proofs.Ytogenjbabgibbaa

