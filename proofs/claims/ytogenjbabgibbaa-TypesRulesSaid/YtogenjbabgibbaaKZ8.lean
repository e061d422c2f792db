import Derived.Test.YtogenjbabgibbaaKZ7
namespace Go.Proofs.Ytogenjbabgibbaa
open Go.RowKit
def alikeB (s : SourceD) (a b : RefD) : Bool := match usable? s a with | some t => (match usable? s b with | some u => cmpB s.units t u | none => false) | none => false
theorem goodT_in {s : SourceD} {t : TyD} (h : goodT s t = true) : unitIn s.units t := fun _ => by
  unfold goodT at h
  simp only [Bool.and_eq_true] at h
  exact kindB_unit h.1
set_option maxRecDepth 20000 in
set_option maxHeartbeats 4000000 in
theorem alike_any (s : SourceD) (p : SrcAt) (ra rb : RefD) (w : World) (hs : Src w s p) (hsh : Short s) :
    Calls Try.prog 17 #[s.val p, ra.val, rb.val] w fun e w' => e = .returned (.bool (alikeB s ra rb)) ∧ Below w.heap.size w w' := by
  obtain ⟨a0, k0, a1, k1, a2, k2, a3, k3, a4, k4, a5, k5⟩ := p
  have Hs := Lib.hid hs
  clear hs
  go_enter Try.func17, Try.ntmps17
  go_wp2_with fail
  generalize hw0 : World.alloc _ _ = w0
  obtain ⟨X0, X1, X2, X3, hsz, hb0⟩ := blk4 hw0
  have x0 : w0.cell? ⟨w.heap.size, 0, none⟩ = some (.slice a0 s.issuers.length k0) := X0.cell 0
  have x1 : w0.cell? ⟨w.heap.size, 1, none⟩ = some (.slice a1 s.units.length k1) := X0.cell 1
  have x2 : w0.cell? ⟨w.heap.size, 2, none⟩ = some (.slice a2 s.schemas.length k2) := X0.cell 2
  have x3 : w0.cell? ⟨w.heap.size, 3, none⟩ = some (.slice a3 s.rules.length k3) := X0.cell 3
  have x4 : w0.cell? ⟨w.heap.size, 4, none⟩ = some (.slice a4 s.converts k4) := X0.cell 4
  have x5 : w0.cell? ⟨w.heap.size, 5, none⟩ = some (.slice a5 s.purposes.length k5) := X0.cell 5
  have hl_x : w.heap.size < w0.heap.size := by omega
  have p0 : w0.cell? ⟨w.heap.size + 1, 0, none⟩ = some (.string ra.name) := X1.cell 0
  have p1 : w0.cell? ⟨w.heap.size + 1, 1, none⟩ = some (.string ra.path) := X1.cell 1
  have p2 : w0.cell? ⟨w.heap.size + 1, 2, none⟩ = some (.int .i64 ra.schema) := X1.cell 2
  have p3 : w0.cell? ⟨w.heap.size + 1, 3, none⟩ = some (.int .i64 ra.field) := X1.cell 3
  have hl_p : w.heap.size + 1 < w0.heap.size := by omega
  have q0 : w0.cell? ⟨w.heap.size + 1 + 1, 0, none⟩ = some (.string rb.name) := X2.cell 0
  have q1 : w0.cell? ⟨w.heap.size + 1 + 1, 1, none⟩ = some (.string rb.path) := X2.cell 1
  have q2 : w0.cell? ⟨w.heap.size + 1 + 1, 2, none⟩ = some (.int .i64 rb.schema) := X2.cell 2
  have q3 : w0.cell? ⟨w.heap.size + 1 + 1, 3, none⟩ = some (.int .i64 rb.field) := X2.cell 3
  have hl_q : w.heap.size + 1 + 1 < w0.heap.size := by omega
  have y0 : w0.cell? ⟨w.heap.size + 1 + 1 + 1, 0, none⟩ = some (.slice a0 s.issuers.length k0) := X3.cell 0
  have y1 : w0.cell? ⟨w.heap.size + 1 + 1 + 1, 1, none⟩ = some (.slice a1 s.units.length k1) := X3.cell 1
  have y2 : w0.cell? ⟨w.heap.size + 1 + 1 + 1, 2, none⟩ = some (.slice a2 s.schemas.length k2) := X3.cell 2
  have y3 : w0.cell? ⟨w.heap.size + 1 + 1 + 1, 3, none⟩ = some (.slice a3 s.rules.length k3) := X3.cell 3
  have y4 : w0.cell? ⟨w.heap.size + 1 + 1 + 1, 4, none⟩ = some (.slice a4 s.converts k4) := X3.cell 4
  have y5 : w0.cell? ⟨w.heap.size + 1 + 1 + 1, 5, none⟩ = some (.slice a5 s.purposes.length k5) := X3.cell 5
  have hl_y : w.heap.size + 1 + 1 + 1 < w0.heap.size := by omega
  have hwl : w.heap.size ≤ w0.heap.size := hb0.size
  have Hb := Lib.hid hb0
  clear hw0 hb0 hsz X0 X1 X2 X3
  refine (usable_any s ⟨a0, k0, a1, k1, a2, k2, a3, k3, a4, k4, a5, k5⟩ ra _ (Hs.out.below Hb.out) _ (Below.refl _ _) hsh).mono ?_
  cases hu : usable? s ra with
  | none =>
    rintro e w1 ⟨⟨t, an, kn, rfl⟩, hb1⟩
    replace x0 := cell_kept hb1 x0 hl_x
    replace x1 := cell_kept hb1 x1 hl_x
    replace x2 := cell_kept hb1 x2 hl_x
    replace x3 := cell_kept hb1 x3 hl_x
    replace x4 := cell_kept hb1 x4 hl_x
    replace x5 := cell_kept hb1 x5 hl_x
    replace p0 := cell_kept hb1 p0 hl_p
    replace p1 := cell_kept hb1 p1 hl_p
    replace p2 := cell_kept hb1 p2 hl_p
    replace p3 := cell_kept hb1 p3 hl_p
    replace q0 := cell_kept hb1 q0 hl_q
    replace q1 := cell_kept hb1 q1 hl_q
    replace q2 := cell_kept hb1 q2 hl_q
    replace q3 := cell_kept hb1 q3 hl_q
    replace y0 := cell_kept hb1 y0 hl_y
    replace y1 := cell_kept hb1 y1 hl_y
    replace y2 := cell_kept hb1 y2 hl_y
    replace y3 := cell_kept hb1 y3 hl_y
    replace y4 := cell_kept hb1 y4 hl_y
    replace y5 := cell_kept hb1 y5 hl_y
    replace Hb := Lib.hid (Hb.out.trans (hb1.mono hwl))
    replace hl_x := Nat.lt_of_lt_of_le hl_x hb1.size
    replace hl_p := Nat.lt_of_lt_of_le hl_p hb1.size
    replace hl_q := Nat.lt_of_lt_of_le hl_q hb1.size
    replace hl_y := Nat.lt_of_lt_of_le hl_y hb1.size
    replace hwl := Nat.le_trans hwl hb1.size
    clear hb1
    go_wp2_with fail
    generalize hw0 : World.alloc _ _ = w2
    obtain ⟨X0, hsz, hb1⟩ := blk1 hw0
    have v0 : w2.cell? ⟨w1.heap.size, 0, none⟩ = some (.int .i64 t.kind) := X0.cell 0
    have v1 : w2.cell? ⟨w1.heap.size, 1, none⟩ = some (.int .i64 t.lo) := X0.cell 1
    have v2 : w2.cell? ⟨w1.heap.size, 2, none⟩ = some (.int .i64 t.hi) := X0.cell 2
    have v3 : w2.cell? ⟨w1.heap.size, 3, none⟩ = some (.string t.of_) := X0.cell 3
    have v4 : w2.cell? ⟨w1.heap.size, 4, none⟩ = some (.int .i64 t.unit) := X0.cell 4
    have v5 : w2.cell? ⟨w1.heap.size, 5, none⟩ = some (.slice an t.names.length kn) := X0.cell 5
    have hl_v : w1.heap.size < w2.heap.size := by omega
    replace x0 := cell_kept hb1 x0 hl_x
    replace x1 := cell_kept hb1 x1 hl_x
    replace x2 := cell_kept hb1 x2 hl_x
    replace x3 := cell_kept hb1 x3 hl_x
    replace x4 := cell_kept hb1 x4 hl_x
    replace x5 := cell_kept hb1 x5 hl_x
    replace p0 := cell_kept hb1 p0 hl_p
    replace p1 := cell_kept hb1 p1 hl_p
    replace p2 := cell_kept hb1 p2 hl_p
    replace p3 := cell_kept hb1 p3 hl_p
    replace q0 := cell_kept hb1 q0 hl_q
    replace q1 := cell_kept hb1 q1 hl_q
    replace q2 := cell_kept hb1 q2 hl_q
    replace q3 := cell_kept hb1 q3 hl_q
    replace y0 := cell_kept hb1 y0 hl_y
    replace y1 := cell_kept hb1 y1 hl_y
    replace y2 := cell_kept hb1 y2 hl_y
    replace y3 := cell_kept hb1 y3 hl_y
    replace y4 := cell_kept hb1 y4 hl_y
    replace y5 := cell_kept hb1 y5 hl_y
    replace Hb := Lib.hid (Hb.out.trans (hb1.mono hwl))
    replace hl_x := Nat.lt_of_lt_of_le hl_x hb1.size
    replace hl_p := Nat.lt_of_lt_of_le hl_p hb1.size
    replace hl_q := Nat.lt_of_lt_of_le hl_q hb1.size
    replace hl_y := Nat.lt_of_lt_of_le hl_y hb1.size
    replace hwl := Nat.le_trans hwl hb1.size
    clear hb1
    clear hw0 hsz X0
    refine (usable_any s ⟨a0, k0, a1, k1, a2, k2, a3, k3, a4, k4, a5, k5⟩ rb _ (Hs.out.below Hb.out) _ (Below.refl _ _) hsh).mono ?_
    have Hr := Lib.hid (show alikeB s ra rb = false by simp only [alikeB, hu])
    cases hu2 : usable? s rb with
    | none =>
      rintro e w3 ⟨⟨u, am, km, rfl⟩, hb1⟩
      replace x0 := cell_kept hb1 x0 hl_x
      replace x1 := cell_kept hb1 x1 hl_x
      replace x2 := cell_kept hb1 x2 hl_x
      replace x3 := cell_kept hb1 x3 hl_x
      replace x4 := cell_kept hb1 x4 hl_x
      replace x5 := cell_kept hb1 x5 hl_x
      replace p0 := cell_kept hb1 p0 hl_p
      replace p1 := cell_kept hb1 p1 hl_p
      replace p2 := cell_kept hb1 p2 hl_p
      replace p3 := cell_kept hb1 p3 hl_p
      replace q0 := cell_kept hb1 q0 hl_q
      replace q1 := cell_kept hb1 q1 hl_q
      replace q2 := cell_kept hb1 q2 hl_q
      replace q3 := cell_kept hb1 q3 hl_q
      replace y0 := cell_kept hb1 y0 hl_y
      replace y1 := cell_kept hb1 y1 hl_y
      replace y2 := cell_kept hb1 y2 hl_y
      replace y3 := cell_kept hb1 y3 hl_y
      replace y4 := cell_kept hb1 y4 hl_y
      replace y5 := cell_kept hb1 y5 hl_y
      replace v0 := cell_kept hb1 v0 hl_v
      replace v1 := cell_kept hb1 v1 hl_v
      replace v2 := cell_kept hb1 v2 hl_v
      replace v3 := cell_kept hb1 v3 hl_v
      replace v4 := cell_kept hb1 v4 hl_v
      replace v5 := cell_kept hb1 v5 hl_v
      replace Hb := Lib.hid (Hb.out.trans (hb1.mono hwl))
      replace hl_x := Nat.lt_of_lt_of_le hl_x hb1.size
      replace hl_p := Nat.lt_of_lt_of_le hl_p hb1.size
      replace hl_q := Nat.lt_of_lt_of_le hl_q hb1.size
      replace hl_y := Nat.lt_of_lt_of_le hl_y hb1.size
      replace hl_v := Nat.lt_of_lt_of_le hl_v hb1.size
      replace hwl := Nat.le_trans hwl hb1.size
      clear hb1
      go_wp2_with fail
      go_ret
      exact ⟨ret_bool Hr.out.symm, Hb.out.alloc hwl _⟩
    | some u =>
      rintro e w3 ⟨⟨am, km, rfl, hnu⟩, hb1⟩
      clear hnu
      replace x0 := cell_kept hb1 x0 hl_x
      replace x1 := cell_kept hb1 x1 hl_x
      replace x2 := cell_kept hb1 x2 hl_x
      replace x3 := cell_kept hb1 x3 hl_x
      replace x4 := cell_kept hb1 x4 hl_x
      replace x5 := cell_kept hb1 x5 hl_x
      replace p0 := cell_kept hb1 p0 hl_p
      replace p1 := cell_kept hb1 p1 hl_p
      replace p2 := cell_kept hb1 p2 hl_p
      replace p3 := cell_kept hb1 p3 hl_p
      replace q0 := cell_kept hb1 q0 hl_q
      replace q1 := cell_kept hb1 q1 hl_q
      replace q2 := cell_kept hb1 q2 hl_q
      replace q3 := cell_kept hb1 q3 hl_q
      replace y0 := cell_kept hb1 y0 hl_y
      replace y1 := cell_kept hb1 y1 hl_y
      replace y2 := cell_kept hb1 y2 hl_y
      replace y3 := cell_kept hb1 y3 hl_y
      replace y4 := cell_kept hb1 y4 hl_y
      replace y5 := cell_kept hb1 y5 hl_y
      replace v0 := cell_kept hb1 v0 hl_v
      replace v1 := cell_kept hb1 v1 hl_v
      replace v2 := cell_kept hb1 v2 hl_v
      replace v3 := cell_kept hb1 v3 hl_v
      replace v4 := cell_kept hb1 v4 hl_v
      replace v5 := cell_kept hb1 v5 hl_v
      replace Hb := Lib.hid (Hb.out.trans (hb1.mono hwl))
      replace hl_x := Nat.lt_of_lt_of_le hl_x hb1.size
      replace hl_p := Nat.lt_of_lt_of_le hl_p hb1.size
      replace hl_q := Nat.lt_of_lt_of_le hl_q hb1.size
      replace hl_y := Nat.lt_of_lt_of_le hl_y hb1.size
      replace hl_v := Nat.lt_of_lt_of_le hl_v hb1.size
      replace hwl := Nat.le_trans hwl hb1.size
      clear hb1
      go_wp2_with fail
      go_ret
      exact ⟨ret_bool Hr.out.symm, Hb.out.alloc hwl _⟩
  | some t =>
    rintro e w1 ⟨⟨an, kn, rfl, hnt⟩, hb1⟩
    obtain ⟨hty, hgt⟩ := usable_facts hu
    have hlt := hsh _ _ _ hty
    have Hnt := Lib.hid (hnt.below RStr.stab hb1)
    clear hnt hty
    replace x0 := cell_kept hb1 x0 hl_x
    replace x1 := cell_kept hb1 x1 hl_x
    replace x2 := cell_kept hb1 x2 hl_x
    replace x3 := cell_kept hb1 x3 hl_x
    replace x4 := cell_kept hb1 x4 hl_x
    replace x5 := cell_kept hb1 x5 hl_x
    replace p0 := cell_kept hb1 p0 hl_p
    replace p1 := cell_kept hb1 p1 hl_p
    replace p2 := cell_kept hb1 p2 hl_p
    replace p3 := cell_kept hb1 p3 hl_p
    replace q0 := cell_kept hb1 q0 hl_q
    replace q1 := cell_kept hb1 q1 hl_q
    replace q2 := cell_kept hb1 q2 hl_q
    replace q3 := cell_kept hb1 q3 hl_q
    replace y0 := cell_kept hb1 y0 hl_y
    replace y1 := cell_kept hb1 y1 hl_y
    replace y2 := cell_kept hb1 y2 hl_y
    replace y3 := cell_kept hb1 y3 hl_y
    replace y4 := cell_kept hb1 y4 hl_y
    replace y5 := cell_kept hb1 y5 hl_y
    replace Hb := Lib.hid (Hb.out.trans (hb1.mono hwl))
    replace hl_x := Nat.lt_of_lt_of_le hl_x hb1.size
    replace hl_p := Nat.lt_of_lt_of_le hl_p hb1.size
    replace hl_q := Nat.lt_of_lt_of_le hl_q hb1.size
    replace hl_y := Nat.lt_of_lt_of_le hl_y hb1.size
    replace hwl := Nat.le_trans hwl hb1.size
    clear hb1
    go_wp2_with fail
    generalize hw0 : World.alloc _ _ = w2
    obtain ⟨X0, hsz, hb1⟩ := blk1 hw0
    have v0 : w2.cell? ⟨w1.heap.size, 0, none⟩ = some (.int .i64 t.kind) := X0.cell 0
    have v1 : w2.cell? ⟨w1.heap.size, 1, none⟩ = some (.int .i64 t.lo) := X0.cell 1
    have v2 : w2.cell? ⟨w1.heap.size, 2, none⟩ = some (.int .i64 t.hi) := X0.cell 2
    have v3 : w2.cell? ⟨w1.heap.size, 3, none⟩ = some (.string t.of_) := X0.cell 3
    have v4 : w2.cell? ⟨w1.heap.size, 4, none⟩ = some (.int .i64 t.unit) := X0.cell 4
    have v5 : w2.cell? ⟨w1.heap.size, 5, none⟩ = some (.slice an t.names.length kn) := X0.cell 5
    have hl_v : w1.heap.size < w2.heap.size := by omega
    replace x0 := cell_kept hb1 x0 hl_x
    replace x1 := cell_kept hb1 x1 hl_x
    replace x2 := cell_kept hb1 x2 hl_x
    replace x3 := cell_kept hb1 x3 hl_x
    replace x4 := cell_kept hb1 x4 hl_x
    replace x5 := cell_kept hb1 x5 hl_x
    replace p0 := cell_kept hb1 p0 hl_p
    replace p1 := cell_kept hb1 p1 hl_p
    replace p2 := cell_kept hb1 p2 hl_p
    replace p3 := cell_kept hb1 p3 hl_p
    replace q0 := cell_kept hb1 q0 hl_q
    replace q1 := cell_kept hb1 q1 hl_q
    replace q2 := cell_kept hb1 q2 hl_q
    replace q3 := cell_kept hb1 q3 hl_q
    replace y0 := cell_kept hb1 y0 hl_y
    replace y1 := cell_kept hb1 y1 hl_y
    replace y2 := cell_kept hb1 y2 hl_y
    replace y3 := cell_kept hb1 y3 hl_y
    replace y4 := cell_kept hb1 y4 hl_y
    replace y5 := cell_kept hb1 y5 hl_y
    replace Hb := Lib.hid (Hb.out.trans (hb1.mono hwl))
    replace hl_x := Nat.lt_of_lt_of_le hl_x hb1.size
    replace hl_p := Nat.lt_of_lt_of_le hl_p hb1.size
    replace hl_q := Nat.lt_of_lt_of_le hl_q hb1.size
    replace hl_y := Nat.lt_of_lt_of_le hl_y hb1.size
    replace hwl := Nat.le_trans hwl hb1.size
    replace Hnt := Lib.hid (Hnt.out.below RStr.stab hb1)
    clear hb1
    clear hw0 hsz X0
    refine (usable_any s ⟨a0, k0, a1, k1, a2, k2, a3, k3, a4, k4, a5, k5⟩ rb _ (Hs.out.below Hb.out) _ (Below.refl _ _) hsh).mono ?_
    cases hu2 : usable? s rb with
    | none =>
      have Hr := Lib.hid (show alikeB s ra rb = false by simp only [alikeB, hu, hu2])
      rintro e w3 ⟨⟨u, am, km, rfl⟩, hb1⟩
      replace x0 := cell_kept hb1 x0 hl_x
      replace x1 := cell_kept hb1 x1 hl_x
      replace x2 := cell_kept hb1 x2 hl_x
      replace x3 := cell_kept hb1 x3 hl_x
      replace x4 := cell_kept hb1 x4 hl_x
      replace x5 := cell_kept hb1 x5 hl_x
      replace p0 := cell_kept hb1 p0 hl_p
      replace p1 := cell_kept hb1 p1 hl_p
      replace p2 := cell_kept hb1 p2 hl_p
      replace p3 := cell_kept hb1 p3 hl_p
      replace q0 := cell_kept hb1 q0 hl_q
      replace q1 := cell_kept hb1 q1 hl_q
      replace q2 := cell_kept hb1 q2 hl_q
      replace q3 := cell_kept hb1 q3 hl_q
      replace y0 := cell_kept hb1 y0 hl_y
      replace y1 := cell_kept hb1 y1 hl_y
      replace y2 := cell_kept hb1 y2 hl_y
      replace y3 := cell_kept hb1 y3 hl_y
      replace y4 := cell_kept hb1 y4 hl_y
      replace y5 := cell_kept hb1 y5 hl_y
      replace v0 := cell_kept hb1 v0 hl_v
      replace v1 := cell_kept hb1 v1 hl_v
      replace v2 := cell_kept hb1 v2 hl_v
      replace v3 := cell_kept hb1 v3 hl_v
      replace v4 := cell_kept hb1 v4 hl_v
      replace v5 := cell_kept hb1 v5 hl_v
      replace Hb := Lib.hid (Hb.out.trans (hb1.mono hwl))
      replace hl_x := Nat.lt_of_lt_of_le hl_x hb1.size
      replace hl_p := Nat.lt_of_lt_of_le hl_p hb1.size
      replace hl_q := Nat.lt_of_lt_of_le hl_q hb1.size
      replace hl_y := Nat.lt_of_lt_of_le hl_y hb1.size
      replace hl_v := Nat.lt_of_lt_of_le hl_v hb1.size
      replace hwl := Nat.le_trans hwl hb1.size
      clear hb1
      go_wp2_with fail
      go_ret
      exact ⟨ret_bool Hr.out.symm, Hb.out.alloc hwl _⟩
    | some u =>
      have Hr := Lib.hid (show alikeB s ra rb = cmpB s.units t u by simp only [alikeB, hu, hu2])
      rintro e w3 ⟨⟨am, km, rfl, hnu⟩, hb1⟩
      obtain ⟨hty2, hgu⟩ := usable_facts hu2
      have Hnu := Lib.hid (hnu.below RStr.stab hb1)
      have Hgt := Lib.hid (goodT_in hgt)
      have Hgu := Lib.hid (goodT_in hgu)
      clear hnu hty2 hu hu2 hgt hgu
      replace x0 := cell_kept hb1 x0 hl_x
      replace x1 := cell_kept hb1 x1 hl_x
      replace x2 := cell_kept hb1 x2 hl_x
      replace x3 := cell_kept hb1 x3 hl_x
      replace x4 := cell_kept hb1 x4 hl_x
      replace x5 := cell_kept hb1 x5 hl_x
      replace p0 := cell_kept hb1 p0 hl_p
      replace p1 := cell_kept hb1 p1 hl_p
      replace p2 := cell_kept hb1 p2 hl_p
      replace p3 := cell_kept hb1 p3 hl_p
      replace q0 := cell_kept hb1 q0 hl_q
      replace q1 := cell_kept hb1 q1 hl_q
      replace q2 := cell_kept hb1 q2 hl_q
      replace q3 := cell_kept hb1 q3 hl_q
      replace y0 := cell_kept hb1 y0 hl_y
      replace y1 := cell_kept hb1 y1 hl_y
      replace y2 := cell_kept hb1 y2 hl_y
      replace y3 := cell_kept hb1 y3 hl_y
      replace y4 := cell_kept hb1 y4 hl_y
      replace y5 := cell_kept hb1 y5 hl_y
      replace v0 := cell_kept hb1 v0 hl_v
      replace v1 := cell_kept hb1 v1 hl_v
      replace v2 := cell_kept hb1 v2 hl_v
      replace v3 := cell_kept hb1 v3 hl_v
      replace v4 := cell_kept hb1 v4 hl_v
      replace v5 := cell_kept hb1 v5 hl_v
      replace Hb := Lib.hid (Hb.out.trans (hb1.mono hwl))
      replace hl_x := Nat.lt_of_lt_of_le hl_x hb1.size
      replace hl_p := Nat.lt_of_lt_of_le hl_p hb1.size
      replace hl_q := Nat.lt_of_lt_of_le hl_q hb1.size
      replace hl_y := Nat.lt_of_lt_of_le hl_y hb1.size
      replace hl_v := Nat.lt_of_lt_of_le hl_v hb1.size
      replace hwl := Nat.le_trans hwl hb1.size
      replace Hnt := Lib.hid (Hnt.out.below RStr.stab hb1)
      clear hb1
      go_wp2_with fail
      generalize hw0 : World.alloc _ _ = w4
      obtain ⟨X0, hsz, hb1⟩ := blk1 hw0
      have u0 : w4.cell? ⟨w3.heap.size, 0, none⟩ = some (.int .i64 u.kind) := X0.cell 0
      have u1 : w4.cell? ⟨w3.heap.size, 1, none⟩ = some (.int .i64 u.lo) := X0.cell 1
      have u2 : w4.cell? ⟨w3.heap.size, 2, none⟩ = some (.int .i64 u.hi) := X0.cell 2
      have u3 : w4.cell? ⟨w3.heap.size, 3, none⟩ = some (.string u.of_) := X0.cell 3
      have u4 : w4.cell? ⟨w3.heap.size, 4, none⟩ = some (.int .i64 u.unit) := X0.cell 4
      have u5 : w4.cell? ⟨w3.heap.size, 5, none⟩ = some (.slice am u.names.length km) := X0.cell 5
      have hl_u : w3.heap.size < w4.heap.size := by omega
      replace x0 := cell_kept hb1 x0 hl_x
      replace x1 := cell_kept hb1 x1 hl_x
      replace x2 := cell_kept hb1 x2 hl_x
      replace x3 := cell_kept hb1 x3 hl_x
      replace x4 := cell_kept hb1 x4 hl_x
      replace x5 := cell_kept hb1 x5 hl_x
      replace p0 := cell_kept hb1 p0 hl_p
      replace p1 := cell_kept hb1 p1 hl_p
      replace p2 := cell_kept hb1 p2 hl_p
      replace p3 := cell_kept hb1 p3 hl_p
      replace q0 := cell_kept hb1 q0 hl_q
      replace q1 := cell_kept hb1 q1 hl_q
      replace q2 := cell_kept hb1 q2 hl_q
      replace q3 := cell_kept hb1 q3 hl_q
      replace y0 := cell_kept hb1 y0 hl_y
      replace y1 := cell_kept hb1 y1 hl_y
      replace y2 := cell_kept hb1 y2 hl_y
      replace y3 := cell_kept hb1 y3 hl_y
      replace y4 := cell_kept hb1 y4 hl_y
      replace y5 := cell_kept hb1 y5 hl_y
      replace v0 := cell_kept hb1 v0 hl_v
      replace v1 := cell_kept hb1 v1 hl_v
      replace v2 := cell_kept hb1 v2 hl_v
      replace v3 := cell_kept hb1 v3 hl_v
      replace v4 := cell_kept hb1 v4 hl_v
      replace v5 := cell_kept hb1 v5 hl_v
      replace Hb := Lib.hid (Hb.out.trans (hb1.mono hwl))
      replace hl_x := Nat.lt_of_lt_of_le hl_x hb1.size
      replace hl_p := Nat.lt_of_lt_of_le hl_p hb1.size
      replace hl_q := Nat.lt_of_lt_of_le hl_q hb1.size
      replace hl_y := Nat.lt_of_lt_of_le hl_y hb1.size
      replace hl_v := Nat.lt_of_lt_of_le hl_v hb1.size
      replace hwl := Nat.le_trans hwl hb1.size
      replace Hnt := Lib.hid (Hnt.out.below RStr.stab hb1)
      replace Hnu := Lib.hid (Hnu.out.below RStr.stab hb1)
      clear hb1
      clear hw0 hsz X0
      refine (cmp_any s ⟨a0, k0, a1, k1, a2, k2, a3, k3, a4, k4, a5, k5⟩ t u an am kn km _ (Hs.out.below Hb.out) Hnt.out Hnu.out hlt Hgt.out Hgu.out).mono ?_
      rintro e w5 ⟨rfl, hb1⟩
      replace x0 := cell_kept hb1 x0 hl_x
      replace x1 := cell_kept hb1 x1 hl_x
      replace x2 := cell_kept hb1 x2 hl_x
      replace x3 := cell_kept hb1 x3 hl_x
      replace x4 := cell_kept hb1 x4 hl_x
      replace x5 := cell_kept hb1 x5 hl_x
      replace p0 := cell_kept hb1 p0 hl_p
      replace p1 := cell_kept hb1 p1 hl_p
      replace p2 := cell_kept hb1 p2 hl_p
      replace p3 := cell_kept hb1 p3 hl_p
      replace q0 := cell_kept hb1 q0 hl_q
      replace q1 := cell_kept hb1 q1 hl_q
      replace q2 := cell_kept hb1 q2 hl_q
      replace q3 := cell_kept hb1 q3 hl_q
      replace y0 := cell_kept hb1 y0 hl_y
      replace y1 := cell_kept hb1 y1 hl_y
      replace y2 := cell_kept hb1 y2 hl_y
      replace y3 := cell_kept hb1 y3 hl_y
      replace y4 := cell_kept hb1 y4 hl_y
      replace y5 := cell_kept hb1 y5 hl_y
      replace v0 := cell_kept hb1 v0 hl_v
      replace v1 := cell_kept hb1 v1 hl_v
      replace v2 := cell_kept hb1 v2 hl_v
      replace v3 := cell_kept hb1 v3 hl_v
      replace v4 := cell_kept hb1 v4 hl_v
      replace v5 := cell_kept hb1 v5 hl_v
      replace u0 := cell_kept hb1 u0 hl_u
      replace u1 := cell_kept hb1 u1 hl_u
      replace u2 := cell_kept hb1 u2 hl_u
      replace u3 := cell_kept hb1 u3 hl_u
      replace u4 := cell_kept hb1 u4 hl_u
      replace u5 := cell_kept hb1 u5 hl_u
      replace Hb := Lib.hid (Hb.out.trans (hb1.mono hwl))
      replace hl_x := Nat.lt_of_lt_of_le hl_x hb1.size
      replace hl_p := Nat.lt_of_lt_of_le hl_p hb1.size
      replace hl_q := Nat.lt_of_lt_of_le hl_q hb1.size
      replace hl_y := Nat.lt_of_lt_of_le hl_y hb1.size
      replace hl_v := Nat.lt_of_lt_of_le hl_v hb1.size
      replace hl_u := Nat.lt_of_lt_of_le hl_u hb1.size
      replace hwl := Nat.le_trans hwl hb1.size
      clear hb1
      go_wp2
      go_ret
      exact ⟨ret_bool Hr.out.symm, Hb.out⟩
end Go.Proofs.Ytogenjbabgibbaa
