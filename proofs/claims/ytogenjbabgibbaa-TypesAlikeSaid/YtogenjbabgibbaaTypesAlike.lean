/- TypesAlike: for every source and three refs the law returns true and leaves its arguments as they were. No condition. -/
import Derived.Test.YtogenjbabgibbaaKL3
namespace Go.Proofs.Ytogenjbabgibbaa
open Go.ChangeShapes Go.WideShapes Go.ChangeAt Go.RowKit
namespace typesAlike
set_option maxRecDepth 20000 in
set_option maxHeartbeats 4000000 in
theorem walk_few (s : SourceD) (p : SrcAt) (ra rb rc : RefD) (w : World) (hs : Src w s p) (hn : Lens s) (hfew : fewB s = false) :
    Calls Try.prog 6 #[s.val p, ra.val, rb.val, rc.val] w fun e w' => e = .returned (.bool true) ∧ Below w.heap.size w w' := by
  obtain ⟨a0, k0, a1, k1, a2, k2, a3, k3, a4, k4, a5, k5⟩ := p
  have Hs := Lib.hid hs
  clear hs
  go_enter Try.func6, Try.ntmps6
  go_wp2_with fail
  generalize hw0 : World.alloc _ _ = w0
  obtain ⟨X0, X1, X2, X3, hsz, hb0⟩ := blk4 hw0
  have x0 : w0.cell? ⟨w.heap.size, 0, none⟩ = some (.slice a0 s.issuers.length k0) := X0.cell 0
  have x1 : w0.cell? ⟨w.heap.size, 1, none⟩ = some (.slice a1 s.units.length k1) := X0.cell 1
  have x2 : w0.cell? ⟨w.heap.size, 2, none⟩ = some (.slice a2 s.schemas.length k2) := X0.cell 2
  have x3 : w0.cell? ⟨w.heap.size, 3, none⟩ = some (.slice a3 s.rules.length k3) := X0.cell 3
  have x4 : w0.cell? ⟨w.heap.size, 4, none⟩ = some (.slice a4 s.converts k4) := X0.cell 4
  have x5 : w0.cell? ⟨w.heap.size, 5, none⟩ = some (.slice a5 s.purposes.length k5) := X0.cell 5
  have hl_x : w.heap.size < w0.heap.size := by omega
  have p0 : w0.cell? ⟨w.heap.size + 1, 0, none⟩ = some (.string ra.name) := X1.cell 0
  have p1 : w0.cell? ⟨w.heap.size + 1, 1, none⟩ = some (.string ra.path) := X1.cell 1
  have p2 : w0.cell? ⟨w.heap.size + 1, 2, none⟩ = some (.int .i64 ra.schema) := X1.cell 2
  have p3 : w0.cell? ⟨w.heap.size + 1, 3, none⟩ = some (.int .i64 ra.field) := X1.cell 3
  have hl_p : w.heap.size + 1 < w0.heap.size := by omega
  have q0 : w0.cell? ⟨w.heap.size + 1 + 1, 0, none⟩ = some (.string rb.name) := X2.cell 0
  have q1 : w0.cell? ⟨w.heap.size + 1 + 1, 1, none⟩ = some (.string rb.path) := X2.cell 1
  have q2 : w0.cell? ⟨w.heap.size + 1 + 1, 2, none⟩ = some (.int .i64 rb.schema) := X2.cell 2
  have q3 : w0.cell? ⟨w.heap.size + 1 + 1, 3, none⟩ = some (.int .i64 rb.field) := X2.cell 3
  have hl_q : w.heap.size + 1 + 1 < w0.heap.size := by omega
  have r0 : w0.cell? ⟨w.heap.size + 1 + 1 + 1, 0, none⟩ = some (.string rc.name) := X3.cell 0
  have r1 : w0.cell? ⟨w.heap.size + 1 + 1 + 1, 1, none⟩ = some (.string rc.path) := X3.cell 1
  have r2 : w0.cell? ⟨w.heap.size + 1 + 1 + 1, 2, none⟩ = some (.int .i64 rc.schema) := X3.cell 2
  have r3 : w0.cell? ⟨w.heap.size + 1 + 1 + 1, 3, none⟩ = some (.int .i64 rc.field) := X3.cell 3
  have hl_r : w.heap.size + 1 + 1 + 1 < w0.heap.size := by omega
  have hwl : w.heap.size ≤ w0.heap.size := hb0.size
  have Hb := Lib.hid hb0
  clear hw0 hb0 hsz X0 X1 X2 X3
  refine (sane_any _).mono ?_
  rintro e w1 ⟨rfl, hb1⟩
  replace x0 := cell_kept hb1 x0 hl_x
  replace x1 := cell_kept hb1 x1 hl_x
  replace x2 := cell_kept hb1 x2 hl_x
  replace x3 := cell_kept hb1 x3 hl_x
  replace x4 := cell_kept hb1 x4 hl_x
  replace x5 := cell_kept hb1 x5 hl_x
  replace p0 := cell_kept hb1 p0 hl_p
  replace p1 := cell_kept hb1 p1 hl_p
  replace p2 := cell_kept hb1 p2 hl_p
  replace p3 := cell_kept hb1 p3 hl_p
  replace q0 := cell_kept hb1 q0 hl_q
  replace q1 := cell_kept hb1 q1 hl_q
  replace q2 := cell_kept hb1 q2 hl_q
  replace q3 := cell_kept hb1 q3 hl_q
  replace r0 := cell_kept hb1 r0 hl_r
  replace r1 := cell_kept hb1 r1 hl_r
  replace r2 := cell_kept hb1 r2 hl_r
  replace r3 := cell_kept hb1 r3 hl_r
  replace Hb := Lib.hid (Hb.out.trans (hb1.mono hwl))
  replace hl_x := Nat.lt_of_lt_of_le hl_x hb1.size
  replace hl_p := Nat.lt_of_lt_of_le hl_p hb1.size
  replace hl_q := Nat.lt_of_lt_of_le hl_q hb1.size
  replace hl_r := Nat.lt_of_lt_of_le hl_r hb1.size
  replace hwl := Nat.le_trans hwl hb1.size
  clear hb1
  go_wp2_with fail
  refine (few_q s ⟨a0, k0, a1, k1, a2, k2, a3, k3, a4, k4, a5, k5⟩ _ (Hs.out.below Hb.out) hn false hfew).mono ?_
  rintro e w2 ⟨rfl, hb1⟩
  replace x0 := cell_kept hb1 x0 hl_x
  replace x1 := cell_kept hb1 x1 hl_x
  replace x2 := cell_kept hb1 x2 hl_x
  replace x3 := cell_kept hb1 x3 hl_x
  replace x4 := cell_kept hb1 x4 hl_x
  replace x5 := cell_kept hb1 x5 hl_x
  replace p0 := cell_kept hb1 p0 hl_p
  replace p1 := cell_kept hb1 p1 hl_p
  replace p2 := cell_kept hb1 p2 hl_p
  replace p3 := cell_kept hb1 p3 hl_p
  replace q0 := cell_kept hb1 q0 hl_q
  replace q1 := cell_kept hb1 q1 hl_q
  replace q2 := cell_kept hb1 q2 hl_q
  replace q3 := cell_kept hb1 q3 hl_q
  replace r0 := cell_kept hb1 r0 hl_r
  replace r1 := cell_kept hb1 r1 hl_r
  replace r2 := cell_kept hb1 r2 hl_r
  replace r3 := cell_kept hb1 r3 hl_r
  replace Hb := Lib.hid (Hb.out.trans (hb1.mono hwl))
  replace hl_x := Nat.lt_of_lt_of_le hl_x hb1.size
  replace hl_p := Nat.lt_of_lt_of_le hl_p hb1.size
  replace hl_q := Nat.lt_of_lt_of_le hl_q hb1.size
  replace hl_r := Nat.lt_of_lt_of_le hl_r hb1.size
  replace hwl := Nat.le_trans hwl hb1.size
  clear hb1
  go_wp2
  go_ret
  exact ⟨rfl, Hb.out⟩

set_option maxRecDepth 20000 in
set_option maxHeartbeats 4000000 in
theorem walk_F_n1 (s : SourceD) (p : SrcAt) (ra rb rc : RefD) (w : World) (hs : Src w s p) (hn : Lens s) (hfew : fewB s = true) (bc : Bool) (hab : alikeB s ra rb = false) (hbc : alikeB s rb rc = bc) (hac : alikeB s ra rc = false) (h1 : ra.schema < 0) :
    Calls Try.prog 6 #[s.val p, ra.val, rb.val, rc.val] w fun e w' => e = .returned (.bool true) ∧ Below w.heap.size w w' := by
  have hsh := (few_of hfew).short
  have Hab := Lib.hid hab
  have Hbc := Lib.hid hbc
  have Hac := Lib.hid hac
  clear hab hbc hac
  have d1 : decide ((0 : Int) ≤ ra.schema) = false := decide_eq_false (by omega)
  obtain ⟨a0, k0, a1, k1, a2, k2, a3, k3, a4, k4, a5, k5⟩ := p
  have Hs := Lib.hid hs
  clear hs
  go_enter Try.func6, Try.ntmps6
  go_wp2_with fail
  generalize hw0 : World.alloc _ _ = w0
  obtain ⟨X0, X1, X2, X3, hsz, hb0⟩ := blk4 hw0
  have x0 : w0.cell? ⟨w.heap.size, 0, none⟩ = some (.slice a0 s.issuers.length k0) := X0.cell 0
  have x1 : w0.cell? ⟨w.heap.size, 1, none⟩ = some (.slice a1 s.units.length k1) := X0.cell 1
  have x2 : w0.cell? ⟨w.heap.size, 2, none⟩ = some (.slice a2 s.schemas.length k2) := X0.cell 2
  have x3 : w0.cell? ⟨w.heap.size, 3, none⟩ = some (.slice a3 s.rules.length k3) := X0.cell 3
  have x4 : w0.cell? ⟨w.heap.size, 4, none⟩ = some (.slice a4 s.converts k4) := X0.cell 4
  have x5 : w0.cell? ⟨w.heap.size, 5, none⟩ = some (.slice a5 s.purposes.length k5) := X0.cell 5
  have hl_x : w.heap.size < w0.heap.size := by omega
  have p0 : w0.cell? ⟨w.heap.size + 1, 0, none⟩ = some (.string ra.name) := X1.cell 0
  have p1 : w0.cell? ⟨w.heap.size + 1, 1, none⟩ = some (.string ra.path) := X1.cell 1
  have p2 : w0.cell? ⟨w.heap.size + 1, 2, none⟩ = some (.int .i64 ra.schema) := X1.cell 2
  have p3 : w0.cell? ⟨w.heap.size + 1, 3, none⟩ = some (.int .i64 ra.field) := X1.cell 3
  have hl_p : w.heap.size + 1 < w0.heap.size := by omega
  have q0 : w0.cell? ⟨w.heap.size + 1 + 1, 0, none⟩ = some (.string rb.name) := X2.cell 0
  have q1 : w0.cell? ⟨w.heap.size + 1 + 1, 1, none⟩ = some (.string rb.path) := X2.cell 1
  have q2 : w0.cell? ⟨w.heap.size + 1 + 1, 2, none⟩ = some (.int .i64 rb.schema) := X2.cell 2
  have q3 : w0.cell? ⟨w.heap.size + 1 + 1, 3, none⟩ = some (.int .i64 rb.field) := X2.cell 3
  have hl_q : w.heap.size + 1 + 1 < w0.heap.size := by omega
  have r0 : w0.cell? ⟨w.heap.size + 1 + 1 + 1, 0, none⟩ = some (.string rc.name) := X3.cell 0
  have r1 : w0.cell? ⟨w.heap.size + 1 + 1 + 1, 1, none⟩ = some (.string rc.path) := X3.cell 1
  have r2 : w0.cell? ⟨w.heap.size + 1 + 1 + 1, 2, none⟩ = some (.int .i64 rc.schema) := X3.cell 2
  have r3 : w0.cell? ⟨w.heap.size + 1 + 1 + 1, 3, none⟩ = some (.int .i64 rc.field) := X3.cell 3
  have hl_r : w.heap.size + 1 + 1 + 1 < w0.heap.size := by omega
  have hwl : w.heap.size ≤ w0.heap.size := hb0.size
  have Hb := Lib.hid hb0
  clear hw0 hb0 hsz X0 X1 X2 X3
  refine (sane_any _).mono ?_
  rintro e w1 ⟨rfl, hb1⟩
  replace x0 := cell_kept hb1 x0 hl_x
  replace x1 := cell_kept hb1 x1 hl_x
  replace x2 := cell_kept hb1 x2 hl_x
  replace x3 := cell_kept hb1 x3 hl_x
  replace x4 := cell_kept hb1 x4 hl_x
  replace x5 := cell_kept hb1 x5 hl_x
  replace p0 := cell_kept hb1 p0 hl_p
  replace p1 := cell_kept hb1 p1 hl_p
  replace p2 := cell_kept hb1 p2 hl_p
  replace p3 := cell_kept hb1 p3 hl_p
  replace q0 := cell_kept hb1 q0 hl_q
  replace q1 := cell_kept hb1 q1 hl_q
  replace q2 := cell_kept hb1 q2 hl_q
  replace q3 := cell_kept hb1 q3 hl_q
  replace r0 := cell_kept hb1 r0 hl_r
  replace r1 := cell_kept hb1 r1 hl_r
  replace r2 := cell_kept hb1 r2 hl_r
  replace r3 := cell_kept hb1 r3 hl_r
  replace Hb := Lib.hid (Hb.out.trans (hb1.mono hwl))
  replace hl_x := Nat.lt_of_lt_of_le hl_x hb1.size
  replace hl_p := Nat.lt_of_lt_of_le hl_p hb1.size
  replace hl_q := Nat.lt_of_lt_of_le hl_q hb1.size
  replace hl_r := Nat.lt_of_lt_of_le hl_r hb1.size
  replace hwl := Nat.le_trans hwl hb1.size
  clear hb1
  go_wp2_with fail
  refine (few_q s ⟨a0, k0, a1, k1, a2, k2, a3, k3, a4, k4, a5, k5⟩ _ (Hs.out.below Hb.out) hn true hfew).mono ?_
  rintro e w2 ⟨rfl, hb1⟩
  replace x0 := cell_kept hb1 x0 hl_x
  replace x1 := cell_kept hb1 x1 hl_x
  replace x2 := cell_kept hb1 x2 hl_x
  replace x3 := cell_kept hb1 x3 hl_x
  replace x4 := cell_kept hb1 x4 hl_x
  replace x5 := cell_kept hb1 x5 hl_x
  replace p0 := cell_kept hb1 p0 hl_p
  replace p1 := cell_kept hb1 p1 hl_p
  replace p2 := cell_kept hb1 p2 hl_p
  replace p3 := cell_kept hb1 p3 hl_p
  replace q0 := cell_kept hb1 q0 hl_q
  replace q1 := cell_kept hb1 q1 hl_q
  replace q2 := cell_kept hb1 q2 hl_q
  replace q3 := cell_kept hb1 q3 hl_q
  replace r0 := cell_kept hb1 r0 hl_r
  replace r1 := cell_kept hb1 r1 hl_r
  replace r2 := cell_kept hb1 r2 hl_r
  replace r3 := cell_kept hb1 r3 hl_r
  replace Hb := Lib.hid (Hb.out.trans (hb1.mono hwl))
  replace hl_x := Nat.lt_of_lt_of_le hl_x hb1.size
  replace hl_p := Nat.lt_of_lt_of_le hl_p hb1.size
  replace hl_q := Nat.lt_of_lt_of_le hl_q hb1.size
  replace hl_r := Nat.lt_of_lt_of_le hl_r hb1.size
  replace hwl := Nat.le_trans hwl hb1.size
  clear hb1
  go_wp2_with fail
  refine wp_region_grown (by kernel_rfl) (by kernel_rfl) ?_
  repeat (go_big_quiet_step (first | (go_at_call_of 17 (ra.schema); go_at_call_of 17 (rb.schema); exact calls_grown (alike_eq s ⟨a0, k0, a1, k1, a2, k2, a3, k3, a4, k4, a5, k5⟩ ra rb _ (Hs.out.below (Hb.out.trans ((grown_below _ _).mono hwl))) hsh false Hab.out)) | (go_at_call_of 17 (rb.schema); go_at_call_of 17 (rc.schema); exact calls_grown (alike_eq s ⟨a0, k0, a1, k1, a2, k2, a3, k3, a4, k4, a5, k5⟩ rb rc _ (Hs.out.below (Hb.out.trans ((grown_below _ _).mono hwl))) hsh bc Hbc.out)) | (go_at_call_of 17 (ra.schema); go_at_call_of 17 (rc.schema); exact calls_grown (alike_eq s ⟨a0, k0, a1, k1, a2, k2, a3, k3, a4, k4, a5, k5⟩ ra rc _ (Hs.out.below (Hb.out.trans ((grown_below _ _).mono hwl))) hsh false Hac.out))))
  refine wpQuiet_nil ?_
  intro w3 hw0
  have hb1 : Below w2.heap.size w2 w3 := by obtain ⟨n, rfl⟩ := hw0; exact grown_below _ n
  clear hw0
  replace x0 := cell_kept hb1 x0 hl_x
  replace x1 := cell_kept hb1 x1 hl_x
  replace x2 := cell_kept hb1 x2 hl_x
  replace x3 := cell_kept hb1 x3 hl_x
  replace x4 := cell_kept hb1 x4 hl_x
  replace x5 := cell_kept hb1 x5 hl_x
  replace p0 := cell_kept hb1 p0 hl_p
  replace p1 := cell_kept hb1 p1 hl_p
  replace p2 := cell_kept hb1 p2 hl_p
  replace p3 := cell_kept hb1 p3 hl_p
  replace q0 := cell_kept hb1 q0 hl_q
  replace q1 := cell_kept hb1 q1 hl_q
  replace q2 := cell_kept hb1 q2 hl_q
  replace q3 := cell_kept hb1 q3 hl_q
  replace r0 := cell_kept hb1 r0 hl_r
  replace r1 := cell_kept hb1 r1 hl_r
  replace r2 := cell_kept hb1 r2 hl_r
  replace r3 := cell_kept hb1 r3 hl_r
  replace Hb := Lib.hid (Hb.out.trans (hb1.mono hwl))
  replace hl_x := Nat.lt_of_lt_of_le hl_x hb1.size
  replace hl_p := Nat.lt_of_lt_of_le hl_p hb1.size
  replace hl_q := Nat.lt_of_lt_of_le hl_q hb1.size
  replace hl_r := Nat.lt_of_lt_of_le hl_r hb1.size
  replace hwl := Nat.le_trans hwl hb1.size
  clear hb1
  go_wp2_with fail
  refine (alike_eq s ⟨a0, k0, a1, k1, a2, k2, a3, k3, a4, k4, a5, k5⟩ rb ra _ (Hs.out.below Hb.out) hsh false (by rw [alike_symm]; exact Hab.out)).mono ?_
  rintro e w4 ⟨rfl, hb1⟩
  replace x0 := cell_kept hb1 x0 hl_x
  replace x1 := cell_kept hb1 x1 hl_x
  replace x2 := cell_kept hb1 x2 hl_x
  replace x3 := cell_kept hb1 x3 hl_x
  replace x4 := cell_kept hb1 x4 hl_x
  replace x5 := cell_kept hb1 x5 hl_x
  replace p0 := cell_kept hb1 p0 hl_p
  replace p1 := cell_kept hb1 p1 hl_p
  replace p2 := cell_kept hb1 p2 hl_p
  replace p3 := cell_kept hb1 p3 hl_p
  replace q0 := cell_kept hb1 q0 hl_q
  replace q1 := cell_kept hb1 q1 hl_q
  replace q2 := cell_kept hb1 q2 hl_q
  replace q3 := cell_kept hb1 q3 hl_q
  replace r0 := cell_kept hb1 r0 hl_r
  replace r1 := cell_kept hb1 r1 hl_r
  replace r2 := cell_kept hb1 r2 hl_r
  replace r3 := cell_kept hb1 r3 hl_r
  replace Hb := Lib.hid (Hb.out.trans (hb1.mono hwl))
  replace hl_x := Nat.lt_of_lt_of_le hl_x hb1.size
  replace hl_p := Nat.lt_of_lt_of_le hl_p hb1.size
  replace hl_q := Nat.lt_of_lt_of_le hl_q hb1.size
  replace hl_r := Nat.lt_of_lt_of_le hl_r hb1.size
  replace hwl := Nat.le_trans hwl hb1.size
  clear hb1
  go_wp2_with fail
  refine wp_region_grown (by kernel_rfl) (by kernel_rfl) ?_
  repeat (go_big_quiet_step (fail))
  refine wpQuiet_nil ?_
  intro w6 hw0
  have hb1 : Below w4.heap.size w4 w6 := by obtain ⟨n, rfl⟩ := hw0; exact grown_below _ n
  clear hw0
  replace x0 := cell_kept hb1 x0 hl_x
  replace x1 := cell_kept hb1 x1 hl_x
  replace x2 := cell_kept hb1 x2 hl_x
  replace x3 := cell_kept hb1 x3 hl_x
  replace x4 := cell_kept hb1 x4 hl_x
  replace x5 := cell_kept hb1 x5 hl_x
  replace p0 := cell_kept hb1 p0 hl_p
  replace p1 := cell_kept hb1 p1 hl_p
  replace p2 := cell_kept hb1 p2 hl_p
  replace p3 := cell_kept hb1 p3 hl_p
  replace q0 := cell_kept hb1 q0 hl_q
  replace q1 := cell_kept hb1 q1 hl_q
  replace q2 := cell_kept hb1 q2 hl_q
  replace q3 := cell_kept hb1 q3 hl_q
  replace r0 := cell_kept hb1 r0 hl_r
  replace r1 := cell_kept hb1 r1 hl_r
  replace r2 := cell_kept hb1 r2 hl_r
  replace r3 := cell_kept hb1 r3 hl_r
  replace Hb := Lib.hid (Hb.out.trans (hb1.mono hwl))
  replace hl_x := Nat.lt_of_lt_of_le hl_x hb1.size
  replace hl_p := Nat.lt_of_lt_of_le hl_p hb1.size
  replace hl_q := Nat.lt_of_lt_of_le hl_q hb1.size
  replace hl_r := Nat.lt_of_lt_of_le hl_r hb1.size
  replace hwl := Nat.le_trans hwl hb1.size
  clear hb1
  go_wp2
  go_ret
  exact ⟨rfl, Hb.out⟩
set_option maxRecDepth 20000 in
set_option maxHeartbeats 4000000 in
theorem walk_F_n2 (s : SourceD) (p : SrcAt) (ra rb rc : RefD) (w : World) (hs : Src w s p) (hn : Lens s) (hfew : fewB s = true) (bc : Bool) (hab : alikeB s ra rb = false) (hbc : alikeB s rb rc = bc) (hac : alikeB s ra rc = false) (h1 : 0 ≤ ra.schema) (h2 : ¬ ra.schema < s.schemas.length) :
    Calls Try.prog 6 #[s.val p, ra.val, rb.val, rc.val] w fun e w' => e = .returned (.bool true) ∧ Below w.heap.size w w' := by
  have hsh := (few_of hfew).short
  have Hab := Lib.hid hab
  have Hbc := Lib.hid hbc
  have Hac := Lib.hid hac
  clear hab hbc hac
  have d1 : decide ((0 : Int) ≤ ra.schema) = true := decide_eq_true h1
  have d2 : decide (ra.schema < (s.schemas.length : Int)) = false := decide_eq_false h2
  obtain ⟨a0, k0, a1, k1, a2, k2, a3, k3, a4, k4, a5, k5⟩ := p
  have Hs := Lib.hid hs
  clear hs
  go_enter Try.func6, Try.ntmps6
  go_wp2_with fail
  generalize hw0 : World.alloc _ _ = w0
  obtain ⟨X0, X1, X2, X3, hsz, hb0⟩ := blk4 hw0
  have x0 : w0.cell? ⟨w.heap.size, 0, none⟩ = some (.slice a0 s.issuers.length k0) := X0.cell 0
  have x1 : w0.cell? ⟨w.heap.size, 1, none⟩ = some (.slice a1 s.units.length k1) := X0.cell 1
  have x2 : w0.cell? ⟨w.heap.size, 2, none⟩ = some (.slice a2 s.schemas.length k2) := X0.cell 2
  have x3 : w0.cell? ⟨w.heap.size, 3, none⟩ = some (.slice a3 s.rules.length k3) := X0.cell 3
  have x4 : w0.cell? ⟨w.heap.size, 4, none⟩ = some (.slice a4 s.converts k4) := X0.cell 4
  have x5 : w0.cell? ⟨w.heap.size, 5, none⟩ = some (.slice a5 s.purposes.length k5) := X0.cell 5
  have hl_x : w.heap.size < w0.heap.size := by omega
  have p0 : w0.cell? ⟨w.heap.size + 1, 0, none⟩ = some (.string ra.name) := X1.cell 0
  have p1 : w0.cell? ⟨w.heap.size + 1, 1, none⟩ = some (.string ra.path) := X1.cell 1
  have p2 : w0.cell? ⟨w.heap.size + 1, 2, none⟩ = some (.int .i64 ra.schema) := X1.cell 2
  have p3 : w0.cell? ⟨w.heap.size + 1, 3, none⟩ = some (.int .i64 ra.field) := X1.cell 3
  have hl_p : w.heap.size + 1 < w0.heap.size := by omega
  have q0 : w0.cell? ⟨w.heap.size + 1 + 1, 0, none⟩ = some (.string rb.name) := X2.cell 0
  have q1 : w0.cell? ⟨w.heap.size + 1 + 1, 1, none⟩ = some (.string rb.path) := X2.cell 1
  have q2 : w0.cell? ⟨w.heap.size + 1 + 1, 2, none⟩ = some (.int .i64 rb.schema) := X2.cell 2
  have q3 : w0.cell? ⟨w.heap.size + 1 + 1, 3, none⟩ = some (.int .i64 rb.field) := X2.cell 3
  have hl_q : w.heap.size + 1 + 1 < w0.heap.size := by omega
  have r0 : w0.cell? ⟨w.heap.size + 1 + 1 + 1, 0, none⟩ = some (.string rc.name) := X3.cell 0
  have r1 : w0.cell? ⟨w.heap.size + 1 + 1 + 1, 1, none⟩ = some (.string rc.path) := X3.cell 1
  have r2 : w0.cell? ⟨w.heap.size + 1 + 1 + 1, 2, none⟩ = some (.int .i64 rc.schema) := X3.cell 2
  have r3 : w0.cell? ⟨w.heap.size + 1 + 1 + 1, 3, none⟩ = some (.int .i64 rc.field) := X3.cell 3
  have hl_r : w.heap.size + 1 + 1 + 1 < w0.heap.size := by omega
  have hwl : w.heap.size ≤ w0.heap.size := hb0.size
  have Hb := Lib.hid hb0
  clear hw0 hb0 hsz X0 X1 X2 X3
  refine (sane_any _).mono ?_
  rintro e w1 ⟨rfl, hb1⟩
  replace x0 := cell_kept hb1 x0 hl_x
  replace x1 := cell_kept hb1 x1 hl_x
  replace x2 := cell_kept hb1 x2 hl_x
  replace x3 := cell_kept hb1 x3 hl_x
  replace x4 := cell_kept hb1 x4 hl_x
  replace x5 := cell_kept hb1 x5 hl_x
  replace p0 := cell_kept hb1 p0 hl_p
  replace p1 := cell_kept hb1 p1 hl_p
  replace p2 := cell_kept hb1 p2 hl_p
  replace p3 := cell_kept hb1 p3 hl_p
  replace q0 := cell_kept hb1 q0 hl_q
  replace q1 := cell_kept hb1 q1 hl_q
  replace q2 := cell_kept hb1 q2 hl_q
  replace q3 := cell_kept hb1 q3 hl_q
  replace r0 := cell_kept hb1 r0 hl_r
  replace r1 := cell_kept hb1 r1 hl_r
  replace r2 := cell_kept hb1 r2 hl_r
  replace r3 := cell_kept hb1 r3 hl_r
  replace Hb := Lib.hid (Hb.out.trans (hb1.mono hwl))
  replace hl_x := Nat.lt_of_lt_of_le hl_x hb1.size
  replace hl_p := Nat.lt_of_lt_of_le hl_p hb1.size
  replace hl_q := Nat.lt_of_lt_of_le hl_q hb1.size
  replace hl_r := Nat.lt_of_lt_of_le hl_r hb1.size
  replace hwl := Nat.le_trans hwl hb1.size
  clear hb1
  go_wp2_with fail
  refine (few_q s ⟨a0, k0, a1, k1, a2, k2, a3, k3, a4, k4, a5, k5⟩ _ (Hs.out.below Hb.out) hn true hfew).mono ?_
  rintro e w2 ⟨rfl, hb1⟩
  replace x0 := cell_kept hb1 x0 hl_x
  replace x1 := cell_kept hb1 x1 hl_x
  replace x2 := cell_kept hb1 x2 hl_x
  replace x3 := cell_kept hb1 x3 hl_x
  replace x4 := cell_kept hb1 x4 hl_x
  replace x5 := cell_kept hb1 x5 hl_x
  replace p0 := cell_kept hb1 p0 hl_p
  replace p1 := cell_kept hb1 p1 hl_p
  replace p2 := cell_kept hb1 p2 hl_p
  replace p3 := cell_kept hb1 p3 hl_p
  replace q0 := cell_kept hb1 q0 hl_q
  replace q1 := cell_kept hb1 q1 hl_q
  replace q2 := cell_kept hb1 q2 hl_q
  replace q3 := cell_kept hb1 q3 hl_q
  replace r0 := cell_kept hb1 r0 hl_r
  replace r1 := cell_kept hb1 r1 hl_r
  replace r2 := cell_kept hb1 r2 hl_r
  replace r3 := cell_kept hb1 r3 hl_r
  replace Hb := Lib.hid (Hb.out.trans (hb1.mono hwl))
  replace hl_x := Nat.lt_of_lt_of_le hl_x hb1.size
  replace hl_p := Nat.lt_of_lt_of_le hl_p hb1.size
  replace hl_q := Nat.lt_of_lt_of_le hl_q hb1.size
  replace hl_r := Nat.lt_of_lt_of_le hl_r hb1.size
  replace hwl := Nat.le_trans hwl hb1.size
  clear hb1
  go_wp2_with fail
  refine wp_region_grown (by kernel_rfl) (by kernel_rfl) ?_
  repeat (go_big_quiet_step (first | (go_at_call_of 17 (ra.schema); go_at_call_of 17 (rb.schema); exact calls_grown (alike_eq s ⟨a0, k0, a1, k1, a2, k2, a3, k3, a4, k4, a5, k5⟩ ra rb _ (Hs.out.below (Hb.out.trans ((grown_below _ _).mono hwl))) hsh false Hab.out)) | (go_at_call_of 17 (rb.schema); go_at_call_of 17 (rc.schema); exact calls_grown (alike_eq s ⟨a0, k0, a1, k1, a2, k2, a3, k3, a4, k4, a5, k5⟩ rb rc _ (Hs.out.below (Hb.out.trans ((grown_below _ _).mono hwl))) hsh bc Hbc.out)) | (go_at_call_of 17 (ra.schema); go_at_call_of 17 (rc.schema); exact calls_grown (alike_eq s ⟨a0, k0, a1, k1, a2, k2, a3, k3, a4, k4, a5, k5⟩ ra rc _ (Hs.out.below (Hb.out.trans ((grown_below _ _).mono hwl))) hsh false Hac.out))))
  refine wpQuiet_nil ?_
  intro w3 hw0
  have hb1 : Below w2.heap.size w2 w3 := by obtain ⟨n, rfl⟩ := hw0; exact grown_below _ n
  clear hw0
  replace x0 := cell_kept hb1 x0 hl_x
  replace x1 := cell_kept hb1 x1 hl_x
  replace x2 := cell_kept hb1 x2 hl_x
  replace x3 := cell_kept hb1 x3 hl_x
  replace x4 := cell_kept hb1 x4 hl_x
  replace x5 := cell_kept hb1 x5 hl_x
  replace p0 := cell_kept hb1 p0 hl_p
  replace p1 := cell_kept hb1 p1 hl_p
  replace p2 := cell_kept hb1 p2 hl_p
  replace p3 := cell_kept hb1 p3 hl_p
  replace q0 := cell_kept hb1 q0 hl_q
  replace q1 := cell_kept hb1 q1 hl_q
  replace q2 := cell_kept hb1 q2 hl_q
  replace q3 := cell_kept hb1 q3 hl_q
  replace r0 := cell_kept hb1 r0 hl_r
  replace r1 := cell_kept hb1 r1 hl_r
  replace r2 := cell_kept hb1 r2 hl_r
  replace r3 := cell_kept hb1 r3 hl_r
  replace Hb := Lib.hid (Hb.out.trans (hb1.mono hwl))
  replace hl_x := Nat.lt_of_lt_of_le hl_x hb1.size
  replace hl_p := Nat.lt_of_lt_of_le hl_p hb1.size
  replace hl_q := Nat.lt_of_lt_of_le hl_q hb1.size
  replace hl_r := Nat.lt_of_lt_of_le hl_r hb1.size
  replace hwl := Nat.le_trans hwl hb1.size
  clear hb1
  go_wp2_with fail
  refine (alike_eq s ⟨a0, k0, a1, k1, a2, k2, a3, k3, a4, k4, a5, k5⟩ rb ra _ (Hs.out.below Hb.out) hsh false (by rw [alike_symm]; exact Hab.out)).mono ?_
  rintro e w4 ⟨rfl, hb1⟩
  replace x0 := cell_kept hb1 x0 hl_x
  replace x1 := cell_kept hb1 x1 hl_x
  replace x2 := cell_kept hb1 x2 hl_x
  replace x3 := cell_kept hb1 x3 hl_x
  replace x4 := cell_kept hb1 x4 hl_x
  replace x5 := cell_kept hb1 x5 hl_x
  replace p0 := cell_kept hb1 p0 hl_p
  replace p1 := cell_kept hb1 p1 hl_p
  replace p2 := cell_kept hb1 p2 hl_p
  replace p3 := cell_kept hb1 p3 hl_p
  replace q0 := cell_kept hb1 q0 hl_q
  replace q1 := cell_kept hb1 q1 hl_q
  replace q2 := cell_kept hb1 q2 hl_q
  replace q3 := cell_kept hb1 q3 hl_q
  replace r0 := cell_kept hb1 r0 hl_r
  replace r1 := cell_kept hb1 r1 hl_r
  replace r2 := cell_kept hb1 r2 hl_r
  replace r3 := cell_kept hb1 r3 hl_r
  replace Hb := Lib.hid (Hb.out.trans (hb1.mono hwl))
  replace hl_x := Nat.lt_of_lt_of_le hl_x hb1.size
  replace hl_p := Nat.lt_of_lt_of_le hl_p hb1.size
  replace hl_q := Nat.lt_of_lt_of_le hl_q hb1.size
  replace hl_r := Nat.lt_of_lt_of_le hl_r hb1.size
  replace hwl := Nat.le_trans hwl hb1.size
  clear hb1
  go_wp2_with fail
  refine wp_region_grown (by kernel_rfl) (by kernel_rfl) ?_
  repeat (go_big_quiet_step (fail))
  refine wpQuiet_nil ?_
  intro w6 hw0
  have hb1 : Below w4.heap.size w4 w6 := by obtain ⟨n, rfl⟩ := hw0; exact grown_below _ n
  clear hw0
  replace x0 := cell_kept hb1 x0 hl_x
  replace x1 := cell_kept hb1 x1 hl_x
  replace x2 := cell_kept hb1 x2 hl_x
  replace x3 := cell_kept hb1 x3 hl_x
  replace x4 := cell_kept hb1 x4 hl_x
  replace x5 := cell_kept hb1 x5 hl_x
  replace p0 := cell_kept hb1 p0 hl_p
  replace p1 := cell_kept hb1 p1 hl_p
  replace p2 := cell_kept hb1 p2 hl_p
  replace p3 := cell_kept hb1 p3 hl_p
  replace q0 := cell_kept hb1 q0 hl_q
  replace q1 := cell_kept hb1 q1 hl_q
  replace q2 := cell_kept hb1 q2 hl_q
  replace q3 := cell_kept hb1 q3 hl_q
  replace r0 := cell_kept hb1 r0 hl_r
  replace r1 := cell_kept hb1 r1 hl_r
  replace r2 := cell_kept hb1 r2 hl_r
  replace r3 := cell_kept hb1 r3 hl_r
  replace Hb := Lib.hid (Hb.out.trans (hb1.mono hwl))
  replace hl_x := Nat.lt_of_lt_of_le hl_x hb1.size
  replace hl_p := Nat.lt_of_lt_of_le hl_p hb1.size
  replace hl_q := Nat.lt_of_lt_of_le hl_q hb1.size
  replace hl_r := Nat.lt_of_lt_of_le hl_r hb1.size
  replace hwl := Nat.le_trans hwl hb1.size
  clear hb1
  go_wp2
  go_ret
  exact ⟨rfl, Hb.out⟩
set_option maxRecDepth 20000 in
set_option maxHeartbeats 4000000 in
theorem walk_F_n3 (s : SourceD) (p : SrcAt) (ra rb rc : RefD) (w : World) (hs : Src w s p) (hn : Lens s) (hfew : fewB s = true) (bc : Bool) (hab : alikeB s ra rb = false) (hbc : alikeB s rb rc = bc) (hac : alikeB s ra rc = false) (h1 : 0 ≤ ra.schema) (h2 : ra.schema < s.schemas.length) (h3 : ra.field < 0) :
    Calls Try.prog 6 #[s.val p, ra.val, rb.val, rc.val] w fun e w' => e = .returned (.bool true) ∧ Below w.heap.size w w' := by
  have hsh := (few_of hfew).short
  have Hab := Lib.hid hab
  have Hbc := Lib.hid hbc
  have Hac := Lib.hid hac
  clear hab hbc hac
  have d1 : decide ((0 : Int) ≤ ra.schema) = true := decide_eq_true h1
  have d2 : decide (ra.schema < (s.schemas.length : Int)) = true := decide_eq_true h2
  have d3 : decide ((0 : Int) ≤ ra.field) = false := decide_eq_false (by omega)
  obtain ⟨a0, k0, a1, k1, a2, k2, a3, k3, a4, k4, a5, k5⟩ := p
  have Hs := Lib.hid hs
  clear hs
  go_enter Try.func6, Try.ntmps6
  go_wp2_with fail
  generalize hw0 : World.alloc _ _ = w0
  obtain ⟨X0, X1, X2, X3, hsz, hb0⟩ := blk4 hw0
  have x0 : w0.cell? ⟨w.heap.size, 0, none⟩ = some (.slice a0 s.issuers.length k0) := X0.cell 0
  have x1 : w0.cell? ⟨w.heap.size, 1, none⟩ = some (.slice a1 s.units.length k1) := X0.cell 1
  have x2 : w0.cell? ⟨w.heap.size, 2, none⟩ = some (.slice a2 s.schemas.length k2) := X0.cell 2
  have x3 : w0.cell? ⟨w.heap.size, 3, none⟩ = some (.slice a3 s.rules.length k3) := X0.cell 3
  have x4 : w0.cell? ⟨w.heap.size, 4, none⟩ = some (.slice a4 s.converts k4) := X0.cell 4
  have x5 : w0.cell? ⟨w.heap.size, 5, none⟩ = some (.slice a5 s.purposes.length k5) := X0.cell 5
  have hl_x : w.heap.size < w0.heap.size := by omega
  have p0 : w0.cell? ⟨w.heap.size + 1, 0, none⟩ = some (.string ra.name) := X1.cell 0
  have p1 : w0.cell? ⟨w.heap.size + 1, 1, none⟩ = some (.string ra.path) := X1.cell 1
  have p2 : w0.cell? ⟨w.heap.size + 1, 2, none⟩ = some (.int .i64 ra.schema) := X1.cell 2
  have p3 : w0.cell? ⟨w.heap.size + 1, 3, none⟩ = some (.int .i64 ra.field) := X1.cell 3
  have hl_p : w.heap.size + 1 < w0.heap.size := by omega
  have q0 : w0.cell? ⟨w.heap.size + 1 + 1, 0, none⟩ = some (.string rb.name) := X2.cell 0
  have q1 : w0.cell? ⟨w.heap.size + 1 + 1, 1, none⟩ = some (.string rb.path) := X2.cell 1
  have q2 : w0.cell? ⟨w.heap.size + 1 + 1, 2, none⟩ = some (.int .i64 rb.schema) := X2.cell 2
  have q3 : w0.cell? ⟨w.heap.size + 1 + 1, 3, none⟩ = some (.int .i64 rb.field) := X2.cell 3
  have hl_q : w.heap.size + 1 + 1 < w0.heap.size := by omega
  have r0 : w0.cell? ⟨w.heap.size + 1 + 1 + 1, 0, none⟩ = some (.string rc.name) := X3.cell 0
  have r1 : w0.cell? ⟨w.heap.size + 1 + 1 + 1, 1, none⟩ = some (.string rc.path) := X3.cell 1
  have r2 : w0.cell? ⟨w.heap.size + 1 + 1 + 1, 2, none⟩ = some (.int .i64 rc.schema) := X3.cell 2
  have r3 : w0.cell? ⟨w.heap.size + 1 + 1 + 1, 3, none⟩ = some (.int .i64 rc.field) := X3.cell 3
  have hl_r : w.heap.size + 1 + 1 + 1 < w0.heap.size := by omega
  have hwl : w.heap.size ≤ w0.heap.size := hb0.size
  have Hb := Lib.hid hb0
  clear hw0 hb0 hsz X0 X1 X2 X3
  refine (sane_any _).mono ?_
  rintro e w1 ⟨rfl, hb1⟩
  replace x0 := cell_kept hb1 x0 hl_x
  replace x1 := cell_kept hb1 x1 hl_x
  replace x2 := cell_kept hb1 x2 hl_x
  replace x3 := cell_kept hb1 x3 hl_x
  replace x4 := cell_kept hb1 x4 hl_x
  replace x5 := cell_kept hb1 x5 hl_x
  replace p0 := cell_kept hb1 p0 hl_p
  replace p1 := cell_kept hb1 p1 hl_p
  replace p2 := cell_kept hb1 p2 hl_p
  replace p3 := cell_kept hb1 p3 hl_p
  replace q0 := cell_kept hb1 q0 hl_q
  replace q1 := cell_kept hb1 q1 hl_q
  replace q2 := cell_kept hb1 q2 hl_q
  replace q3 := cell_kept hb1 q3 hl_q
  replace r0 := cell_kept hb1 r0 hl_r
  replace r1 := cell_kept hb1 r1 hl_r
  replace r2 := cell_kept hb1 r2 hl_r
  replace r3 := cell_kept hb1 r3 hl_r
  replace Hb := Lib.hid (Hb.out.trans (hb1.mono hwl))
  replace hl_x := Nat.lt_of_lt_of_le hl_x hb1.size
  replace hl_p := Nat.lt_of_lt_of_le hl_p hb1.size
  replace hl_q := Nat.lt_of_lt_of_le hl_q hb1.size
  replace hl_r := Nat.lt_of_lt_of_le hl_r hb1.size
  replace hwl := Nat.le_trans hwl hb1.size
  clear hb1
  go_wp2_with fail
  refine (few_q s ⟨a0, k0, a1, k1, a2, k2, a3, k3, a4, k4, a5, k5⟩ _ (Hs.out.below Hb.out) hn true hfew).mono ?_
  rintro e w2 ⟨rfl, hb1⟩
  replace x0 := cell_kept hb1 x0 hl_x
  replace x1 := cell_kept hb1 x1 hl_x
  replace x2 := cell_kept hb1 x2 hl_x
  replace x3 := cell_kept hb1 x3 hl_x
  replace x4 := cell_kept hb1 x4 hl_x
  replace x5 := cell_kept hb1 x5 hl_x
  replace p0 := cell_kept hb1 p0 hl_p
  replace p1 := cell_kept hb1 p1 hl_p
  replace p2 := cell_kept hb1 p2 hl_p
  replace p3 := cell_kept hb1 p3 hl_p
  replace q0 := cell_kept hb1 q0 hl_q
  replace q1 := cell_kept hb1 q1 hl_q
  replace q2 := cell_kept hb1 q2 hl_q
  replace q3 := cell_kept hb1 q3 hl_q
  replace r0 := cell_kept hb1 r0 hl_r
  replace r1 := cell_kept hb1 r1 hl_r
  replace r2 := cell_kept hb1 r2 hl_r
  replace r3 := cell_kept hb1 r3 hl_r
  replace Hb := Lib.hid (Hb.out.trans (hb1.mono hwl))
  replace hl_x := Nat.lt_of_lt_of_le hl_x hb1.size
  replace hl_p := Nat.lt_of_lt_of_le hl_p hb1.size
  replace hl_q := Nat.lt_of_lt_of_le hl_q hb1.size
  replace hl_r := Nat.lt_of_lt_of_le hl_r hb1.size
  replace hwl := Nat.le_trans hwl hb1.size
  clear hb1
  go_wp2_with fail
  refine wp_region_grown (by kernel_rfl) (by kernel_rfl) ?_
  repeat (go_big_quiet_step (first | (go_at_call_of 17 (ra.schema); go_at_call_of 17 (rb.schema); exact calls_grown (alike_eq s ⟨a0, k0, a1, k1, a2, k2, a3, k3, a4, k4, a5, k5⟩ ra rb _ (Hs.out.below (Hb.out.trans ((grown_below _ _).mono hwl))) hsh false Hab.out)) | (go_at_call_of 17 (rb.schema); go_at_call_of 17 (rc.schema); exact calls_grown (alike_eq s ⟨a0, k0, a1, k1, a2, k2, a3, k3, a4, k4, a5, k5⟩ rb rc _ (Hs.out.below (Hb.out.trans ((grown_below _ _).mono hwl))) hsh bc Hbc.out)) | (go_at_call_of 17 (ra.schema); go_at_call_of 17 (rc.schema); exact calls_grown (alike_eq s ⟨a0, k0, a1, k1, a2, k2, a3, k3, a4, k4, a5, k5⟩ ra rc _ (Hs.out.below (Hb.out.trans ((grown_below _ _).mono hwl))) hsh false Hac.out))))
  refine wpQuiet_nil ?_
  intro w3 hw0
  have hb1 : Below w2.heap.size w2 w3 := by obtain ⟨n, rfl⟩ := hw0; exact grown_below _ n
  clear hw0
  replace x0 := cell_kept hb1 x0 hl_x
  replace x1 := cell_kept hb1 x1 hl_x
  replace x2 := cell_kept hb1 x2 hl_x
  replace x3 := cell_kept hb1 x3 hl_x
  replace x4 := cell_kept hb1 x4 hl_x
  replace x5 := cell_kept hb1 x5 hl_x
  replace p0 := cell_kept hb1 p0 hl_p
  replace p1 := cell_kept hb1 p1 hl_p
  replace p2 := cell_kept hb1 p2 hl_p
  replace p3 := cell_kept hb1 p3 hl_p
  replace q0 := cell_kept hb1 q0 hl_q
  replace q1 := cell_kept hb1 q1 hl_q
  replace q2 := cell_kept hb1 q2 hl_q
  replace q3 := cell_kept hb1 q3 hl_q
  replace r0 := cell_kept hb1 r0 hl_r
  replace r1 := cell_kept hb1 r1 hl_r
  replace r2 := cell_kept hb1 r2 hl_r
  replace r3 := cell_kept hb1 r3 hl_r
  replace Hb := Lib.hid (Hb.out.trans (hb1.mono hwl))
  replace hl_x := Nat.lt_of_lt_of_le hl_x hb1.size
  replace hl_p := Nat.lt_of_lt_of_le hl_p hb1.size
  replace hl_q := Nat.lt_of_lt_of_le hl_q hb1.size
  replace hl_r := Nat.lt_of_lt_of_le hl_r hb1.size
  replace hwl := Nat.le_trans hwl hb1.size
  clear hb1
  go_wp2_with fail
  refine (alike_eq s ⟨a0, k0, a1, k1, a2, k2, a3, k3, a4, k4, a5, k5⟩ rb ra _ (Hs.out.below Hb.out) hsh false (by rw [alike_symm]; exact Hab.out)).mono ?_
  rintro e w4 ⟨rfl, hb1⟩
  replace x0 := cell_kept hb1 x0 hl_x
  replace x1 := cell_kept hb1 x1 hl_x
  replace x2 := cell_kept hb1 x2 hl_x
  replace x3 := cell_kept hb1 x3 hl_x
  replace x4 := cell_kept hb1 x4 hl_x
  replace x5 := cell_kept hb1 x5 hl_x
  replace p0 := cell_kept hb1 p0 hl_p
  replace p1 := cell_kept hb1 p1 hl_p
  replace p2 := cell_kept hb1 p2 hl_p
  replace p3 := cell_kept hb1 p3 hl_p
  replace q0 := cell_kept hb1 q0 hl_q
  replace q1 := cell_kept hb1 q1 hl_q
  replace q2 := cell_kept hb1 q2 hl_q
  replace q3 := cell_kept hb1 q3 hl_q
  replace r0 := cell_kept hb1 r0 hl_r
  replace r1 := cell_kept hb1 r1 hl_r
  replace r2 := cell_kept hb1 r2 hl_r
  replace r3 := cell_kept hb1 r3 hl_r
  replace Hb := Lib.hid (Hb.out.trans (hb1.mono hwl))
  replace hl_x := Nat.lt_of_lt_of_le hl_x hb1.size
  replace hl_p := Nat.lt_of_lt_of_le hl_p hb1.size
  replace hl_q := Nat.lt_of_lt_of_le hl_q hb1.size
  replace hl_r := Nat.lt_of_lt_of_le hl_r hb1.size
  replace hwl := Nat.le_trans hwl hb1.size
  clear hb1
  go_wp2_with fail
  refine wp_region_grown (by kernel_rfl) (by kernel_rfl) ?_
  repeat (go_big_quiet_step (fail))
  refine wpQuiet_nil ?_
  intro w6 hw0
  have hb1 : Below w4.heap.size w4 w6 := by obtain ⟨n, rfl⟩ := hw0; exact grown_below _ n
  clear hw0
  replace x0 := cell_kept hb1 x0 hl_x
  replace x1 := cell_kept hb1 x1 hl_x
  replace x2 := cell_kept hb1 x2 hl_x
  replace x3 := cell_kept hb1 x3 hl_x
  replace x4 := cell_kept hb1 x4 hl_x
  replace x5 := cell_kept hb1 x5 hl_x
  replace p0 := cell_kept hb1 p0 hl_p
  replace p1 := cell_kept hb1 p1 hl_p
  replace p2 := cell_kept hb1 p2 hl_p
  replace p3 := cell_kept hb1 p3 hl_p
  replace q0 := cell_kept hb1 q0 hl_q
  replace q1 := cell_kept hb1 q1 hl_q
  replace q2 := cell_kept hb1 q2 hl_q
  replace q3 := cell_kept hb1 q3 hl_q
  replace r0 := cell_kept hb1 r0 hl_r
  replace r1 := cell_kept hb1 r1 hl_r
  replace r2 := cell_kept hb1 r2 hl_r
  replace r3 := cell_kept hb1 r3 hl_r
  replace Hb := Lib.hid (Hb.out.trans (hb1.mono hwl))
  replace hl_x := Nat.lt_of_lt_of_le hl_x hb1.size
  replace hl_p := Nat.lt_of_lt_of_le hl_p hb1.size
  replace hl_q := Nat.lt_of_lt_of_le hl_q hb1.size
  replace hl_r := Nat.lt_of_lt_of_le hl_r hb1.size
  replace hwl := Nat.le_trans hwl hb1.size
  clear hb1
  go_wp2
  go_ret
  exact ⟨rfl, Hb.out⟩
set_option maxRecDepth 20000 in
set_option maxHeartbeats 4000000 in
theorem walk_F_n4 (s : SourceD) (p : SrcAt) (ra rb rc : RefD) (w : World) (hs : Src w s p) (hn : Lens s) (hfew : fewB s = true) (bc : Bool) (hab : alikeB s ra rb = false) (hbc : alikeB s rb rc = bc) (hac : alikeB s ra rc = false) (h1 : 0 ≤ ra.schema) (h2 : ra.schema < s.schemas.length) (h3 : 0 ≤ ra.field) (hsl : ra.schema.toNat < s.schemas.length) (h4 : ¬ ra.field < s.schemas[ra.schema.toNat].fields.length) :
    Calls Try.prog 6 #[s.val p, ra.val, rb.val, rc.val] w fun e w' => e = .returned (.bool true) ∧ Below w.heap.size w w' := by
  have hsh := (few_of hfew).short
  have Hab := Lib.hid hab
  have Hbc := Lib.hid hbc
  have Hac := Lib.hid hac
  clear hab hbc hac
  have d1 : decide ((0 : Int) ≤ ra.schema) = true := decide_eq_true h1
  have d2 : decide (ra.schema < (s.schemas.length : Int)) = true := decide_eq_true h2
  have d3 : decide ((0 : Int) ≤ ra.field) = true := decide_eq_true h3
  obtain ⟨b, off, e1, hl_d, _, fa, fk, da, dk, d0_, d1_, d2_, d3_, c4, d5_, -⟩ := SchemaD.out hs.h2 ra.schema.toNat hsl
  generalize s.schemas[ra.schema.toNat].fields.length = fl at *
  have d4 : decide (ra.field < (fl : Int)) = false := decide_eq_false h4
  clear d0_ d1_ d2_ d3_ d5_
  obtain ⟨a0, k0, a1, k1, a2, k2, a3, k3, a4, k4, a5, k5⟩ := p
  simp only at e1
  subst e1
  have hl_c := hl_d
  clear hl_d
  have Hs := Lib.hid hs
  clear hs
  go_enter Try.func6, Try.ntmps6
  go_wp2_with fail
  generalize hw0 : World.alloc _ _ = w0
  obtain ⟨X0, X1, X2, X3, hsz, hb0⟩ := blk4 hw0
  replace c4 := cell_kept hb0 c4 hl_c
  have hw_c := hl_c
  replace hl_c := Nat.lt_of_lt_of_le hl_c hb0.size
  have x0 : w0.cell? ⟨w.heap.size, 0, none⟩ = some (.slice a0 s.issuers.length k0) := X0.cell 0
  have x1 : w0.cell? ⟨w.heap.size, 1, none⟩ = some (.slice a1 s.units.length k1) := X0.cell 1
  have x2 : w0.cell? ⟨w.heap.size, 2, none⟩ = some (.slice (some ⟨b, off, none⟩) s.schemas.length k2) := X0.cell 2
  have x3 : w0.cell? ⟨w.heap.size, 3, none⟩ = some (.slice a3 s.rules.length k3) := X0.cell 3
  have x4 : w0.cell? ⟨w.heap.size, 4, none⟩ = some (.slice a4 s.converts k4) := X0.cell 4
  have x5 : w0.cell? ⟨w.heap.size, 5, none⟩ = some (.slice a5 s.purposes.length k5) := X0.cell 5
  have hl_x : w.heap.size < w0.heap.size := by omega
  have p0 : w0.cell? ⟨w.heap.size + 1, 0, none⟩ = some (.string ra.name) := X1.cell 0
  have p1 : w0.cell? ⟨w.heap.size + 1, 1, none⟩ = some (.string ra.path) := X1.cell 1
  have p2 : w0.cell? ⟨w.heap.size + 1, 2, none⟩ = some (.int .i64 ra.schema) := X1.cell 2
  have p3 : w0.cell? ⟨w.heap.size + 1, 3, none⟩ = some (.int .i64 ra.field) := X1.cell 3
  have hl_p : w.heap.size + 1 < w0.heap.size := by omega
  have q0 : w0.cell? ⟨w.heap.size + 1 + 1, 0, none⟩ = some (.string rb.name) := X2.cell 0
  have q1 : w0.cell? ⟨w.heap.size + 1 + 1, 1, none⟩ = some (.string rb.path) := X2.cell 1
  have q2 : w0.cell? ⟨w.heap.size + 1 + 1, 2, none⟩ = some (.int .i64 rb.schema) := X2.cell 2
  have q3 : w0.cell? ⟨w.heap.size + 1 + 1, 3, none⟩ = some (.int .i64 rb.field) := X2.cell 3
  have hl_q : w.heap.size + 1 + 1 < w0.heap.size := by omega
  have r0 : w0.cell? ⟨w.heap.size + 1 + 1 + 1, 0, none⟩ = some (.string rc.name) := X3.cell 0
  have r1 : w0.cell? ⟨w.heap.size + 1 + 1 + 1, 1, none⟩ = some (.string rc.path) := X3.cell 1
  have r2 : w0.cell? ⟨w.heap.size + 1 + 1 + 1, 2, none⟩ = some (.int .i64 rc.schema) := X3.cell 2
  have r3 : w0.cell? ⟨w.heap.size + 1 + 1 + 1, 3, none⟩ = some (.int .i64 rc.field) := X3.cell 3
  have hl_r : w.heap.size + 1 + 1 + 1 < w0.heap.size := by omega
  have hwl : w.heap.size ≤ w0.heap.size := hb0.size
  have Hb := Lib.hid hb0
  clear hw0 hb0 hsz X0 X1 X2 X3
  refine (sane_any _).mono ?_
  rintro e w1 ⟨rfl, hb1⟩
  replace x0 := cell_kept hb1 x0 hl_x
  replace x1 := cell_kept hb1 x1 hl_x
  replace x2 := cell_kept hb1 x2 hl_x
  replace x3 := cell_kept hb1 x3 hl_x
  replace x4 := cell_kept hb1 x4 hl_x
  replace x5 := cell_kept hb1 x5 hl_x
  replace p0 := cell_kept hb1 p0 hl_p
  replace p1 := cell_kept hb1 p1 hl_p
  replace p2 := cell_kept hb1 p2 hl_p
  replace p3 := cell_kept hb1 p3 hl_p
  replace q0 := cell_kept hb1 q0 hl_q
  replace q1 := cell_kept hb1 q1 hl_q
  replace q2 := cell_kept hb1 q2 hl_q
  replace q3 := cell_kept hb1 q3 hl_q
  replace r0 := cell_kept hb1 r0 hl_r
  replace r1 := cell_kept hb1 r1 hl_r
  replace r2 := cell_kept hb1 r2 hl_r
  replace r3 := cell_kept hb1 r3 hl_r
  replace c4 := cell_kept hb1 c4 hl_c
  replace Hb := Lib.hid (Hb.out.trans (hb1.mono hwl))
  replace hl_x := Nat.lt_of_lt_of_le hl_x hb1.size
  replace hl_p := Nat.lt_of_lt_of_le hl_p hb1.size
  replace hl_q := Nat.lt_of_lt_of_le hl_q hb1.size
  replace hl_r := Nat.lt_of_lt_of_le hl_r hb1.size
  replace hl_c := Nat.lt_of_lt_of_le hl_c hb1.size
  replace hwl := Nat.le_trans hwl hb1.size
  clear hb1
  go_wp2_with fail
  refine (few_q s ⟨a0, k0, a1, k1, some ⟨b, off, none⟩, k2, a3, k3, a4, k4, a5, k5⟩ _ (Hs.out.below Hb.out) hn true hfew).mono ?_
  rintro e w2 ⟨rfl, hb1⟩
  replace x0 := cell_kept hb1 x0 hl_x
  replace x1 := cell_kept hb1 x1 hl_x
  replace x2 := cell_kept hb1 x2 hl_x
  replace x3 := cell_kept hb1 x3 hl_x
  replace x4 := cell_kept hb1 x4 hl_x
  replace x5 := cell_kept hb1 x5 hl_x
  replace p0 := cell_kept hb1 p0 hl_p
  replace p1 := cell_kept hb1 p1 hl_p
  replace p2 := cell_kept hb1 p2 hl_p
  replace p3 := cell_kept hb1 p3 hl_p
  replace q0 := cell_kept hb1 q0 hl_q
  replace q1 := cell_kept hb1 q1 hl_q
  replace q2 := cell_kept hb1 q2 hl_q
  replace q3 := cell_kept hb1 q3 hl_q
  replace r0 := cell_kept hb1 r0 hl_r
  replace r1 := cell_kept hb1 r1 hl_r
  replace r2 := cell_kept hb1 r2 hl_r
  replace r3 := cell_kept hb1 r3 hl_r
  replace c4 := cell_kept hb1 c4 hl_c
  replace Hb := Lib.hid (Hb.out.trans (hb1.mono hwl))
  replace hl_x := Nat.lt_of_lt_of_le hl_x hb1.size
  replace hl_p := Nat.lt_of_lt_of_le hl_p hb1.size
  replace hl_q := Nat.lt_of_lt_of_le hl_q hb1.size
  replace hl_r := Nat.lt_of_lt_of_le hl_r hb1.size
  replace hl_c := Nat.lt_of_lt_of_le hl_c hb1.size
  replace hwl := Nat.le_trans hwl hb1.size
  clear hb1
  go_wp2_with fail
  refine wp_region_grown (by kernel_rfl) (by kernel_rfl) ?_
  repeat (go_big_quiet_step (first | (go_at_call_of 17 (ra.schema); go_at_call_of 17 (rb.schema); exact calls_grown (alike_eq s ⟨a0, k0, a1, k1, some ⟨b, off, none⟩, k2, a3, k3, a4, k4, a5, k5⟩ ra rb _ (Hs.out.below (Hb.out.trans ((grown_below _ _).mono hwl))) hsh false Hab.out)) | (go_at_call_of 17 (rb.schema); go_at_call_of 17 (rc.schema); exact calls_grown (alike_eq s ⟨a0, k0, a1, k1, some ⟨b, off, none⟩, k2, a3, k3, a4, k4, a5, k5⟩ rb rc _ (Hs.out.below (Hb.out.trans ((grown_below _ _).mono hwl))) hsh bc Hbc.out)) | (go_at_call_of 17 (ra.schema); go_at_call_of 17 (rc.schema); exact calls_grown (alike_eq s ⟨a0, k0, a1, k1, some ⟨b, off, none⟩, k2, a3, k3, a4, k4, a5, k5⟩ ra rc _ (Hs.out.below (Hb.out.trans ((grown_below _ _).mono hwl))) hsh false Hac.out))))
  refine wpQuiet_nil ?_
  intro w3 hw0
  have hb1 : Below w2.heap.size w2 w3 := by obtain ⟨n, rfl⟩ := hw0; exact grown_below _ n
  clear hw0
  replace x0 := cell_kept hb1 x0 hl_x
  replace x1 := cell_kept hb1 x1 hl_x
  replace x2 := cell_kept hb1 x2 hl_x
  replace x3 := cell_kept hb1 x3 hl_x
  replace x4 := cell_kept hb1 x4 hl_x
  replace x5 := cell_kept hb1 x5 hl_x
  replace p0 := cell_kept hb1 p0 hl_p
  replace p1 := cell_kept hb1 p1 hl_p
  replace p2 := cell_kept hb1 p2 hl_p
  replace p3 := cell_kept hb1 p3 hl_p
  replace q0 := cell_kept hb1 q0 hl_q
  replace q1 := cell_kept hb1 q1 hl_q
  replace q2 := cell_kept hb1 q2 hl_q
  replace q3 := cell_kept hb1 q3 hl_q
  replace r0 := cell_kept hb1 r0 hl_r
  replace r1 := cell_kept hb1 r1 hl_r
  replace r2 := cell_kept hb1 r2 hl_r
  replace r3 := cell_kept hb1 r3 hl_r
  replace c4 := cell_kept hb1 c4 hl_c
  replace Hb := Lib.hid (Hb.out.trans (hb1.mono hwl))
  replace hl_x := Nat.lt_of_lt_of_le hl_x hb1.size
  replace hl_p := Nat.lt_of_lt_of_le hl_p hb1.size
  replace hl_q := Nat.lt_of_lt_of_le hl_q hb1.size
  replace hl_r := Nat.lt_of_lt_of_le hl_r hb1.size
  replace hl_c := Nat.lt_of_lt_of_le hl_c hb1.size
  replace hwl := Nat.le_trans hwl hb1.size
  clear hb1
  go_wp2_with fail
  refine (alike_eq s ⟨a0, k0, a1, k1, some ⟨b, off, none⟩, k2, a3, k3, a4, k4, a5, k5⟩ rb ra _ (Hs.out.below Hb.out) hsh false (by rw [alike_symm]; exact Hab.out)).mono ?_
  rintro e w4 ⟨rfl, hb1⟩
  replace x0 := cell_kept hb1 x0 hl_x
  replace x1 := cell_kept hb1 x1 hl_x
  replace x2 := cell_kept hb1 x2 hl_x
  replace x3 := cell_kept hb1 x3 hl_x
  replace x4 := cell_kept hb1 x4 hl_x
  replace x5 := cell_kept hb1 x5 hl_x
  replace p0 := cell_kept hb1 p0 hl_p
  replace p1 := cell_kept hb1 p1 hl_p
  replace p2 := cell_kept hb1 p2 hl_p
  replace p3 := cell_kept hb1 p3 hl_p
  replace q0 := cell_kept hb1 q0 hl_q
  replace q1 := cell_kept hb1 q1 hl_q
  replace q2 := cell_kept hb1 q2 hl_q
  replace q3 := cell_kept hb1 q3 hl_q
  replace r0 := cell_kept hb1 r0 hl_r
  replace r1 := cell_kept hb1 r1 hl_r
  replace r2 := cell_kept hb1 r2 hl_r
  replace r3 := cell_kept hb1 r3 hl_r
  replace c4 := cell_kept hb1 c4 hl_c
  replace Hb := Lib.hid (Hb.out.trans (hb1.mono hwl))
  replace hl_x := Nat.lt_of_lt_of_le hl_x hb1.size
  replace hl_p := Nat.lt_of_lt_of_le hl_p hb1.size
  replace hl_q := Nat.lt_of_lt_of_le hl_q hb1.size
  replace hl_r := Nat.lt_of_lt_of_le hl_r hb1.size
  replace hl_c := Nat.lt_of_lt_of_le hl_c hb1.size
  replace hwl := Nat.le_trans hwl hb1.size
  clear hb1
  go_wp2_with fail
  refine wp_region_grown (by kernel_rfl) (by kernel_rfl) ?_
  repeat (go_big_quiet_step (fail))
  refine wpQuiet_nil ?_
  intro w6 hw0
  have hb1 : Below w4.heap.size w4 w6 := by obtain ⟨n, rfl⟩ := hw0; exact grown_below _ n
  clear hw0
  replace x0 := cell_kept hb1 x0 hl_x
  replace x1 := cell_kept hb1 x1 hl_x
  replace x2 := cell_kept hb1 x2 hl_x
  replace x3 := cell_kept hb1 x3 hl_x
  replace x4 := cell_kept hb1 x4 hl_x
  replace x5 := cell_kept hb1 x5 hl_x
  replace p0 := cell_kept hb1 p0 hl_p
  replace p1 := cell_kept hb1 p1 hl_p
  replace p2 := cell_kept hb1 p2 hl_p
  replace p3 := cell_kept hb1 p3 hl_p
  replace q0 := cell_kept hb1 q0 hl_q
  replace q1 := cell_kept hb1 q1 hl_q
  replace q2 := cell_kept hb1 q2 hl_q
  replace q3 := cell_kept hb1 q3 hl_q
  replace r0 := cell_kept hb1 r0 hl_r
  replace r1 := cell_kept hb1 r1 hl_r
  replace r2 := cell_kept hb1 r2 hl_r
  replace r3 := cell_kept hb1 r3 hl_r
  replace c4 := cell_kept hb1 c4 hl_c
  replace Hb := Lib.hid (Hb.out.trans (hb1.mono hwl))
  replace hl_x := Nat.lt_of_lt_of_le hl_x hb1.size
  replace hl_p := Nat.lt_of_lt_of_le hl_p hb1.size
  replace hl_q := Nat.lt_of_lt_of_le hl_q hb1.size
  replace hl_r := Nat.lt_of_lt_of_le hl_r hb1.size
  replace hl_c := Nat.lt_of_lt_of_le hl_c hb1.size
  replace hwl := Nat.le_trans hwl hb1.size
  clear hb1
  go_wp2
  go_ret
  exact ⟨rfl, Hb.out⟩
set_option maxRecDepth 20000 in
set_option maxHeartbeats 4000000 in
theorem walk_F_c0 (s : SourceD) (p : SrcAt) (ra rb rc : RefD) (w : World) (hs : Src w s p) (hn : Lens s) (hfew : fewB s = true) (bc : Bool) (ac : Bool) (hab : alikeB s ra rb = false) (hbc : alikeB s rb rc = bc) (hac : alikeB s ra rc = ac) (haa : alikeB s ra ra = true) (h1 : 0 ≤ ra.schema) (h2 : ra.schema < s.schemas.length) (h3 : 0 ≤ ra.field) (hsl : ra.schema.toNat < s.schemas.length) (h4 : ra.field < s.schemas[ra.schema.toNat].fields.length) (c : Int) (hc : checkB s = c) (hc0 : c = 0) :
    Calls Try.prog 6 #[s.val p, ra.val, rb.val, rc.val] w fun e w' => e = .returned (.bool true) ∧ Below w.heap.size w w' := by
  have hsh := (few_of hfew).short
  have Hab := Lib.hid hab
  have Hbc := Lib.hid hbc
  have Hac := Lib.hid hac
  clear hab hbc hac
  have Haa := Lib.hid haa
  clear haa
  have Hc := Lib.hid hc
  clear hc
  have d1 : decide ((0 : Int) ≤ ra.schema) = true := decide_eq_true h1
  have d2 : decide (ra.schema < (s.schemas.length : Int)) = true := decide_eq_true h2
  have d3 : decide ((0 : Int) ≤ ra.field) = true := decide_eq_true h3
  obtain ⟨b, off, e1, hl_d, _, fa, fk, da, dk, d0_, d1_, d2_, d3_, c4, d5_, -⟩ := SchemaD.out hs.h2 ra.schema.toNat hsl
  generalize s.schemas[ra.schema.toNat].fields.length = fl at *
  have d4 : decide (ra.field < (fl : Int)) = true := decide_eq_true h4
  clear d0_ d1_ d2_ d3_ d5_
  have q0 : (c != 0) = false := by simpa using hc0
  obtain ⟨a0, k0, a1, k1, a2, k2, a3, k3, a4, k4, a5, k5⟩ := p
  simp only at e1
  subst e1
  have hl_c := hl_d
  clear hl_d
  have Hs := Lib.hid hs
  clear hs
  go_enter Try.func6, Try.ntmps6
  go_wp2_with fail
  generalize hw0 : World.alloc _ _ = w0
  obtain ⟨X0, X1, X2, X3, hsz, hb0⟩ := blk4 hw0
  replace c4 := cell_kept hb0 c4 hl_c
  have hw_c := hl_c
  replace hl_c := Nat.lt_of_lt_of_le hl_c hb0.size
  have x0 : w0.cell? ⟨w.heap.size, 0, none⟩ = some (.slice a0 s.issuers.length k0) := X0.cell 0
  have x1 : w0.cell? ⟨w.heap.size, 1, none⟩ = some (.slice a1 s.units.length k1) := X0.cell 1
  have x2 : w0.cell? ⟨w.heap.size, 2, none⟩ = some (.slice (some ⟨b, off, none⟩) s.schemas.length k2) := X0.cell 2
  have x3 : w0.cell? ⟨w.heap.size, 3, none⟩ = some (.slice a3 s.rules.length k3) := X0.cell 3
  have x4 : w0.cell? ⟨w.heap.size, 4, none⟩ = some (.slice a4 s.converts k4) := X0.cell 4
  have x5 : w0.cell? ⟨w.heap.size, 5, none⟩ = some (.slice a5 s.purposes.length k5) := X0.cell 5
  have hl_x : w.heap.size < w0.heap.size := by omega
  have p0 : w0.cell? ⟨w.heap.size + 1, 0, none⟩ = some (.string ra.name) := X1.cell 0
  have p1 : w0.cell? ⟨w.heap.size + 1, 1, none⟩ = some (.string ra.path) := X1.cell 1
  have p2 : w0.cell? ⟨w.heap.size + 1, 2, none⟩ = some (.int .i64 ra.schema) := X1.cell 2
  have p3 : w0.cell? ⟨w.heap.size + 1, 3, none⟩ = some (.int .i64 ra.field) := X1.cell 3
  have hl_p : w.heap.size + 1 < w0.heap.size := by omega
  have q0 : w0.cell? ⟨w.heap.size + 1 + 1, 0, none⟩ = some (.string rb.name) := X2.cell 0
  have q1 : w0.cell? ⟨w.heap.size + 1 + 1, 1, none⟩ = some (.string rb.path) := X2.cell 1
  have q2 : w0.cell? ⟨w.heap.size + 1 + 1, 2, none⟩ = some (.int .i64 rb.schema) := X2.cell 2
  have q3 : w0.cell? ⟨w.heap.size + 1 + 1, 3, none⟩ = some (.int .i64 rb.field) := X2.cell 3
  have hl_q : w.heap.size + 1 + 1 < w0.heap.size := by omega
  have r0 : w0.cell? ⟨w.heap.size + 1 + 1 + 1, 0, none⟩ = some (.string rc.name) := X3.cell 0
  have r1 : w0.cell? ⟨w.heap.size + 1 + 1 + 1, 1, none⟩ = some (.string rc.path) := X3.cell 1
  have r2 : w0.cell? ⟨w.heap.size + 1 + 1 + 1, 2, none⟩ = some (.int .i64 rc.schema) := X3.cell 2
  have r3 : w0.cell? ⟨w.heap.size + 1 + 1 + 1, 3, none⟩ = some (.int .i64 rc.field) := X3.cell 3
  have hl_r : w.heap.size + 1 + 1 + 1 < w0.heap.size := by omega
  have hwl : w.heap.size ≤ w0.heap.size := hb0.size
  have Hb := Lib.hid hb0
  clear hw0 hb0 hsz X0 X1 X2 X3
  refine (sane_any _).mono ?_
  rintro e w1 ⟨rfl, hb1⟩
  replace x0 := cell_kept hb1 x0 hl_x
  replace x1 := cell_kept hb1 x1 hl_x
  replace x2 := cell_kept hb1 x2 hl_x
  replace x3 := cell_kept hb1 x3 hl_x
  replace x4 := cell_kept hb1 x4 hl_x
  replace x5 := cell_kept hb1 x5 hl_x
  replace p0 := cell_kept hb1 p0 hl_p
  replace p1 := cell_kept hb1 p1 hl_p
  replace p2 := cell_kept hb1 p2 hl_p
  replace p3 := cell_kept hb1 p3 hl_p
  replace q0 := cell_kept hb1 q0 hl_q
  replace q1 := cell_kept hb1 q1 hl_q
  replace q2 := cell_kept hb1 q2 hl_q
  replace q3 := cell_kept hb1 q3 hl_q
  replace r0 := cell_kept hb1 r0 hl_r
  replace r1 := cell_kept hb1 r1 hl_r
  replace r2 := cell_kept hb1 r2 hl_r
  replace r3 := cell_kept hb1 r3 hl_r
  replace c4 := cell_kept hb1 c4 hl_c
  replace Hb := Lib.hid (Hb.out.trans (hb1.mono hwl))
  replace hl_x := Nat.lt_of_lt_of_le hl_x hb1.size
  replace hl_p := Nat.lt_of_lt_of_le hl_p hb1.size
  replace hl_q := Nat.lt_of_lt_of_le hl_q hb1.size
  replace hl_r := Nat.lt_of_lt_of_le hl_r hb1.size
  replace hl_c := Nat.lt_of_lt_of_le hl_c hb1.size
  replace hwl := Nat.le_trans hwl hb1.size
  clear hb1
  go_wp2_with fail
  refine (few_q s ⟨a0, k0, a1, k1, some ⟨b, off, none⟩, k2, a3, k3, a4, k4, a5, k5⟩ _ (Hs.out.below Hb.out) hn true hfew).mono ?_
  rintro e w2 ⟨rfl, hb1⟩
  replace x0 := cell_kept hb1 x0 hl_x
  replace x1 := cell_kept hb1 x1 hl_x
  replace x2 := cell_kept hb1 x2 hl_x
  replace x3 := cell_kept hb1 x3 hl_x
  replace x4 := cell_kept hb1 x4 hl_x
  replace x5 := cell_kept hb1 x5 hl_x
  replace p0 := cell_kept hb1 p0 hl_p
  replace p1 := cell_kept hb1 p1 hl_p
  replace p2 := cell_kept hb1 p2 hl_p
  replace p3 := cell_kept hb1 p3 hl_p
  replace q0 := cell_kept hb1 q0 hl_q
  replace q1 := cell_kept hb1 q1 hl_q
  replace q2 := cell_kept hb1 q2 hl_q
  replace q3 := cell_kept hb1 q3 hl_q
  replace r0 := cell_kept hb1 r0 hl_r
  replace r1 := cell_kept hb1 r1 hl_r
  replace r2 := cell_kept hb1 r2 hl_r
  replace r3 := cell_kept hb1 r3 hl_r
  replace c4 := cell_kept hb1 c4 hl_c
  replace Hb := Lib.hid (Hb.out.trans (hb1.mono hwl))
  replace hl_x := Nat.lt_of_lt_of_le hl_x hb1.size
  replace hl_p := Nat.lt_of_lt_of_le hl_p hb1.size
  replace hl_q := Nat.lt_of_lt_of_le hl_q hb1.size
  replace hl_r := Nat.lt_of_lt_of_le hl_r hb1.size
  replace hl_c := Nat.lt_of_lt_of_le hl_c hb1.size
  replace hwl := Nat.le_trans hwl hb1.size
  clear hb1
  go_wp2_with fail
  refine wp_region_grown (by kernel_rfl) (by kernel_rfl) ?_
  repeat (go_big_quiet_step (first | (go_at_call_of 17 (ra.schema); go_at_call_of 17 (rb.schema); exact calls_grown (alike_eq s ⟨a0, k0, a1, k1, some ⟨b, off, none⟩, k2, a3, k3, a4, k4, a5, k5⟩ ra rb _ (Hs.out.below (Hb.out.trans ((grown_below _ _).mono hwl))) hsh false Hab.out)) | (go_at_call_of 17 (rb.schema); go_at_call_of 17 (rc.schema); exact calls_grown (alike_eq s ⟨a0, k0, a1, k1, some ⟨b, off, none⟩, k2, a3, k3, a4, k4, a5, k5⟩ rb rc _ (Hs.out.below (Hb.out.trans ((grown_below _ _).mono hwl))) hsh bc Hbc.out)) | (go_at_call_of 17 (ra.schema); go_at_call_of 17 (rc.schema); exact calls_grown (alike_eq s ⟨a0, k0, a1, k1, some ⟨b, off, none⟩, k2, a3, k3, a4, k4, a5, k5⟩ ra rc _ (Hs.out.below (Hb.out.trans ((grown_below _ _).mono hwl))) hsh ac Hac.out))))
  refine wpQuiet_nil ?_
  intro w3 hw0
  have hb1 : Below w2.heap.size w2 w3 := by obtain ⟨n, rfl⟩ := hw0; exact grown_below _ n
  clear hw0
  replace x0 := cell_kept hb1 x0 hl_x
  replace x1 := cell_kept hb1 x1 hl_x
  replace x2 := cell_kept hb1 x2 hl_x
  replace x3 := cell_kept hb1 x3 hl_x
  replace x4 := cell_kept hb1 x4 hl_x
  replace x5 := cell_kept hb1 x5 hl_x
  replace p0 := cell_kept hb1 p0 hl_p
  replace p1 := cell_kept hb1 p1 hl_p
  replace p2 := cell_kept hb1 p2 hl_p
  replace p3 := cell_kept hb1 p3 hl_p
  replace q0 := cell_kept hb1 q0 hl_q
  replace q1 := cell_kept hb1 q1 hl_q
  replace q2 := cell_kept hb1 q2 hl_q
  replace q3 := cell_kept hb1 q3 hl_q
  replace r0 := cell_kept hb1 r0 hl_r
  replace r1 := cell_kept hb1 r1 hl_r
  replace r2 := cell_kept hb1 r2 hl_r
  replace r3 := cell_kept hb1 r3 hl_r
  replace c4 := cell_kept hb1 c4 hl_c
  replace Hb := Lib.hid (Hb.out.trans (hb1.mono hwl))
  replace hl_x := Nat.lt_of_lt_of_le hl_x hb1.size
  replace hl_p := Nat.lt_of_lt_of_le hl_p hb1.size
  replace hl_q := Nat.lt_of_lt_of_le hl_q hb1.size
  replace hl_r := Nat.lt_of_lt_of_le hl_r hb1.size
  replace hl_c := Nat.lt_of_lt_of_le hl_c hb1.size
  replace hwl := Nat.le_trans hwl hb1.size
  clear hb1
  go_wp2_with fail
  refine (alike_eq s ⟨a0, k0, a1, k1, some ⟨b, off, none⟩, k2, a3, k3, a4, k4, a5, k5⟩ rb ra _ (Hs.out.below Hb.out) hsh false (by rw [alike_symm]; exact Hab.out)).mono ?_
  rintro e w4 ⟨rfl, hb1⟩
  replace x0 := cell_kept hb1 x0 hl_x
  replace x1 := cell_kept hb1 x1 hl_x
  replace x2 := cell_kept hb1 x2 hl_x
  replace x3 := cell_kept hb1 x3 hl_x
  replace x4 := cell_kept hb1 x4 hl_x
  replace x5 := cell_kept hb1 x5 hl_x
  replace p0 := cell_kept hb1 p0 hl_p
  replace p1 := cell_kept hb1 p1 hl_p
  replace p2 := cell_kept hb1 p2 hl_p
  replace p3 := cell_kept hb1 p3 hl_p
  replace q0 := cell_kept hb1 q0 hl_q
  replace q1 := cell_kept hb1 q1 hl_q
  replace q2 := cell_kept hb1 q2 hl_q
  replace q3 := cell_kept hb1 q3 hl_q
  replace r0 := cell_kept hb1 r0 hl_r
  replace r1 := cell_kept hb1 r1 hl_r
  replace r2 := cell_kept hb1 r2 hl_r
  replace r3 := cell_kept hb1 r3 hl_r
  replace c4 := cell_kept hb1 c4 hl_c
  replace Hb := Lib.hid (Hb.out.trans (hb1.mono hwl))
  replace hl_x := Nat.lt_of_lt_of_le hl_x hb1.size
  replace hl_p := Nat.lt_of_lt_of_le hl_p hb1.size
  replace hl_q := Nat.lt_of_lt_of_le hl_q hb1.size
  replace hl_r := Nat.lt_of_lt_of_le hl_r hb1.size
  replace hl_c := Nat.lt_of_lt_of_le hl_c hb1.size
  replace hwl := Nat.le_trans hwl hb1.size
  clear hb1
  go_wp2_with fail
  refine wp_region_grown (by kernel_rfl) (by kernel_rfl) ?_
  repeat (go_big_quiet_step (fail))
  refine wpQuiet_nil ?_
  intro w6 hw0
  have hb1 : Below w4.heap.size w4 w6 := by obtain ⟨n, rfl⟩ := hw0; exact grown_below _ n
  clear hw0
  replace x0 := cell_kept hb1 x0 hl_x
  replace x1 := cell_kept hb1 x1 hl_x
  replace x2 := cell_kept hb1 x2 hl_x
  replace x3 := cell_kept hb1 x3 hl_x
  replace x4 := cell_kept hb1 x4 hl_x
  replace x5 := cell_kept hb1 x5 hl_x
  replace p0 := cell_kept hb1 p0 hl_p
  replace p1 := cell_kept hb1 p1 hl_p
  replace p2 := cell_kept hb1 p2 hl_p
  replace p3 := cell_kept hb1 p3 hl_p
  replace q0 := cell_kept hb1 q0 hl_q
  replace q1 := cell_kept hb1 q1 hl_q
  replace q2 := cell_kept hb1 q2 hl_q
  replace q3 := cell_kept hb1 q3 hl_q
  replace r0 := cell_kept hb1 r0 hl_r
  replace r1 := cell_kept hb1 r1 hl_r
  replace r2 := cell_kept hb1 r2 hl_r
  replace r3 := cell_kept hb1 r3 hl_r
  replace c4 := cell_kept hb1 c4 hl_c
  replace Hb := Lib.hid (Hb.out.trans (hb1.mono hwl))
  replace hl_x := Nat.lt_of_lt_of_le hl_x hb1.size
  replace hl_p := Nat.lt_of_lt_of_le hl_p hb1.size
  replace hl_q := Nat.lt_of_lt_of_le hl_q hb1.size
  replace hl_r := Nat.lt_of_lt_of_le hl_r hb1.size
  replace hl_c := Nat.lt_of_lt_of_le hl_c hb1.size
  replace hwl := Nat.le_trans hwl hb1.size
  clear hb1
  go_wp2_with fail
  refine (check_q s ⟨a0, k0, a1, k1, some ⟨b, off, none⟩, k2, a3, k3, a4, k4, a5, k5⟩ _ (Hs.out.below Hb.out) hfew c Hc.out).mono ?_
  rintro e w7 ⟨rfl, hb1⟩
  replace x0 := cell_kept hb1 x0 hl_x
  replace x1 := cell_kept hb1 x1 hl_x
  replace x2 := cell_kept hb1 x2 hl_x
  replace x3 := cell_kept hb1 x3 hl_x
  replace x4 := cell_kept hb1 x4 hl_x
  replace x5 := cell_kept hb1 x5 hl_x
  replace p0 := cell_kept hb1 p0 hl_p
  replace p1 := cell_kept hb1 p1 hl_p
  replace p2 := cell_kept hb1 p2 hl_p
  replace p3 := cell_kept hb1 p3 hl_p
  replace q0 := cell_kept hb1 q0 hl_q
  replace q1 := cell_kept hb1 q1 hl_q
  replace q2 := cell_kept hb1 q2 hl_q
  replace q3 := cell_kept hb1 q3 hl_q
  replace r0 := cell_kept hb1 r0 hl_r
  replace r1 := cell_kept hb1 r1 hl_r
  replace r2 := cell_kept hb1 r2 hl_r
  replace r3 := cell_kept hb1 r3 hl_r
  replace c4 := cell_kept hb1 c4 hl_c
  replace Hb := Lib.hid (Hb.out.trans (hb1.mono hwl))
  replace hl_x := Nat.lt_of_lt_of_le hl_x hb1.size
  replace hl_p := Nat.lt_of_lt_of_le hl_p hb1.size
  replace hl_q := Nat.lt_of_lt_of_le hl_q hb1.size
  replace hl_r := Nat.lt_of_lt_of_le hl_r hb1.size
  replace hl_c := Nat.lt_of_lt_of_le hl_c hb1.size
  replace hwl := Nat.le_trans hwl hb1.size
  clear hb1
  go_wp2_with fail
  refine (alike_eq s ⟨a0, k0, a1, k1, some ⟨b, off, none⟩, k2, a3, k3, a4, k4, a5, k5⟩ ra ra _ (Hs.out.below Hb.out) hsh true Haa.out).mono ?_
  rintro e w8 ⟨rfl, hb1⟩
  replace x0 := cell_kept hb1 x0 hl_x
  replace x1 := cell_kept hb1 x1 hl_x
  replace x2 := cell_kept hb1 x2 hl_x
  replace x3 := cell_kept hb1 x3 hl_x
  replace x4 := cell_kept hb1 x4 hl_x
  replace x5 := cell_kept hb1 x5 hl_x
  replace p0 := cell_kept hb1 p0 hl_p
  replace p1 := cell_kept hb1 p1 hl_p
  replace p2 := cell_kept hb1 p2 hl_p
  replace p3 := cell_kept hb1 p3 hl_p
  replace q0 := cell_kept hb1 q0 hl_q
  replace q1 := cell_kept hb1 q1 hl_q
  replace q2 := cell_kept hb1 q2 hl_q
  replace q3 := cell_kept hb1 q3 hl_q
  replace r0 := cell_kept hb1 r0 hl_r
  replace r1 := cell_kept hb1 r1 hl_r
  replace r2 := cell_kept hb1 r2 hl_r
  replace r3 := cell_kept hb1 r3 hl_r
  replace c4 := cell_kept hb1 c4 hl_c
  replace Hb := Lib.hid (Hb.out.trans (hb1.mono hwl))
  replace hl_x := Nat.lt_of_lt_of_le hl_x hb1.size
  replace hl_p := Nat.lt_of_lt_of_le hl_p hb1.size
  replace hl_q := Nat.lt_of_lt_of_le hl_q hb1.size
  replace hl_r := Nat.lt_of_lt_of_le hl_r hb1.size
  replace hl_c := Nat.lt_of_lt_of_le hl_c hb1.size
  replace hwl := Nat.le_trans hwl hb1.size
  clear hb1
  go_wp2
  go_ret
  exact ⟨rfl, Hb.out⟩
set_option maxRecDepth 20000 in
set_option maxHeartbeats 4000000 in
theorem walk_F_c1 (s : SourceD) (p : SrcAt) (ra rb rc : RefD) (w : World) (hs : Src w s p) (hn : Lens s) (hfew : fewB s = true) (bc : Bool) (ac : Bool) (hab : alikeB s ra rb = false) (hbc : alikeB s rb rc = bc) (hac : alikeB s ra rc = ac) (h1 : 0 ≤ ra.schema) (h2 : ra.schema < s.schemas.length) (h3 : 0 ≤ ra.field) (hsl : ra.schema.toNat < s.schemas.length) (h4 : ra.field < s.schemas[ra.schema.toNat].fields.length) (c : Int) (hc : checkB s = c) (hc0 : ¬ c = 0) :
    Calls Try.prog 6 #[s.val p, ra.val, rb.val, rc.val] w fun e w' => e = .returned (.bool true) ∧ Below w.heap.size w w' := by
  have hsh := (few_of hfew).short
  have Hab := Lib.hid hab
  have Hbc := Lib.hid hbc
  have Hac := Lib.hid hac
  clear hab hbc hac
  have Hc := Lib.hid hc
  clear hc
  have d1 : decide ((0 : Int) ≤ ra.schema) = true := decide_eq_true h1
  have d2 : decide (ra.schema < (s.schemas.length : Int)) = true := decide_eq_true h2
  have d3 : decide ((0 : Int) ≤ ra.field) = true := decide_eq_true h3
  obtain ⟨b, off, e1, hl_d, _, fa, fk, da, dk, d0_, d1_, d2_, d3_, c4, d5_, -⟩ := SchemaD.out hs.h2 ra.schema.toNat hsl
  generalize s.schemas[ra.schema.toNat].fields.length = fl at *
  have d4 : decide (ra.field < (fl : Int)) = true := decide_eq_true h4
  clear d0_ d1_ d2_ d3_ d5_
  have q0 : (c != 0) = true := by simpa using hc0
  obtain ⟨a0, k0, a1, k1, a2, k2, a3, k3, a4, k4, a5, k5⟩ := p
  simp only at e1
  subst e1
  have hl_c := hl_d
  clear hl_d
  have Hs := Lib.hid hs
  clear hs
  go_enter Try.func6, Try.ntmps6
  go_wp2_with fail
  generalize hw0 : World.alloc _ _ = w0
  obtain ⟨X0, X1, X2, X3, hsz, hb0⟩ := blk4 hw0
  replace c4 := cell_kept hb0 c4 hl_c
  have hw_c := hl_c
  replace hl_c := Nat.lt_of_lt_of_le hl_c hb0.size
  have x0 : w0.cell? ⟨w.heap.size, 0, none⟩ = some (.slice a0 s.issuers.length k0) := X0.cell 0
  have x1 : w0.cell? ⟨w.heap.size, 1, none⟩ = some (.slice a1 s.units.length k1) := X0.cell 1
  have x2 : w0.cell? ⟨w.heap.size, 2, none⟩ = some (.slice (some ⟨b, off, none⟩) s.schemas.length k2) := X0.cell 2
  have x3 : w0.cell? ⟨w.heap.size, 3, none⟩ = some (.slice a3 s.rules.length k3) := X0.cell 3
  have x4 : w0.cell? ⟨w.heap.size, 4, none⟩ = some (.slice a4 s.converts k4) := X0.cell 4
  have x5 : w0.cell? ⟨w.heap.size, 5, none⟩ = some (.slice a5 s.purposes.length k5) := X0.cell 5
  have hl_x : w.heap.size < w0.heap.size := by omega
  have p0 : w0.cell? ⟨w.heap.size + 1, 0, none⟩ = some (.string ra.name) := X1.cell 0
  have p1 : w0.cell? ⟨w.heap.size + 1, 1, none⟩ = some (.string ra.path) := X1.cell 1
  have p2 : w0.cell? ⟨w.heap.size + 1, 2, none⟩ = some (.int .i64 ra.schema) := X1.cell 2
  have p3 : w0.cell? ⟨w.heap.size + 1, 3, none⟩ = some (.int .i64 ra.field) := X1.cell 3
  have hl_p : w.heap.size + 1 < w0.heap.size := by omega
  have q0 : w0.cell? ⟨w.heap.size + 1 + 1, 0, none⟩ = some (.string rb.name) := X2.cell 0
  have q1 : w0.cell? ⟨w.heap.size + 1 + 1, 1, none⟩ = some (.string rb.path) := X2.cell 1
  have q2 : w0.cell? ⟨w.heap.size + 1 + 1, 2, none⟩ = some (.int .i64 rb.schema) := X2.cell 2
  have q3 : w0.cell? ⟨w.heap.size + 1 + 1, 3, none⟩ = some (.int .i64 rb.field) := X2.cell 3
  have hl_q : w.heap.size + 1 + 1 < w0.heap.size := by omega
  have r0 : w0.cell? ⟨w.heap.size + 1 + 1 + 1, 0, none⟩ = some (.string rc.name) := X3.cell 0
  have r1 : w0.cell? ⟨w.heap.size + 1 + 1 + 1, 1, none⟩ = some (.string rc.path) := X3.cell 1
  have r2 : w0.cell? ⟨w.heap.size + 1 + 1 + 1, 2, none⟩ = some (.int .i64 rc.schema) := X3.cell 2
  have r3 : w0.cell? ⟨w.heap.size + 1 + 1 + 1, 3, none⟩ = some (.int .i64 rc.field) := X3.cell 3
  have hl_r : w.heap.size + 1 + 1 + 1 < w0.heap.size := by omega
  have hwl : w.heap.size ≤ w0.heap.size := hb0.size
  have Hb := Lib.hid hb0
  clear hw0 hb0 hsz X0 X1 X2 X3
  refine (sane_any _).mono ?_
  rintro e w1 ⟨rfl, hb1⟩
  replace x0 := cell_kept hb1 x0 hl_x
  replace x1 := cell_kept hb1 x1 hl_x
  replace x2 := cell_kept hb1 x2 hl_x
  replace x3 := cell_kept hb1 x3 hl_x
  replace x4 := cell_kept hb1 x4 hl_x
  replace x5 := cell_kept hb1 x5 hl_x
  replace p0 := cell_kept hb1 p0 hl_p
  replace p1 := cell_kept hb1 p1 hl_p
  replace p2 := cell_kept hb1 p2 hl_p
  replace p3 := cell_kept hb1 p3 hl_p
  replace q0 := cell_kept hb1 q0 hl_q
  replace q1 := cell_kept hb1 q1 hl_q
  replace q2 := cell_kept hb1 q2 hl_q
  replace q3 := cell_kept hb1 q3 hl_q
  replace r0 := cell_kept hb1 r0 hl_r
  replace r1 := cell_kept hb1 r1 hl_r
  replace r2 := cell_kept hb1 r2 hl_r
  replace r3 := cell_kept hb1 r3 hl_r
  replace c4 := cell_kept hb1 c4 hl_c
  replace Hb := Lib.hid (Hb.out.trans (hb1.mono hwl))
  replace hl_x := Nat.lt_of_lt_of_le hl_x hb1.size
  replace hl_p := Nat.lt_of_lt_of_le hl_p hb1.size
  replace hl_q := Nat.lt_of_lt_of_le hl_q hb1.size
  replace hl_r := Nat.lt_of_lt_of_le hl_r hb1.size
  replace hl_c := Nat.lt_of_lt_of_le hl_c hb1.size
  replace hwl := Nat.le_trans hwl hb1.size
  clear hb1
  go_wp2_with fail
  refine (few_q s ⟨a0, k0, a1, k1, some ⟨b, off, none⟩, k2, a3, k3, a4, k4, a5, k5⟩ _ (Hs.out.below Hb.out) hn true hfew).mono ?_
  rintro e w2 ⟨rfl, hb1⟩
  replace x0 := cell_kept hb1 x0 hl_x
  replace x1 := cell_kept hb1 x1 hl_x
  replace x2 := cell_kept hb1 x2 hl_x
  replace x3 := cell_kept hb1 x3 hl_x
  replace x4 := cell_kept hb1 x4 hl_x
  replace x5 := cell_kept hb1 x5 hl_x
  replace p0 := cell_kept hb1 p0 hl_p
  replace p1 := cell_kept hb1 p1 hl_p
  replace p2 := cell_kept hb1 p2 hl_p
  replace p3 := cell_kept hb1 p3 hl_p
  replace q0 := cell_kept hb1 q0 hl_q
  replace q1 := cell_kept hb1 q1 hl_q
  replace q2 := cell_kept hb1 q2 hl_q
  replace q3 := cell_kept hb1 q3 hl_q
  replace r0 := cell_kept hb1 r0 hl_r
  replace r1 := cell_kept hb1 r1 hl_r
  replace r2 := cell_kept hb1 r2 hl_r
  replace r3 := cell_kept hb1 r3 hl_r
  replace c4 := cell_kept hb1 c4 hl_c
  replace Hb := Lib.hid (Hb.out.trans (hb1.mono hwl))
  replace hl_x := Nat.lt_of_lt_of_le hl_x hb1.size
  replace hl_p := Nat.lt_of_lt_of_le hl_p hb1.size
  replace hl_q := Nat.lt_of_lt_of_le hl_q hb1.size
  replace hl_r := Nat.lt_of_lt_of_le hl_r hb1.size
  replace hl_c := Nat.lt_of_lt_of_le hl_c hb1.size
  replace hwl := Nat.le_trans hwl hb1.size
  clear hb1
  go_wp2_with fail
  refine wp_region_grown (by kernel_rfl) (by kernel_rfl) ?_
  repeat (go_big_quiet_step (first | (go_at_call_of 17 (ra.schema); go_at_call_of 17 (rb.schema); exact calls_grown (alike_eq s ⟨a0, k0, a1, k1, some ⟨b, off, none⟩, k2, a3, k3, a4, k4, a5, k5⟩ ra rb _ (Hs.out.below (Hb.out.trans ((grown_below _ _).mono hwl))) hsh false Hab.out)) | (go_at_call_of 17 (rb.schema); go_at_call_of 17 (rc.schema); exact calls_grown (alike_eq s ⟨a0, k0, a1, k1, some ⟨b, off, none⟩, k2, a3, k3, a4, k4, a5, k5⟩ rb rc _ (Hs.out.below (Hb.out.trans ((grown_below _ _).mono hwl))) hsh bc Hbc.out)) | (go_at_call_of 17 (ra.schema); go_at_call_of 17 (rc.schema); exact calls_grown (alike_eq s ⟨a0, k0, a1, k1, some ⟨b, off, none⟩, k2, a3, k3, a4, k4, a5, k5⟩ ra rc _ (Hs.out.below (Hb.out.trans ((grown_below _ _).mono hwl))) hsh ac Hac.out))))
  refine wpQuiet_nil ?_
  intro w3 hw0
  have hb1 : Below w2.heap.size w2 w3 := by obtain ⟨n, rfl⟩ := hw0; exact grown_below _ n
  clear hw0
  replace x0 := cell_kept hb1 x0 hl_x
  replace x1 := cell_kept hb1 x1 hl_x
  replace x2 := cell_kept hb1 x2 hl_x
  replace x3 := cell_kept hb1 x3 hl_x
  replace x4 := cell_kept hb1 x4 hl_x
  replace x5 := cell_kept hb1 x5 hl_x
  replace p0 := cell_kept hb1 p0 hl_p
  replace p1 := cell_kept hb1 p1 hl_p
  replace p2 := cell_kept hb1 p2 hl_p
  replace p3 := cell_kept hb1 p3 hl_p
  replace q0 := cell_kept hb1 q0 hl_q
  replace q1 := cell_kept hb1 q1 hl_q
  replace q2 := cell_kept hb1 q2 hl_q
  replace q3 := cell_kept hb1 q3 hl_q
  replace r0 := cell_kept hb1 r0 hl_r
  replace r1 := cell_kept hb1 r1 hl_r
  replace r2 := cell_kept hb1 r2 hl_r
  replace r3 := cell_kept hb1 r3 hl_r
  replace c4 := cell_kept hb1 c4 hl_c
  replace Hb := Lib.hid (Hb.out.trans (hb1.mono hwl))
  replace hl_x := Nat.lt_of_lt_of_le hl_x hb1.size
  replace hl_p := Nat.lt_of_lt_of_le hl_p hb1.size
  replace hl_q := Nat.lt_of_lt_of_le hl_q hb1.size
  replace hl_r := Nat.lt_of_lt_of_le hl_r hb1.size
  replace hl_c := Nat.lt_of_lt_of_le hl_c hb1.size
  replace hwl := Nat.le_trans hwl hb1.size
  clear hb1
  go_wp2_with fail
  refine (alike_eq s ⟨a0, k0, a1, k1, some ⟨b, off, none⟩, k2, a3, k3, a4, k4, a5, k5⟩ rb ra _ (Hs.out.below Hb.out) hsh false (by rw [alike_symm]; exact Hab.out)).mono ?_
  rintro e w4 ⟨rfl, hb1⟩
  replace x0 := cell_kept hb1 x0 hl_x
  replace x1 := cell_kept hb1 x1 hl_x
  replace x2 := cell_kept hb1 x2 hl_x
  replace x3 := cell_kept hb1 x3 hl_x
  replace x4 := cell_kept hb1 x4 hl_x
  replace x5 := cell_kept hb1 x5 hl_x
  replace p0 := cell_kept hb1 p0 hl_p
  replace p1 := cell_kept hb1 p1 hl_p
  replace p2 := cell_kept hb1 p2 hl_p
  replace p3 := cell_kept hb1 p3 hl_p
  replace q0 := cell_kept hb1 q0 hl_q
  replace q1 := cell_kept hb1 q1 hl_q
  replace q2 := cell_kept hb1 q2 hl_q
  replace q3 := cell_kept hb1 q3 hl_q
  replace r0 := cell_kept hb1 r0 hl_r
  replace r1 := cell_kept hb1 r1 hl_r
  replace r2 := cell_kept hb1 r2 hl_r
  replace r3 := cell_kept hb1 r3 hl_r
  replace c4 := cell_kept hb1 c4 hl_c
  replace Hb := Lib.hid (Hb.out.trans (hb1.mono hwl))
  replace hl_x := Nat.lt_of_lt_of_le hl_x hb1.size
  replace hl_p := Nat.lt_of_lt_of_le hl_p hb1.size
  replace hl_q := Nat.lt_of_lt_of_le hl_q hb1.size
  replace hl_r := Nat.lt_of_lt_of_le hl_r hb1.size
  replace hl_c := Nat.lt_of_lt_of_le hl_c hb1.size
  replace hwl := Nat.le_trans hwl hb1.size
  clear hb1
  go_wp2_with fail
  refine wp_region_grown (by kernel_rfl) (by kernel_rfl) ?_
  repeat (go_big_quiet_step (fail))
  refine wpQuiet_nil ?_
  intro w6 hw0
  have hb1 : Below w4.heap.size w4 w6 := by obtain ⟨n, rfl⟩ := hw0; exact grown_below _ n
  clear hw0
  replace x0 := cell_kept hb1 x0 hl_x
  replace x1 := cell_kept hb1 x1 hl_x
  replace x2 := cell_kept hb1 x2 hl_x
  replace x3 := cell_kept hb1 x3 hl_x
  replace x4 := cell_kept hb1 x4 hl_x
  replace x5 := cell_kept hb1 x5 hl_x
  replace p0 := cell_kept hb1 p0 hl_p
  replace p1 := cell_kept hb1 p1 hl_p
  replace p2 := cell_kept hb1 p2 hl_p
  replace p3 := cell_kept hb1 p3 hl_p
  replace q0 := cell_kept hb1 q0 hl_q
  replace q1 := cell_kept hb1 q1 hl_q
  replace q2 := cell_kept hb1 q2 hl_q
  replace q3 := cell_kept hb1 q3 hl_q
  replace r0 := cell_kept hb1 r0 hl_r
  replace r1 := cell_kept hb1 r1 hl_r
  replace r2 := cell_kept hb1 r2 hl_r
  replace r3 := cell_kept hb1 r3 hl_r
  replace c4 := cell_kept hb1 c4 hl_c
  replace Hb := Lib.hid (Hb.out.trans (hb1.mono hwl))
  replace hl_x := Nat.lt_of_lt_of_le hl_x hb1.size
  replace hl_p := Nat.lt_of_lt_of_le hl_p hb1.size
  replace hl_q := Nat.lt_of_lt_of_le hl_q hb1.size
  replace hl_r := Nat.lt_of_lt_of_le hl_r hb1.size
  replace hl_c := Nat.lt_of_lt_of_le hl_c hb1.size
  replace hwl := Nat.le_trans hwl hb1.size
  clear hb1
  go_wp2_with fail
  refine (check_q s ⟨a0, k0, a1, k1, some ⟨b, off, none⟩, k2, a3, k3, a4, k4, a5, k5⟩ _ (Hs.out.below Hb.out) hfew c Hc.out).mono ?_
  rintro e w7 ⟨rfl, hb1⟩
  replace x0 := cell_kept hb1 x0 hl_x
  replace x1 := cell_kept hb1 x1 hl_x
  replace x2 := cell_kept hb1 x2 hl_x
  replace x3 := cell_kept hb1 x3 hl_x
  replace x4 := cell_kept hb1 x4 hl_x
  replace x5 := cell_kept hb1 x5 hl_x
  replace p0 := cell_kept hb1 p0 hl_p
  replace p1 := cell_kept hb1 p1 hl_p
  replace p2 := cell_kept hb1 p2 hl_p
  replace p3 := cell_kept hb1 p3 hl_p
  replace q0 := cell_kept hb1 q0 hl_q
  replace q1 := cell_kept hb1 q1 hl_q
  replace q2 := cell_kept hb1 q2 hl_q
  replace q3 := cell_kept hb1 q3 hl_q
  replace r0 := cell_kept hb1 r0 hl_r
  replace r1 := cell_kept hb1 r1 hl_r
  replace r2 := cell_kept hb1 r2 hl_r
  replace r3 := cell_kept hb1 r3 hl_r
  replace c4 := cell_kept hb1 c4 hl_c
  replace Hb := Lib.hid (Hb.out.trans (hb1.mono hwl))
  replace hl_x := Nat.lt_of_lt_of_le hl_x hb1.size
  replace hl_p := Nat.lt_of_lt_of_le hl_p hb1.size
  replace hl_q := Nat.lt_of_lt_of_le hl_q hb1.size
  replace hl_r := Nat.lt_of_lt_of_le hl_r hb1.size
  replace hl_c := Nat.lt_of_lt_of_le hl_c hb1.size
  replace hwl := Nat.le_trans hwl hb1.size
  clear hb1
  go_wp2
  go_ret
  exact ⟨rfl, Hb.out⟩

set_option maxRecDepth 20000 in
set_option maxHeartbeats 4000000 in
theorem walk_T_c0 (s : SourceD) (p : SrcAt) (ra rb rc : RefD) (w : World) (hs : Src w s p) (hn : Lens s) (hfew : fewB s = true) (hab : alikeB s ra rb = true) (hbc : alikeB s rb rc = true) (hac : alikeB s ra rc = true) (haa : alikeB s ra ra = true) (h1 : 0 ≤ ra.schema) (h2 : ra.schema < s.schemas.length) (h3 : 0 ≤ ra.field) (hsl : ra.schema.toNat < s.schemas.length) (h4 : ra.field < s.schemas[ra.schema.toNat].fields.length) (c : Int) (hc : checkB s = c) (hc0 : c = 0) :
    Calls Try.prog 6 #[s.val p, ra.val, rb.val, rc.val] w fun e w' => e = .returned (.bool true) ∧ Below w.heap.size w w' := by
  have hsh := (few_of hfew).short
  have Hab := Lib.hid hab
  have Hbc := Lib.hid hbc
  have Hac := Lib.hid hac
  clear hab hbc hac
  have Haa := Lib.hid haa
  clear haa
  have Hc := Lib.hid hc
  clear hc
  have d1 : decide ((0 : Int) ≤ ra.schema) = true := decide_eq_true h1
  have d2 : decide (ra.schema < (s.schemas.length : Int)) = true := decide_eq_true h2
  have d3 : decide ((0 : Int) ≤ ra.field) = true := decide_eq_true h3
  obtain ⟨b, off, e1, hl_d, _, fa, fk, da, dk, d0_, d1_, d2_, d3_, c4, d5_, -⟩ := SchemaD.out hs.h2 ra.schema.toNat hsl
  generalize s.schemas[ra.schema.toNat].fields.length = fl at *
  have d4 : decide (ra.field < (fl : Int)) = true := decide_eq_true h4
  clear d0_ d1_ d2_ d3_ d5_
  have q0 : (c != 0) = false := by simpa using hc0
  obtain ⟨a0, k0, a1, k1, a2, k2, a3, k3, a4, k4, a5, k5⟩ := p
  simp only at e1
  subst e1
  have hl_c := hl_d
  clear hl_d
  have Hs := Lib.hid hs
  clear hs
  go_enter Try.func6, Try.ntmps6
  go_wp2_with fail
  generalize hw0 : World.alloc _ _ = w0
  obtain ⟨X0, X1, X2, X3, hsz, hb0⟩ := blk4 hw0
  replace c4 := cell_kept hb0 c4 hl_c
  have hw_c := hl_c
  replace hl_c := Nat.lt_of_lt_of_le hl_c hb0.size
  have x0 : w0.cell? ⟨w.heap.size, 0, none⟩ = some (.slice a0 s.issuers.length k0) := X0.cell 0
  have x1 : w0.cell? ⟨w.heap.size, 1, none⟩ = some (.slice a1 s.units.length k1) := X0.cell 1
  have x2 : w0.cell? ⟨w.heap.size, 2, none⟩ = some (.slice (some ⟨b, off, none⟩) s.schemas.length k2) := X0.cell 2
  have x3 : w0.cell? ⟨w.heap.size, 3, none⟩ = some (.slice a3 s.rules.length k3) := X0.cell 3
  have x4 : w0.cell? ⟨w.heap.size, 4, none⟩ = some (.slice a4 s.converts k4) := X0.cell 4
  have x5 : w0.cell? ⟨w.heap.size, 5, none⟩ = some (.slice a5 s.purposes.length k5) := X0.cell 5
  have hl_x : w.heap.size < w0.heap.size := by omega
  have p0 : w0.cell? ⟨w.heap.size + 1, 0, none⟩ = some (.string ra.name) := X1.cell 0
  have p1 : w0.cell? ⟨w.heap.size + 1, 1, none⟩ = some (.string ra.path) := X1.cell 1
  have p2 : w0.cell? ⟨w.heap.size + 1, 2, none⟩ = some (.int .i64 ra.schema) := X1.cell 2
  have p3 : w0.cell? ⟨w.heap.size + 1, 3, none⟩ = some (.int .i64 ra.field) := X1.cell 3
  have hl_p : w.heap.size + 1 < w0.heap.size := by omega
  have q0 : w0.cell? ⟨w.heap.size + 1 + 1, 0, none⟩ = some (.string rb.name) := X2.cell 0
  have q1 : w0.cell? ⟨w.heap.size + 1 + 1, 1, none⟩ = some (.string rb.path) := X2.cell 1
  have q2 : w0.cell? ⟨w.heap.size + 1 + 1, 2, none⟩ = some (.int .i64 rb.schema) := X2.cell 2
  have q3 : w0.cell? ⟨w.heap.size + 1 + 1, 3, none⟩ = some (.int .i64 rb.field) := X2.cell 3
  have hl_q : w.heap.size + 1 + 1 < w0.heap.size := by omega
  have r0 : w0.cell? ⟨w.heap.size + 1 + 1 + 1, 0, none⟩ = some (.string rc.name) := X3.cell 0
  have r1 : w0.cell? ⟨w.heap.size + 1 + 1 + 1, 1, none⟩ = some (.string rc.path) := X3.cell 1
  have r2 : w0.cell? ⟨w.heap.size + 1 + 1 + 1, 2, none⟩ = some (.int .i64 rc.schema) := X3.cell 2
  have r3 : w0.cell? ⟨w.heap.size + 1 + 1 + 1, 3, none⟩ = some (.int .i64 rc.field) := X3.cell 3
  have hl_r : w.heap.size + 1 + 1 + 1 < w0.heap.size := by omega
  have hwl : w.heap.size ≤ w0.heap.size := hb0.size
  have Hb := Lib.hid hb0
  clear hw0 hb0 hsz X0 X1 X2 X3
  refine (sane_any _).mono ?_
  rintro e w1 ⟨rfl, hb1⟩
  replace x0 := cell_kept hb1 x0 hl_x
  replace x1 := cell_kept hb1 x1 hl_x
  replace x2 := cell_kept hb1 x2 hl_x
  replace x3 := cell_kept hb1 x3 hl_x
  replace x4 := cell_kept hb1 x4 hl_x
  replace x5 := cell_kept hb1 x5 hl_x
  replace p0 := cell_kept hb1 p0 hl_p
  replace p1 := cell_kept hb1 p1 hl_p
  replace p2 := cell_kept hb1 p2 hl_p
  replace p3 := cell_kept hb1 p3 hl_p
  replace q0 := cell_kept hb1 q0 hl_q
  replace q1 := cell_kept hb1 q1 hl_q
  replace q2 := cell_kept hb1 q2 hl_q
  replace q3 := cell_kept hb1 q3 hl_q
  replace r0 := cell_kept hb1 r0 hl_r
  replace r1 := cell_kept hb1 r1 hl_r
  replace r2 := cell_kept hb1 r2 hl_r
  replace r3 := cell_kept hb1 r3 hl_r
  replace c4 := cell_kept hb1 c4 hl_c
  replace Hb := Lib.hid (Hb.out.trans (hb1.mono hwl))
  replace hl_x := Nat.lt_of_lt_of_le hl_x hb1.size
  replace hl_p := Nat.lt_of_lt_of_le hl_p hb1.size
  replace hl_q := Nat.lt_of_lt_of_le hl_q hb1.size
  replace hl_r := Nat.lt_of_lt_of_le hl_r hb1.size
  replace hl_c := Nat.lt_of_lt_of_le hl_c hb1.size
  replace hwl := Nat.le_trans hwl hb1.size
  clear hb1
  go_wp2_with fail
  refine (few_q s ⟨a0, k0, a1, k1, some ⟨b, off, none⟩, k2, a3, k3, a4, k4, a5, k5⟩ _ (Hs.out.below Hb.out) hn true hfew).mono ?_
  rintro e w2 ⟨rfl, hb1⟩
  replace x0 := cell_kept hb1 x0 hl_x
  replace x1 := cell_kept hb1 x1 hl_x
  replace x2 := cell_kept hb1 x2 hl_x
  replace x3 := cell_kept hb1 x3 hl_x
  replace x4 := cell_kept hb1 x4 hl_x
  replace x5 := cell_kept hb1 x5 hl_x
  replace p0 := cell_kept hb1 p0 hl_p
  replace p1 := cell_kept hb1 p1 hl_p
  replace p2 := cell_kept hb1 p2 hl_p
  replace p3 := cell_kept hb1 p3 hl_p
  replace q0 := cell_kept hb1 q0 hl_q
  replace q1 := cell_kept hb1 q1 hl_q
  replace q2 := cell_kept hb1 q2 hl_q
  replace q3 := cell_kept hb1 q3 hl_q
  replace r0 := cell_kept hb1 r0 hl_r
  replace r1 := cell_kept hb1 r1 hl_r
  replace r2 := cell_kept hb1 r2 hl_r
  replace r3 := cell_kept hb1 r3 hl_r
  replace c4 := cell_kept hb1 c4 hl_c
  replace Hb := Lib.hid (Hb.out.trans (hb1.mono hwl))
  replace hl_x := Nat.lt_of_lt_of_le hl_x hb1.size
  replace hl_p := Nat.lt_of_lt_of_le hl_p hb1.size
  replace hl_q := Nat.lt_of_lt_of_le hl_q hb1.size
  replace hl_r := Nat.lt_of_lt_of_le hl_r hb1.size
  replace hl_c := Nat.lt_of_lt_of_le hl_c hb1.size
  replace hwl := Nat.le_trans hwl hb1.size
  clear hb1
  go_wp2_with fail
  refine wp_region_grown (by kernel_rfl) (by kernel_rfl) ?_
  repeat (go_big_quiet_step (first | (go_at_call_of 17 (ra.schema); go_at_call_of 17 (rb.schema); exact calls_grown (alike_eq s ⟨a0, k0, a1, k1, some ⟨b, off, none⟩, k2, a3, k3, a4, k4, a5, k5⟩ ra rb _ (Hs.out.below (Hb.out.trans ((grown_below _ _).mono hwl))) hsh true Hab.out)) | (go_at_call_of 17 (rb.schema); go_at_call_of 17 (rc.schema); exact calls_grown (alike_eq s ⟨a0, k0, a1, k1, some ⟨b, off, none⟩, k2, a3, k3, a4, k4, a5, k5⟩ rb rc _ (Hs.out.below (Hb.out.trans ((grown_below _ _).mono hwl))) hsh true Hbc.out)) | (go_at_call_of 17 (ra.schema); go_at_call_of 17 (rc.schema); exact calls_grown (alike_eq s ⟨a0, k0, a1, k1, some ⟨b, off, none⟩, k2, a3, k3, a4, k4, a5, k5⟩ ra rc _ (Hs.out.below (Hb.out.trans ((grown_below _ _).mono hwl))) hsh true Hac.out))))
  refine wpQuiet_nil ?_
  intro w3 hw0
  have hb1 : Below w2.heap.size w2 w3 := by obtain ⟨n, rfl⟩ := hw0; exact grown_below _ n
  clear hw0
  replace x0 := cell_kept hb1 x0 hl_x
  replace x1 := cell_kept hb1 x1 hl_x
  replace x2 := cell_kept hb1 x2 hl_x
  replace x3 := cell_kept hb1 x3 hl_x
  replace x4 := cell_kept hb1 x4 hl_x
  replace x5 := cell_kept hb1 x5 hl_x
  replace p0 := cell_kept hb1 p0 hl_p
  replace p1 := cell_kept hb1 p1 hl_p
  replace p2 := cell_kept hb1 p2 hl_p
  replace p3 := cell_kept hb1 p3 hl_p
  replace q0 := cell_kept hb1 q0 hl_q
  replace q1 := cell_kept hb1 q1 hl_q
  replace q2 := cell_kept hb1 q2 hl_q
  replace q3 := cell_kept hb1 q3 hl_q
  replace r0 := cell_kept hb1 r0 hl_r
  replace r1 := cell_kept hb1 r1 hl_r
  replace r2 := cell_kept hb1 r2 hl_r
  replace r3 := cell_kept hb1 r3 hl_r
  replace c4 := cell_kept hb1 c4 hl_c
  replace Hb := Lib.hid (Hb.out.trans (hb1.mono hwl))
  replace hl_x := Nat.lt_of_lt_of_le hl_x hb1.size
  replace hl_p := Nat.lt_of_lt_of_le hl_p hb1.size
  replace hl_q := Nat.lt_of_lt_of_le hl_q hb1.size
  replace hl_r := Nat.lt_of_lt_of_le hl_r hb1.size
  replace hl_c := Nat.lt_of_lt_of_le hl_c hb1.size
  replace hwl := Nat.le_trans hwl hb1.size
  clear hb1
  go_wp2_with fail
  refine (alike_eq s ⟨a0, k0, a1, k1, some ⟨b, off, none⟩, k2, a3, k3, a4, k4, a5, k5⟩ rb ra _ (Hs.out.below Hb.out) hsh true (by rw [alike_symm]; exact Hab.out)).mono ?_
  rintro e w4 ⟨rfl, hb1⟩
  replace x0 := cell_kept hb1 x0 hl_x
  replace x1 := cell_kept hb1 x1 hl_x
  replace x2 := cell_kept hb1 x2 hl_x
  replace x3 := cell_kept hb1 x3 hl_x
  replace x4 := cell_kept hb1 x4 hl_x
  replace x5 := cell_kept hb1 x5 hl_x
  replace p0 := cell_kept hb1 p0 hl_p
  replace p1 := cell_kept hb1 p1 hl_p
  replace p2 := cell_kept hb1 p2 hl_p
  replace p3 := cell_kept hb1 p3 hl_p
  replace q0 := cell_kept hb1 q0 hl_q
  replace q1 := cell_kept hb1 q1 hl_q
  replace q2 := cell_kept hb1 q2 hl_q
  replace q3 := cell_kept hb1 q3 hl_q
  replace r0 := cell_kept hb1 r0 hl_r
  replace r1 := cell_kept hb1 r1 hl_r
  replace r2 := cell_kept hb1 r2 hl_r
  replace r3 := cell_kept hb1 r3 hl_r
  replace c4 := cell_kept hb1 c4 hl_c
  replace Hb := Lib.hid (Hb.out.trans (hb1.mono hwl))
  replace hl_x := Nat.lt_of_lt_of_le hl_x hb1.size
  replace hl_p := Nat.lt_of_lt_of_le hl_p hb1.size
  replace hl_q := Nat.lt_of_lt_of_le hl_q hb1.size
  replace hl_r := Nat.lt_of_lt_of_le hl_r hb1.size
  replace hl_c := Nat.lt_of_lt_of_le hl_c hb1.size
  replace hwl := Nat.le_trans hwl hb1.size
  clear hb1
  go_wp2_with fail
  refine (alike_eq s ⟨a0, k0, a1, k1, some ⟨b, off, none⟩, k2, a3, k3, a4, k4, a5, k5⟩ ra ra _ (Hs.out.below Hb.out) hsh true Haa.out).mono ?_
  rintro e w5 ⟨rfl, hb1⟩
  replace x0 := cell_kept hb1 x0 hl_x
  replace x1 := cell_kept hb1 x1 hl_x
  replace x2 := cell_kept hb1 x2 hl_x
  replace x3 := cell_kept hb1 x3 hl_x
  replace x4 := cell_kept hb1 x4 hl_x
  replace x5 := cell_kept hb1 x5 hl_x
  replace p0 := cell_kept hb1 p0 hl_p
  replace p1 := cell_kept hb1 p1 hl_p
  replace p2 := cell_kept hb1 p2 hl_p
  replace p3 := cell_kept hb1 p3 hl_p
  replace q0 := cell_kept hb1 q0 hl_q
  replace q1 := cell_kept hb1 q1 hl_q
  replace q2 := cell_kept hb1 q2 hl_q
  replace q3 := cell_kept hb1 q3 hl_q
  replace r0 := cell_kept hb1 r0 hl_r
  replace r1 := cell_kept hb1 r1 hl_r
  replace r2 := cell_kept hb1 r2 hl_r
  replace r3 := cell_kept hb1 r3 hl_r
  replace c4 := cell_kept hb1 c4 hl_c
  replace Hb := Lib.hid (Hb.out.trans (hb1.mono hwl))
  replace hl_x := Nat.lt_of_lt_of_le hl_x hb1.size
  replace hl_p := Nat.lt_of_lt_of_le hl_p hb1.size
  replace hl_q := Nat.lt_of_lt_of_le hl_q hb1.size
  replace hl_r := Nat.lt_of_lt_of_le hl_r hb1.size
  replace hl_c := Nat.lt_of_lt_of_le hl_c hb1.size
  replace hwl := Nat.le_trans hwl hb1.size
  clear hb1
  go_wp2_with fail
  refine wp_region_grown (by kernel_rfl) (by kernel_rfl) ?_
  repeat (go_big_quiet_step (fail))
  refine wpQuiet_nil ?_
  intro w6 hw0
  have hb1 : Below w5.heap.size w5 w6 := by obtain ⟨n, rfl⟩ := hw0; exact grown_below _ n
  clear hw0
  replace x0 := cell_kept hb1 x0 hl_x
  replace x1 := cell_kept hb1 x1 hl_x
  replace x2 := cell_kept hb1 x2 hl_x
  replace x3 := cell_kept hb1 x3 hl_x
  replace x4 := cell_kept hb1 x4 hl_x
  replace x5 := cell_kept hb1 x5 hl_x
  replace p0 := cell_kept hb1 p0 hl_p
  replace p1 := cell_kept hb1 p1 hl_p
  replace p2 := cell_kept hb1 p2 hl_p
  replace p3 := cell_kept hb1 p3 hl_p
  replace q0 := cell_kept hb1 q0 hl_q
  replace q1 := cell_kept hb1 q1 hl_q
  replace q2 := cell_kept hb1 q2 hl_q
  replace q3 := cell_kept hb1 q3 hl_q
  replace r0 := cell_kept hb1 r0 hl_r
  replace r1 := cell_kept hb1 r1 hl_r
  replace r2 := cell_kept hb1 r2 hl_r
  replace r3 := cell_kept hb1 r3 hl_r
  replace c4 := cell_kept hb1 c4 hl_c
  replace Hb := Lib.hid (Hb.out.trans (hb1.mono hwl))
  replace hl_x := Nat.lt_of_lt_of_le hl_x hb1.size
  replace hl_p := Nat.lt_of_lt_of_le hl_p hb1.size
  replace hl_q := Nat.lt_of_lt_of_le hl_q hb1.size
  replace hl_r := Nat.lt_of_lt_of_le hl_r hb1.size
  replace hl_c := Nat.lt_of_lt_of_le hl_c hb1.size
  replace hwl := Nat.le_trans hwl hb1.size
  clear hb1
  go_wp2_with fail
  refine (check_q s ⟨a0, k0, a1, k1, some ⟨b, off, none⟩, k2, a3, k3, a4, k4, a5, k5⟩ _ (Hs.out.below Hb.out) hfew c Hc.out).mono ?_
  rintro e w7 ⟨rfl, hb1⟩
  replace x0 := cell_kept hb1 x0 hl_x
  replace x1 := cell_kept hb1 x1 hl_x
  replace x2 := cell_kept hb1 x2 hl_x
  replace x3 := cell_kept hb1 x3 hl_x
  replace x4 := cell_kept hb1 x4 hl_x
  replace x5 := cell_kept hb1 x5 hl_x
  replace p0 := cell_kept hb1 p0 hl_p
  replace p1 := cell_kept hb1 p1 hl_p
  replace p2 := cell_kept hb1 p2 hl_p
  replace p3 := cell_kept hb1 p3 hl_p
  replace q0 := cell_kept hb1 q0 hl_q
  replace q1 := cell_kept hb1 q1 hl_q
  replace q2 := cell_kept hb1 q2 hl_q
  replace q3 := cell_kept hb1 q3 hl_q
  replace r0 := cell_kept hb1 r0 hl_r
  replace r1 := cell_kept hb1 r1 hl_r
  replace r2 := cell_kept hb1 r2 hl_r
  replace r3 := cell_kept hb1 r3 hl_r
  replace c4 := cell_kept hb1 c4 hl_c
  replace Hb := Lib.hid (Hb.out.trans (hb1.mono hwl))
  replace hl_x := Nat.lt_of_lt_of_le hl_x hb1.size
  replace hl_p := Nat.lt_of_lt_of_le hl_p hb1.size
  replace hl_q := Nat.lt_of_lt_of_le hl_q hb1.size
  replace hl_r := Nat.lt_of_lt_of_le hl_r hb1.size
  replace hl_c := Nat.lt_of_lt_of_le hl_c hb1.size
  replace hwl := Nat.le_trans hwl hb1.size
  clear hb1
  go_wp2_with fail
  refine (alike_eq s ⟨a0, k0, a1, k1, some ⟨b, off, none⟩, k2, a3, k3, a4, k4, a5, k5⟩ ra ra _ (Hs.out.below Hb.out) hsh true Haa.out).mono ?_
  rintro e w8 ⟨rfl, hb1⟩
  replace x0 := cell_kept hb1 x0 hl_x
  replace x1 := cell_kept hb1 x1 hl_x
  replace x2 := cell_kept hb1 x2 hl_x
  replace x3 := cell_kept hb1 x3 hl_x
  replace x4 := cell_kept hb1 x4 hl_x
  replace x5 := cell_kept hb1 x5 hl_x
  replace p0 := cell_kept hb1 p0 hl_p
  replace p1 := cell_kept hb1 p1 hl_p
  replace p2 := cell_kept hb1 p2 hl_p
  replace p3 := cell_kept hb1 p3 hl_p
  replace q0 := cell_kept hb1 q0 hl_q
  replace q1 := cell_kept hb1 q1 hl_q
  replace q2 := cell_kept hb1 q2 hl_q
  replace q3 := cell_kept hb1 q3 hl_q
  replace r0 := cell_kept hb1 r0 hl_r
  replace r1 := cell_kept hb1 r1 hl_r
  replace r2 := cell_kept hb1 r2 hl_r
  replace r3 := cell_kept hb1 r3 hl_r
  replace c4 := cell_kept hb1 c4 hl_c
  replace Hb := Lib.hid (Hb.out.trans (hb1.mono hwl))
  replace hl_x := Nat.lt_of_lt_of_le hl_x hb1.size
  replace hl_p := Nat.lt_of_lt_of_le hl_p hb1.size
  replace hl_q := Nat.lt_of_lt_of_le hl_q hb1.size
  replace hl_r := Nat.lt_of_lt_of_le hl_r hb1.size
  replace hl_c := Nat.lt_of_lt_of_le hl_c hb1.size
  replace hwl := Nat.le_trans hwl hb1.size
  clear hb1
  go_wp2
  go_ret
  exact ⟨rfl, Hb.out⟩
set_option maxRecDepth 20000 in
set_option maxHeartbeats 4000000 in
theorem walk_T_c1 (s : SourceD) (p : SrcAt) (ra rb rc : RefD) (w : World) (hs : Src w s p) (hn : Lens s) (hfew : fewB s = true) (hab : alikeB s ra rb = true) (hbc : alikeB s rb rc = true) (hac : alikeB s ra rc = true) (haa : alikeB s ra ra = true) (h1 : 0 ≤ ra.schema) (h2 : ra.schema < s.schemas.length) (h3 : 0 ≤ ra.field) (hsl : ra.schema.toNat < s.schemas.length) (h4 : ra.field < s.schemas[ra.schema.toNat].fields.length) (c : Int) (hc : checkB s = c) (hc0 : ¬ c = 0) :
    Calls Try.prog 6 #[s.val p, ra.val, rb.val, rc.val] w fun e w' => e = .returned (.bool true) ∧ Below w.heap.size w w' := by
  have hsh := (few_of hfew).short
  have Hab := Lib.hid hab
  have Hbc := Lib.hid hbc
  have Hac := Lib.hid hac
  clear hab hbc hac
  have Haa := Lib.hid haa
  clear haa
  have Hc := Lib.hid hc
  clear hc
  have d1 : decide ((0 : Int) ≤ ra.schema) = true := decide_eq_true h1
  have d2 : decide (ra.schema < (s.schemas.length : Int)) = true := decide_eq_true h2
  have d3 : decide ((0 : Int) ≤ ra.field) = true := decide_eq_true h3
  obtain ⟨b, off, e1, hl_d, _, fa, fk, da, dk, d0_, d1_, d2_, d3_, c4, d5_, -⟩ := SchemaD.out hs.h2 ra.schema.toNat hsl
  generalize s.schemas[ra.schema.toNat].fields.length = fl at *
  have d4 : decide (ra.field < (fl : Int)) = true := decide_eq_true h4
  clear d0_ d1_ d2_ d3_ d5_
  have q0 : (c != 0) = true := by simpa using hc0
  obtain ⟨a0, k0, a1, k1, a2, k2, a3, k3, a4, k4, a5, k5⟩ := p
  simp only at e1
  subst e1
  have hl_c := hl_d
  clear hl_d
  have Hs := Lib.hid hs
  clear hs
  go_enter Try.func6, Try.ntmps6
  go_wp2_with fail
  generalize hw0 : World.alloc _ _ = w0
  obtain ⟨X0, X1, X2, X3, hsz, hb0⟩ := blk4 hw0
  replace c4 := cell_kept hb0 c4 hl_c
  have hw_c := hl_c
  replace hl_c := Nat.lt_of_lt_of_le hl_c hb0.size
  have x0 : w0.cell? ⟨w.heap.size, 0, none⟩ = some (.slice a0 s.issuers.length k0) := X0.cell 0
  have x1 : w0.cell? ⟨w.heap.size, 1, none⟩ = some (.slice a1 s.units.length k1) := X0.cell 1
  have x2 : w0.cell? ⟨w.heap.size, 2, none⟩ = some (.slice (some ⟨b, off, none⟩) s.schemas.length k2) := X0.cell 2
  have x3 : w0.cell? ⟨w.heap.size, 3, none⟩ = some (.slice a3 s.rules.length k3) := X0.cell 3
  have x4 : w0.cell? ⟨w.heap.size, 4, none⟩ = some (.slice a4 s.converts k4) := X0.cell 4
  have x5 : w0.cell? ⟨w.heap.size, 5, none⟩ = some (.slice a5 s.purposes.length k5) := X0.cell 5
  have hl_x : w.heap.size < w0.heap.size := by omega
  have p0 : w0.cell? ⟨w.heap.size + 1, 0, none⟩ = some (.string ra.name) := X1.cell 0
  have p1 : w0.cell? ⟨w.heap.size + 1, 1, none⟩ = some (.string ra.path) := X1.cell 1
  have p2 : w0.cell? ⟨w.heap.size + 1, 2, none⟩ = some (.int .i64 ra.schema) := X1.cell 2
  have p3 : w0.cell? ⟨w.heap.size + 1, 3, none⟩ = some (.int .i64 ra.field) := X1.cell 3
  have hl_p : w.heap.size + 1 < w0.heap.size := by omega
  have q0 : w0.cell? ⟨w.heap.size + 1 + 1, 0, none⟩ = some (.string rb.name) := X2.cell 0
  have q1 : w0.cell? ⟨w.heap.size + 1 + 1, 1, none⟩ = some (.string rb.path) := X2.cell 1
  have q2 : w0.cell? ⟨w.heap.size + 1 + 1, 2, none⟩ = some (.int .i64 rb.schema) := X2.cell 2
  have q3 : w0.cell? ⟨w.heap.size + 1 + 1, 3, none⟩ = some (.int .i64 rb.field) := X2.cell 3
  have hl_q : w.heap.size + 1 + 1 < w0.heap.size := by omega
  have r0 : w0.cell? ⟨w.heap.size + 1 + 1 + 1, 0, none⟩ = some (.string rc.name) := X3.cell 0
  have r1 : w0.cell? ⟨w.heap.size + 1 + 1 + 1, 1, none⟩ = some (.string rc.path) := X3.cell 1
  have r2 : w0.cell? ⟨w.heap.size + 1 + 1 + 1, 2, none⟩ = some (.int .i64 rc.schema) := X3.cell 2
  have r3 : w0.cell? ⟨w.heap.size + 1 + 1 + 1, 3, none⟩ = some (.int .i64 rc.field) := X3.cell 3
  have hl_r : w.heap.size + 1 + 1 + 1 < w0.heap.size := by omega
  have hwl : w.heap.size ≤ w0.heap.size := hb0.size
  have Hb := Lib.hid hb0
  clear hw0 hb0 hsz X0 X1 X2 X3
  refine (sane_any _).mono ?_
  rintro e w1 ⟨rfl, hb1⟩
  replace x0 := cell_kept hb1 x0 hl_x
  replace x1 := cell_kept hb1 x1 hl_x
  replace x2 := cell_kept hb1 x2 hl_x
  replace x3 := cell_kept hb1 x3 hl_x
  replace x4 := cell_kept hb1 x4 hl_x
  replace x5 := cell_kept hb1 x5 hl_x
  replace p0 := cell_kept hb1 p0 hl_p
  replace p1 := cell_kept hb1 p1 hl_p
  replace p2 := cell_kept hb1 p2 hl_p
  replace p3 := cell_kept hb1 p3 hl_p
  replace q0 := cell_kept hb1 q0 hl_q
  replace q1 := cell_kept hb1 q1 hl_q
  replace q2 := cell_kept hb1 q2 hl_q
  replace q3 := cell_kept hb1 q3 hl_q
  replace r0 := cell_kept hb1 r0 hl_r
  replace r1 := cell_kept hb1 r1 hl_r
  replace r2 := cell_kept hb1 r2 hl_r
  replace r3 := cell_kept hb1 r3 hl_r
  replace c4 := cell_kept hb1 c4 hl_c
  replace Hb := Lib.hid (Hb.out.trans (hb1.mono hwl))
  replace hl_x := Nat.lt_of_lt_of_le hl_x hb1.size
  replace hl_p := Nat.lt_of_lt_of_le hl_p hb1.size
  replace hl_q := Nat.lt_of_lt_of_le hl_q hb1.size
  replace hl_r := Nat.lt_of_lt_of_le hl_r hb1.size
  replace hl_c := Nat.lt_of_lt_of_le hl_c hb1.size
  replace hwl := Nat.le_trans hwl hb1.size
  clear hb1
  go_wp2_with fail
  refine (few_q s ⟨a0, k0, a1, k1, some ⟨b, off, none⟩, k2, a3, k3, a4, k4, a5, k5⟩ _ (Hs.out.below Hb.out) hn true hfew).mono ?_
  rintro e w2 ⟨rfl, hb1⟩
  replace x0 := cell_kept hb1 x0 hl_x
  replace x1 := cell_kept hb1 x1 hl_x
  replace x2 := cell_kept hb1 x2 hl_x
  replace x3 := cell_kept hb1 x3 hl_x
  replace x4 := cell_kept hb1 x4 hl_x
  replace x5 := cell_kept hb1 x5 hl_x
  replace p0 := cell_kept hb1 p0 hl_p
  replace p1 := cell_kept hb1 p1 hl_p
  replace p2 := cell_kept hb1 p2 hl_p
  replace p3 := cell_kept hb1 p3 hl_p
  replace q0 := cell_kept hb1 q0 hl_q
  replace q1 := cell_kept hb1 q1 hl_q
  replace q2 := cell_kept hb1 q2 hl_q
  replace q3 := cell_kept hb1 q3 hl_q
  replace r0 := cell_kept hb1 r0 hl_r
  replace r1 := cell_kept hb1 r1 hl_r
  replace r2 := cell_kept hb1 r2 hl_r
  replace r3 := cell_kept hb1 r3 hl_r
  replace c4 := cell_kept hb1 c4 hl_c
  replace Hb := Lib.hid (Hb.out.trans (hb1.mono hwl))
  replace hl_x := Nat.lt_of_lt_of_le hl_x hb1.size
  replace hl_p := Nat.lt_of_lt_of_le hl_p hb1.size
  replace hl_q := Nat.lt_of_lt_of_le hl_q hb1.size
  replace hl_r := Nat.lt_of_lt_of_le hl_r hb1.size
  replace hl_c := Nat.lt_of_lt_of_le hl_c hb1.size
  replace hwl := Nat.le_trans hwl hb1.size
  clear hb1
  go_wp2_with fail
  refine wp_region_grown (by kernel_rfl) (by kernel_rfl) ?_
  repeat (go_big_quiet_step (first | (go_at_call_of 17 (ra.schema); go_at_call_of 17 (rb.schema); exact calls_grown (alike_eq s ⟨a0, k0, a1, k1, some ⟨b, off, none⟩, k2, a3, k3, a4, k4, a5, k5⟩ ra rb _ (Hs.out.below (Hb.out.trans ((grown_below _ _).mono hwl))) hsh true Hab.out)) | (go_at_call_of 17 (rb.schema); go_at_call_of 17 (rc.schema); exact calls_grown (alike_eq s ⟨a0, k0, a1, k1, some ⟨b, off, none⟩, k2, a3, k3, a4, k4, a5, k5⟩ rb rc _ (Hs.out.below (Hb.out.trans ((grown_below _ _).mono hwl))) hsh true Hbc.out)) | (go_at_call_of 17 (ra.schema); go_at_call_of 17 (rc.schema); exact calls_grown (alike_eq s ⟨a0, k0, a1, k1, some ⟨b, off, none⟩, k2, a3, k3, a4, k4, a5, k5⟩ ra rc _ (Hs.out.below (Hb.out.trans ((grown_below _ _).mono hwl))) hsh true Hac.out))))
  refine wpQuiet_nil ?_
  intro w3 hw0
  have hb1 : Below w2.heap.size w2 w3 := by obtain ⟨n, rfl⟩ := hw0; exact grown_below _ n
  clear hw0
  replace x0 := cell_kept hb1 x0 hl_x
  replace x1 := cell_kept hb1 x1 hl_x
  replace x2 := cell_kept hb1 x2 hl_x
  replace x3 := cell_kept hb1 x3 hl_x
  replace x4 := cell_kept hb1 x4 hl_x
  replace x5 := cell_kept hb1 x5 hl_x
  replace p0 := cell_kept hb1 p0 hl_p
  replace p1 := cell_kept hb1 p1 hl_p
  replace p2 := cell_kept hb1 p2 hl_p
  replace p3 := cell_kept hb1 p3 hl_p
  replace q0 := cell_kept hb1 q0 hl_q
  replace q1 := cell_kept hb1 q1 hl_q
  replace q2 := cell_kept hb1 q2 hl_q
  replace q3 := cell_kept hb1 q3 hl_q
  replace r0 := cell_kept hb1 r0 hl_r
  replace r1 := cell_kept hb1 r1 hl_r
  replace r2 := cell_kept hb1 r2 hl_r
  replace r3 := cell_kept hb1 r3 hl_r
  replace c4 := cell_kept hb1 c4 hl_c
  replace Hb := Lib.hid (Hb.out.trans (hb1.mono hwl))
  replace hl_x := Nat.lt_of_lt_of_le hl_x hb1.size
  replace hl_p := Nat.lt_of_lt_of_le hl_p hb1.size
  replace hl_q := Nat.lt_of_lt_of_le hl_q hb1.size
  replace hl_r := Nat.lt_of_lt_of_le hl_r hb1.size
  replace hl_c := Nat.lt_of_lt_of_le hl_c hb1.size
  replace hwl := Nat.le_trans hwl hb1.size
  clear hb1
  go_wp2_with fail
  refine (alike_eq s ⟨a0, k0, a1, k1, some ⟨b, off, none⟩, k2, a3, k3, a4, k4, a5, k5⟩ rb ra _ (Hs.out.below Hb.out) hsh true (by rw [alike_symm]; exact Hab.out)).mono ?_
  rintro e w4 ⟨rfl, hb1⟩
  replace x0 := cell_kept hb1 x0 hl_x
  replace x1 := cell_kept hb1 x1 hl_x
  replace x2 := cell_kept hb1 x2 hl_x
  replace x3 := cell_kept hb1 x3 hl_x
  replace x4 := cell_kept hb1 x4 hl_x
  replace x5 := cell_kept hb1 x5 hl_x
  replace p0 := cell_kept hb1 p0 hl_p
  replace p1 := cell_kept hb1 p1 hl_p
  replace p2 := cell_kept hb1 p2 hl_p
  replace p3 := cell_kept hb1 p3 hl_p
  replace q0 := cell_kept hb1 q0 hl_q
  replace q1 := cell_kept hb1 q1 hl_q
  replace q2 := cell_kept hb1 q2 hl_q
  replace q3 := cell_kept hb1 q3 hl_q
  replace r0 := cell_kept hb1 r0 hl_r
  replace r1 := cell_kept hb1 r1 hl_r
  replace r2 := cell_kept hb1 r2 hl_r
  replace r3 := cell_kept hb1 r3 hl_r
  replace c4 := cell_kept hb1 c4 hl_c
  replace Hb := Lib.hid (Hb.out.trans (hb1.mono hwl))
  replace hl_x := Nat.lt_of_lt_of_le hl_x hb1.size
  replace hl_p := Nat.lt_of_lt_of_le hl_p hb1.size
  replace hl_q := Nat.lt_of_lt_of_le hl_q hb1.size
  replace hl_r := Nat.lt_of_lt_of_le hl_r hb1.size
  replace hl_c := Nat.lt_of_lt_of_le hl_c hb1.size
  replace hwl := Nat.le_trans hwl hb1.size
  clear hb1
  go_wp2_with fail
  refine (alike_eq s ⟨a0, k0, a1, k1, some ⟨b, off, none⟩, k2, a3, k3, a4, k4, a5, k5⟩ ra ra _ (Hs.out.below Hb.out) hsh true Haa.out).mono ?_
  rintro e w5 ⟨rfl, hb1⟩
  replace x0 := cell_kept hb1 x0 hl_x
  replace x1 := cell_kept hb1 x1 hl_x
  replace x2 := cell_kept hb1 x2 hl_x
  replace x3 := cell_kept hb1 x3 hl_x
  replace x4 := cell_kept hb1 x4 hl_x
  replace x5 := cell_kept hb1 x5 hl_x
  replace p0 := cell_kept hb1 p0 hl_p
  replace p1 := cell_kept hb1 p1 hl_p
  replace p2 := cell_kept hb1 p2 hl_p
  replace p3 := cell_kept hb1 p3 hl_p
  replace q0 := cell_kept hb1 q0 hl_q
  replace q1 := cell_kept hb1 q1 hl_q
  replace q2 := cell_kept hb1 q2 hl_q
  replace q3 := cell_kept hb1 q3 hl_q
  replace r0 := cell_kept hb1 r0 hl_r
  replace r1 := cell_kept hb1 r1 hl_r
  replace r2 := cell_kept hb1 r2 hl_r
  replace r3 := cell_kept hb1 r3 hl_r
  replace c4 := cell_kept hb1 c4 hl_c
  replace Hb := Lib.hid (Hb.out.trans (hb1.mono hwl))
  replace hl_x := Nat.lt_of_lt_of_le hl_x hb1.size
  replace hl_p := Nat.lt_of_lt_of_le hl_p hb1.size
  replace hl_q := Nat.lt_of_lt_of_le hl_q hb1.size
  replace hl_r := Nat.lt_of_lt_of_le hl_r hb1.size
  replace hl_c := Nat.lt_of_lt_of_le hl_c hb1.size
  replace hwl := Nat.le_trans hwl hb1.size
  clear hb1
  go_wp2_with fail
  refine wp_region_grown (by kernel_rfl) (by kernel_rfl) ?_
  repeat (go_big_quiet_step (fail))
  refine wpQuiet_nil ?_
  intro w6 hw0
  have hb1 : Below w5.heap.size w5 w6 := by obtain ⟨n, rfl⟩ := hw0; exact grown_below _ n
  clear hw0
  replace x0 := cell_kept hb1 x0 hl_x
  replace x1 := cell_kept hb1 x1 hl_x
  replace x2 := cell_kept hb1 x2 hl_x
  replace x3 := cell_kept hb1 x3 hl_x
  replace x4 := cell_kept hb1 x4 hl_x
  replace x5 := cell_kept hb1 x5 hl_x
  replace p0 := cell_kept hb1 p0 hl_p
  replace p1 := cell_kept hb1 p1 hl_p
  replace p2 := cell_kept hb1 p2 hl_p
  replace p3 := cell_kept hb1 p3 hl_p
  replace q0 := cell_kept hb1 q0 hl_q
  replace q1 := cell_kept hb1 q1 hl_q
  replace q2 := cell_kept hb1 q2 hl_q
  replace q3 := cell_kept hb1 q3 hl_q
  replace r0 := cell_kept hb1 r0 hl_r
  replace r1 := cell_kept hb1 r1 hl_r
  replace r2 := cell_kept hb1 r2 hl_r
  replace r3 := cell_kept hb1 r3 hl_r
  replace c4 := cell_kept hb1 c4 hl_c
  replace Hb := Lib.hid (Hb.out.trans (hb1.mono hwl))
  replace hl_x := Nat.lt_of_lt_of_le hl_x hb1.size
  replace hl_p := Nat.lt_of_lt_of_le hl_p hb1.size
  replace hl_q := Nat.lt_of_lt_of_le hl_q hb1.size
  replace hl_r := Nat.lt_of_lt_of_le hl_r hb1.size
  replace hl_c := Nat.lt_of_lt_of_le hl_c hb1.size
  replace hwl := Nat.le_trans hwl hb1.size
  clear hb1
  go_wp2_with fail
  refine (check_q s ⟨a0, k0, a1, k1, some ⟨b, off, none⟩, k2, a3, k3, a4, k4, a5, k5⟩ _ (Hs.out.below Hb.out) hfew c Hc.out).mono ?_
  rintro e w7 ⟨rfl, hb1⟩
  replace x0 := cell_kept hb1 x0 hl_x
  replace x1 := cell_kept hb1 x1 hl_x
  replace x2 := cell_kept hb1 x2 hl_x
  replace x3 := cell_kept hb1 x3 hl_x
  replace x4 := cell_kept hb1 x4 hl_x
  replace x5 := cell_kept hb1 x5 hl_x
  replace p0 := cell_kept hb1 p0 hl_p
  replace p1 := cell_kept hb1 p1 hl_p
  replace p2 := cell_kept hb1 p2 hl_p
  replace p3 := cell_kept hb1 p3 hl_p
  replace q0 := cell_kept hb1 q0 hl_q
  replace q1 := cell_kept hb1 q1 hl_q
  replace q2 := cell_kept hb1 q2 hl_q
  replace q3 := cell_kept hb1 q3 hl_q
  replace r0 := cell_kept hb1 r0 hl_r
  replace r1 := cell_kept hb1 r1 hl_r
  replace r2 := cell_kept hb1 r2 hl_r
  replace r3 := cell_kept hb1 r3 hl_r
  replace c4 := cell_kept hb1 c4 hl_c
  replace Hb := Lib.hid (Hb.out.trans (hb1.mono hwl))
  replace hl_x := Nat.lt_of_lt_of_le hl_x hb1.size
  replace hl_p := Nat.lt_of_lt_of_le hl_p hb1.size
  replace hl_q := Nat.lt_of_lt_of_le hl_q hb1.size
  replace hl_r := Nat.lt_of_lt_of_le hl_r hb1.size
  replace hl_c := Nat.lt_of_lt_of_le hl_c hb1.size
  replace hwl := Nat.le_trans hwl hb1.size
  clear hb1
  go_wp2
  go_ret
  exact ⟨rfl, Hb.out⟩
set_option maxRecDepth 20000 in
set_option maxHeartbeats 4000000 in
theorem walk_U_c0 (s : SourceD) (p : SrcAt) (ra rb rc : RefD) (w : World) (hs : Src w s p) (hn : Lens s) (hfew : fewB s = true) (ac : Bool) (hab : alikeB s ra rb = true) (hbc : alikeB s rb rc = false) (hac : alikeB s ra rc = ac) (haa : alikeB s ra ra = true) (h1 : 0 ≤ ra.schema) (h2 : ra.schema < s.schemas.length) (h3 : 0 ≤ ra.field) (hsl : ra.schema.toNat < s.schemas.length) (h4 : ra.field < s.schemas[ra.schema.toNat].fields.length) (c : Int) (hc : checkB s = c) (hc0 : c = 0) :
    Calls Try.prog 6 #[s.val p, ra.val, rb.val, rc.val] w fun e w' => e = .returned (.bool true) ∧ Below w.heap.size w w' := by
  have hsh := (few_of hfew).short
  have Hab := Lib.hid hab
  have Hbc := Lib.hid hbc
  have Hac := Lib.hid hac
  clear hab hbc hac
  have Haa := Lib.hid haa
  clear haa
  have Hc := Lib.hid hc
  clear hc
  have d1 : decide ((0 : Int) ≤ ra.schema) = true := decide_eq_true h1
  have d2 : decide (ra.schema < (s.schemas.length : Int)) = true := decide_eq_true h2
  have d3 : decide ((0 : Int) ≤ ra.field) = true := decide_eq_true h3
  obtain ⟨b, off, e1, hl_d, _, fa, fk, da, dk, d0_, d1_, d2_, d3_, c4, d5_, -⟩ := SchemaD.out hs.h2 ra.schema.toNat hsl
  generalize s.schemas[ra.schema.toNat].fields.length = fl at *
  have d4 : decide (ra.field < (fl : Int)) = true := decide_eq_true h4
  clear d0_ d1_ d2_ d3_ d5_
  have q0 : (c != 0) = false := by simpa using hc0
  obtain ⟨a0, k0, a1, k1, a2, k2, a3, k3, a4, k4, a5, k5⟩ := p
  simp only at e1
  subst e1
  have hl_c := hl_d
  clear hl_d
  have Hs := Lib.hid hs
  clear hs
  go_enter Try.func6, Try.ntmps6
  go_wp2_with fail
  generalize hw0 : World.alloc _ _ = w0
  obtain ⟨X0, X1, X2, X3, hsz, hb0⟩ := blk4 hw0
  replace c4 := cell_kept hb0 c4 hl_c
  have hw_c := hl_c
  replace hl_c := Nat.lt_of_lt_of_le hl_c hb0.size
  have x0 : w0.cell? ⟨w.heap.size, 0, none⟩ = some (.slice a0 s.issuers.length k0) := X0.cell 0
  have x1 : w0.cell? ⟨w.heap.size, 1, none⟩ = some (.slice a1 s.units.length k1) := X0.cell 1
  have x2 : w0.cell? ⟨w.heap.size, 2, none⟩ = some (.slice (some ⟨b, off, none⟩) s.schemas.length k2) := X0.cell 2
  have x3 : w0.cell? ⟨w.heap.size, 3, none⟩ = some (.slice a3 s.rules.length k3) := X0.cell 3
  have x4 : w0.cell? ⟨w.heap.size, 4, none⟩ = some (.slice a4 s.converts k4) := X0.cell 4
  have x5 : w0.cell? ⟨w.heap.size, 5, none⟩ = some (.slice a5 s.purposes.length k5) := X0.cell 5
  have hl_x : w.heap.size < w0.heap.size := by omega
  have p0 : w0.cell? ⟨w.heap.size + 1, 0, none⟩ = some (.string ra.name) := X1.cell 0
  have p1 : w0.cell? ⟨w.heap.size + 1, 1, none⟩ = some (.string ra.path) := X1.cell 1
  have p2 : w0.cell? ⟨w.heap.size + 1, 2, none⟩ = some (.int .i64 ra.schema) := X1.cell 2
  have p3 : w0.cell? ⟨w.heap.size + 1, 3, none⟩ = some (.int .i64 ra.field) := X1.cell 3
  have hl_p : w.heap.size + 1 < w0.heap.size := by omega
  have q0 : w0.cell? ⟨w.heap.size + 1 + 1, 0, none⟩ = some (.string rb.name) := X2.cell 0
  have q1 : w0.cell? ⟨w.heap.size + 1 + 1, 1, none⟩ = some (.string rb.path) := X2.cell 1
  have q2 : w0.cell? ⟨w.heap.size + 1 + 1, 2, none⟩ = some (.int .i64 rb.schema) := X2.cell 2
  have q3 : w0.cell? ⟨w.heap.size + 1 + 1, 3, none⟩ = some (.int .i64 rb.field) := X2.cell 3
  have hl_q : w.heap.size + 1 + 1 < w0.heap.size := by omega
  have r0 : w0.cell? ⟨w.heap.size + 1 + 1 + 1, 0, none⟩ = some (.string rc.name) := X3.cell 0
  have r1 : w0.cell? ⟨w.heap.size + 1 + 1 + 1, 1, none⟩ = some (.string rc.path) := X3.cell 1
  have r2 : w0.cell? ⟨w.heap.size + 1 + 1 + 1, 2, none⟩ = some (.int .i64 rc.schema) := X3.cell 2
  have r3 : w0.cell? ⟨w.heap.size + 1 + 1 + 1, 3, none⟩ = some (.int .i64 rc.field) := X3.cell 3
  have hl_r : w.heap.size + 1 + 1 + 1 < w0.heap.size := by omega
  have hwl : w.heap.size ≤ w0.heap.size := hb0.size
  have Hb := Lib.hid hb0
  clear hw0 hb0 hsz X0 X1 X2 X3
  refine (sane_any _).mono ?_
  rintro e w1 ⟨rfl, hb1⟩
  replace x0 := cell_kept hb1 x0 hl_x
  replace x1 := cell_kept hb1 x1 hl_x
  replace x2 := cell_kept hb1 x2 hl_x
  replace x3 := cell_kept hb1 x3 hl_x
  replace x4 := cell_kept hb1 x4 hl_x
  replace x5 := cell_kept hb1 x5 hl_x
  replace p0 := cell_kept hb1 p0 hl_p
  replace p1 := cell_kept hb1 p1 hl_p
  replace p2 := cell_kept hb1 p2 hl_p
  replace p3 := cell_kept hb1 p3 hl_p
  replace q0 := cell_kept hb1 q0 hl_q
  replace q1 := cell_kept hb1 q1 hl_q
  replace q2 := cell_kept hb1 q2 hl_q
  replace q3 := cell_kept hb1 q3 hl_q
  replace r0 := cell_kept hb1 r0 hl_r
  replace r1 := cell_kept hb1 r1 hl_r
  replace r2 := cell_kept hb1 r2 hl_r
  replace r3 := cell_kept hb1 r3 hl_r
  replace c4 := cell_kept hb1 c4 hl_c
  replace Hb := Lib.hid (Hb.out.trans (hb1.mono hwl))
  replace hl_x := Nat.lt_of_lt_of_le hl_x hb1.size
  replace hl_p := Nat.lt_of_lt_of_le hl_p hb1.size
  replace hl_q := Nat.lt_of_lt_of_le hl_q hb1.size
  replace hl_r := Nat.lt_of_lt_of_le hl_r hb1.size
  replace hl_c := Nat.lt_of_lt_of_le hl_c hb1.size
  replace hwl := Nat.le_trans hwl hb1.size
  clear hb1
  go_wp2_with fail
  refine (few_q s ⟨a0, k0, a1, k1, some ⟨b, off, none⟩, k2, a3, k3, a4, k4, a5, k5⟩ _ (Hs.out.below Hb.out) hn true hfew).mono ?_
  rintro e w2 ⟨rfl, hb1⟩
  replace x0 := cell_kept hb1 x0 hl_x
  replace x1 := cell_kept hb1 x1 hl_x
  replace x2 := cell_kept hb1 x2 hl_x
  replace x3 := cell_kept hb1 x3 hl_x
  replace x4 := cell_kept hb1 x4 hl_x
  replace x5 := cell_kept hb1 x5 hl_x
  replace p0 := cell_kept hb1 p0 hl_p
  replace p1 := cell_kept hb1 p1 hl_p
  replace p2 := cell_kept hb1 p2 hl_p
  replace p3 := cell_kept hb1 p3 hl_p
  replace q0 := cell_kept hb1 q0 hl_q
  replace q1 := cell_kept hb1 q1 hl_q
  replace q2 := cell_kept hb1 q2 hl_q
  replace q3 := cell_kept hb1 q3 hl_q
  replace r0 := cell_kept hb1 r0 hl_r
  replace r1 := cell_kept hb1 r1 hl_r
  replace r2 := cell_kept hb1 r2 hl_r
  replace r3 := cell_kept hb1 r3 hl_r
  replace c4 := cell_kept hb1 c4 hl_c
  replace Hb := Lib.hid (Hb.out.trans (hb1.mono hwl))
  replace hl_x := Nat.lt_of_lt_of_le hl_x hb1.size
  replace hl_p := Nat.lt_of_lt_of_le hl_p hb1.size
  replace hl_q := Nat.lt_of_lt_of_le hl_q hb1.size
  replace hl_r := Nat.lt_of_lt_of_le hl_r hb1.size
  replace hl_c := Nat.lt_of_lt_of_le hl_c hb1.size
  replace hwl := Nat.le_trans hwl hb1.size
  clear hb1
  go_wp2_with fail
  refine wp_region_grown (by kernel_rfl) (by kernel_rfl) ?_
  repeat (go_big_quiet_step (first | (go_at_call_of 17 (ra.schema); go_at_call_of 17 (rb.schema); exact calls_grown (alike_eq s ⟨a0, k0, a1, k1, some ⟨b, off, none⟩, k2, a3, k3, a4, k4, a5, k5⟩ ra rb _ (Hs.out.below (Hb.out.trans ((grown_below _ _).mono hwl))) hsh true Hab.out)) | (go_at_call_of 17 (rb.schema); go_at_call_of 17 (rc.schema); exact calls_grown (alike_eq s ⟨a0, k0, a1, k1, some ⟨b, off, none⟩, k2, a3, k3, a4, k4, a5, k5⟩ rb rc _ (Hs.out.below (Hb.out.trans ((grown_below _ _).mono hwl))) hsh false Hbc.out)) | (go_at_call_of 17 (ra.schema); go_at_call_of 17 (rc.schema); exact calls_grown (alike_eq s ⟨a0, k0, a1, k1, some ⟨b, off, none⟩, k2, a3, k3, a4, k4, a5, k5⟩ ra rc _ (Hs.out.below (Hb.out.trans ((grown_below _ _).mono hwl))) hsh ac Hac.out))))
  refine wpQuiet_nil ?_
  intro w3 hw0
  have hb1 : Below w2.heap.size w2 w3 := by obtain ⟨n, rfl⟩ := hw0; exact grown_below _ n
  clear hw0
  replace x0 := cell_kept hb1 x0 hl_x
  replace x1 := cell_kept hb1 x1 hl_x
  replace x2 := cell_kept hb1 x2 hl_x
  replace x3 := cell_kept hb1 x3 hl_x
  replace x4 := cell_kept hb1 x4 hl_x
  replace x5 := cell_kept hb1 x5 hl_x
  replace p0 := cell_kept hb1 p0 hl_p
  replace p1 := cell_kept hb1 p1 hl_p
  replace p2 := cell_kept hb1 p2 hl_p
  replace p3 := cell_kept hb1 p3 hl_p
  replace q0 := cell_kept hb1 q0 hl_q
  replace q1 := cell_kept hb1 q1 hl_q
  replace q2 := cell_kept hb1 q2 hl_q
  replace q3 := cell_kept hb1 q3 hl_q
  replace r0 := cell_kept hb1 r0 hl_r
  replace r1 := cell_kept hb1 r1 hl_r
  replace r2 := cell_kept hb1 r2 hl_r
  replace r3 := cell_kept hb1 r3 hl_r
  replace c4 := cell_kept hb1 c4 hl_c
  replace Hb := Lib.hid (Hb.out.trans (hb1.mono hwl))
  replace hl_x := Nat.lt_of_lt_of_le hl_x hb1.size
  replace hl_p := Nat.lt_of_lt_of_le hl_p hb1.size
  replace hl_q := Nat.lt_of_lt_of_le hl_q hb1.size
  replace hl_r := Nat.lt_of_lt_of_le hl_r hb1.size
  replace hl_c := Nat.lt_of_lt_of_le hl_c hb1.size
  replace hwl := Nat.le_trans hwl hb1.size
  clear hb1
  go_wp2_with fail
  refine (alike_eq s ⟨a0, k0, a1, k1, some ⟨b, off, none⟩, k2, a3, k3, a4, k4, a5, k5⟩ rb ra _ (Hs.out.below Hb.out) hsh true (by rw [alike_symm]; exact Hab.out)).mono ?_
  rintro e w4 ⟨rfl, hb1⟩
  replace x0 := cell_kept hb1 x0 hl_x
  replace x1 := cell_kept hb1 x1 hl_x
  replace x2 := cell_kept hb1 x2 hl_x
  replace x3 := cell_kept hb1 x3 hl_x
  replace x4 := cell_kept hb1 x4 hl_x
  replace x5 := cell_kept hb1 x5 hl_x
  replace p0 := cell_kept hb1 p0 hl_p
  replace p1 := cell_kept hb1 p1 hl_p
  replace p2 := cell_kept hb1 p2 hl_p
  replace p3 := cell_kept hb1 p3 hl_p
  replace q0 := cell_kept hb1 q0 hl_q
  replace q1 := cell_kept hb1 q1 hl_q
  replace q2 := cell_kept hb1 q2 hl_q
  replace q3 := cell_kept hb1 q3 hl_q
  replace r0 := cell_kept hb1 r0 hl_r
  replace r1 := cell_kept hb1 r1 hl_r
  replace r2 := cell_kept hb1 r2 hl_r
  replace r3 := cell_kept hb1 r3 hl_r
  replace c4 := cell_kept hb1 c4 hl_c
  replace Hb := Lib.hid (Hb.out.trans (hb1.mono hwl))
  replace hl_x := Nat.lt_of_lt_of_le hl_x hb1.size
  replace hl_p := Nat.lt_of_lt_of_le hl_p hb1.size
  replace hl_q := Nat.lt_of_lt_of_le hl_q hb1.size
  replace hl_r := Nat.lt_of_lt_of_le hl_r hb1.size
  replace hl_c := Nat.lt_of_lt_of_le hl_c hb1.size
  replace hwl := Nat.le_trans hwl hb1.size
  clear hb1
  go_wp2_with fail
  refine (alike_eq s ⟨a0, k0, a1, k1, some ⟨b, off, none⟩, k2, a3, k3, a4, k4, a5, k5⟩ ra ra _ (Hs.out.below Hb.out) hsh true Haa.out).mono ?_
  rintro e w5 ⟨rfl, hb1⟩
  replace x0 := cell_kept hb1 x0 hl_x
  replace x1 := cell_kept hb1 x1 hl_x
  replace x2 := cell_kept hb1 x2 hl_x
  replace x3 := cell_kept hb1 x3 hl_x
  replace x4 := cell_kept hb1 x4 hl_x
  replace x5 := cell_kept hb1 x5 hl_x
  replace p0 := cell_kept hb1 p0 hl_p
  replace p1 := cell_kept hb1 p1 hl_p
  replace p2 := cell_kept hb1 p2 hl_p
  replace p3 := cell_kept hb1 p3 hl_p
  replace q0 := cell_kept hb1 q0 hl_q
  replace q1 := cell_kept hb1 q1 hl_q
  replace q2 := cell_kept hb1 q2 hl_q
  replace q3 := cell_kept hb1 q3 hl_q
  replace r0 := cell_kept hb1 r0 hl_r
  replace r1 := cell_kept hb1 r1 hl_r
  replace r2 := cell_kept hb1 r2 hl_r
  replace r3 := cell_kept hb1 r3 hl_r
  replace c4 := cell_kept hb1 c4 hl_c
  replace Hb := Lib.hid (Hb.out.trans (hb1.mono hwl))
  replace hl_x := Nat.lt_of_lt_of_le hl_x hb1.size
  replace hl_p := Nat.lt_of_lt_of_le hl_p hb1.size
  replace hl_q := Nat.lt_of_lt_of_le hl_q hb1.size
  replace hl_r := Nat.lt_of_lt_of_le hl_r hb1.size
  replace hl_c := Nat.lt_of_lt_of_le hl_c hb1.size
  replace hwl := Nat.le_trans hwl hb1.size
  clear hb1
  go_wp2_with fail
  refine wp_region_grown (by kernel_rfl) (by kernel_rfl) ?_
  repeat (go_big_quiet_step (fail))
  refine wpQuiet_nil ?_
  intro w6 hw0
  have hb1 : Below w5.heap.size w5 w6 := by obtain ⟨n, rfl⟩ := hw0; exact grown_below _ n
  clear hw0
  replace x0 := cell_kept hb1 x0 hl_x
  replace x1 := cell_kept hb1 x1 hl_x
  replace x2 := cell_kept hb1 x2 hl_x
  replace x3 := cell_kept hb1 x3 hl_x
  replace x4 := cell_kept hb1 x4 hl_x
  replace x5 := cell_kept hb1 x5 hl_x
  replace p0 := cell_kept hb1 p0 hl_p
  replace p1 := cell_kept hb1 p1 hl_p
  replace p2 := cell_kept hb1 p2 hl_p
  replace p3 := cell_kept hb1 p3 hl_p
  replace q0 := cell_kept hb1 q0 hl_q
  replace q1 := cell_kept hb1 q1 hl_q
  replace q2 := cell_kept hb1 q2 hl_q
  replace q3 := cell_kept hb1 q3 hl_q
  replace r0 := cell_kept hb1 r0 hl_r
  replace r1 := cell_kept hb1 r1 hl_r
  replace r2 := cell_kept hb1 r2 hl_r
  replace r3 := cell_kept hb1 r3 hl_r
  replace c4 := cell_kept hb1 c4 hl_c
  replace Hb := Lib.hid (Hb.out.trans (hb1.mono hwl))
  replace hl_x := Nat.lt_of_lt_of_le hl_x hb1.size
  replace hl_p := Nat.lt_of_lt_of_le hl_p hb1.size
  replace hl_q := Nat.lt_of_lt_of_le hl_q hb1.size
  replace hl_r := Nat.lt_of_lt_of_le hl_r hb1.size
  replace hl_c := Nat.lt_of_lt_of_le hl_c hb1.size
  replace hwl := Nat.le_trans hwl hb1.size
  clear hb1
  go_wp2_with fail
  refine (check_q s ⟨a0, k0, a1, k1, some ⟨b, off, none⟩, k2, a3, k3, a4, k4, a5, k5⟩ _ (Hs.out.below Hb.out) hfew c Hc.out).mono ?_
  rintro e w7 ⟨rfl, hb1⟩
  replace x0 := cell_kept hb1 x0 hl_x
  replace x1 := cell_kept hb1 x1 hl_x
  replace x2 := cell_kept hb1 x2 hl_x
  replace x3 := cell_kept hb1 x3 hl_x
  replace x4 := cell_kept hb1 x4 hl_x
  replace x5 := cell_kept hb1 x5 hl_x
  replace p0 := cell_kept hb1 p0 hl_p
  replace p1 := cell_kept hb1 p1 hl_p
  replace p2 := cell_kept hb1 p2 hl_p
  replace p3 := cell_kept hb1 p3 hl_p
  replace q0 := cell_kept hb1 q0 hl_q
  replace q1 := cell_kept hb1 q1 hl_q
  replace q2 := cell_kept hb1 q2 hl_q
  replace q3 := cell_kept hb1 q3 hl_q
  replace r0 := cell_kept hb1 r0 hl_r
  replace r1 := cell_kept hb1 r1 hl_r
  replace r2 := cell_kept hb1 r2 hl_r
  replace r3 := cell_kept hb1 r3 hl_r
  replace c4 := cell_kept hb1 c4 hl_c
  replace Hb := Lib.hid (Hb.out.trans (hb1.mono hwl))
  replace hl_x := Nat.lt_of_lt_of_le hl_x hb1.size
  replace hl_p := Nat.lt_of_lt_of_le hl_p hb1.size
  replace hl_q := Nat.lt_of_lt_of_le hl_q hb1.size
  replace hl_r := Nat.lt_of_lt_of_le hl_r hb1.size
  replace hl_c := Nat.lt_of_lt_of_le hl_c hb1.size
  replace hwl := Nat.le_trans hwl hb1.size
  clear hb1
  go_wp2_with fail
  refine (alike_eq s ⟨a0, k0, a1, k1, some ⟨b, off, none⟩, k2, a3, k3, a4, k4, a5, k5⟩ ra ra _ (Hs.out.below Hb.out) hsh true Haa.out).mono ?_
  rintro e w8 ⟨rfl, hb1⟩
  replace x0 := cell_kept hb1 x0 hl_x
  replace x1 := cell_kept hb1 x1 hl_x
  replace x2 := cell_kept hb1 x2 hl_x
  replace x3 := cell_kept hb1 x3 hl_x
  replace x4 := cell_kept hb1 x4 hl_x
  replace x5 := cell_kept hb1 x5 hl_x
  replace p0 := cell_kept hb1 p0 hl_p
  replace p1 := cell_kept hb1 p1 hl_p
  replace p2 := cell_kept hb1 p2 hl_p
  replace p3 := cell_kept hb1 p3 hl_p
  replace q0 := cell_kept hb1 q0 hl_q
  replace q1 := cell_kept hb1 q1 hl_q
  replace q2 := cell_kept hb1 q2 hl_q
  replace q3 := cell_kept hb1 q3 hl_q
  replace r0 := cell_kept hb1 r0 hl_r
  replace r1 := cell_kept hb1 r1 hl_r
  replace r2 := cell_kept hb1 r2 hl_r
  replace r3 := cell_kept hb1 r3 hl_r
  replace c4 := cell_kept hb1 c4 hl_c
  replace Hb := Lib.hid (Hb.out.trans (hb1.mono hwl))
  replace hl_x := Nat.lt_of_lt_of_le hl_x hb1.size
  replace hl_p := Nat.lt_of_lt_of_le hl_p hb1.size
  replace hl_q := Nat.lt_of_lt_of_le hl_q hb1.size
  replace hl_r := Nat.lt_of_lt_of_le hl_r hb1.size
  replace hl_c := Nat.lt_of_lt_of_le hl_c hb1.size
  replace hwl := Nat.le_trans hwl hb1.size
  clear hb1
  go_wp2
  go_ret
  exact ⟨rfl, Hb.out⟩
set_option maxRecDepth 20000 in
set_option maxHeartbeats 4000000 in
theorem walk_U_c1 (s : SourceD) (p : SrcAt) (ra rb rc : RefD) (w : World) (hs : Src w s p) (hn : Lens s) (hfew : fewB s = true) (ac : Bool) (hab : alikeB s ra rb = true) (hbc : alikeB s rb rc = false) (hac : alikeB s ra rc = ac) (haa : alikeB s ra ra = true) (h1 : 0 ≤ ra.schema) (h2 : ra.schema < s.schemas.length) (h3 : 0 ≤ ra.field) (hsl : ra.schema.toNat < s.schemas.length) (h4 : ra.field < s.schemas[ra.schema.toNat].fields.length) (c : Int) (hc : checkB s = c) (hc0 : ¬ c = 0) :
    Calls Try.prog 6 #[s.val p, ra.val, rb.val, rc.val] w fun e w' => e = .returned (.bool true) ∧ Below w.heap.size w w' := by
  have hsh := (few_of hfew).short
  have Hab := Lib.hid hab
  have Hbc := Lib.hid hbc
  have Hac := Lib.hid hac
  clear hab hbc hac
  have Haa := Lib.hid haa
  clear haa
  have Hc := Lib.hid hc
  clear hc
  have d1 : decide ((0 : Int) ≤ ra.schema) = true := decide_eq_true h1
  have d2 : decide (ra.schema < (s.schemas.length : Int)) = true := decide_eq_true h2
  have d3 : decide ((0 : Int) ≤ ra.field) = true := decide_eq_true h3
  obtain ⟨b, off, e1, hl_d, _, fa, fk, da, dk, d0_, d1_, d2_, d3_, c4, d5_, -⟩ := SchemaD.out hs.h2 ra.schema.toNat hsl
  generalize s.schemas[ra.schema.toNat].fields.length = fl at *
  have d4 : decide (ra.field < (fl : Int)) = true := decide_eq_true h4
  clear d0_ d1_ d2_ d3_ d5_
  have q0 : (c != 0) = true := by simpa using hc0
  obtain ⟨a0, k0, a1, k1, a2, k2, a3, k3, a4, k4, a5, k5⟩ := p
  simp only at e1
  subst e1
  have hl_c := hl_d
  clear hl_d
  have Hs := Lib.hid hs
  clear hs
  go_enter Try.func6, Try.ntmps6
  go_wp2_with fail
  generalize hw0 : World.alloc _ _ = w0
  obtain ⟨X0, X1, X2, X3, hsz, hb0⟩ := blk4 hw0
  replace c4 := cell_kept hb0 c4 hl_c
  have hw_c := hl_c
  replace hl_c := Nat.lt_of_lt_of_le hl_c hb0.size
  have x0 : w0.cell? ⟨w.heap.size, 0, none⟩ = some (.slice a0 s.issuers.length k0) := X0.cell 0
  have x1 : w0.cell? ⟨w.heap.size, 1, none⟩ = some (.slice a1 s.units.length k1) := X0.cell 1
  have x2 : w0.cell? ⟨w.heap.size, 2, none⟩ = some (.slice (some ⟨b, off, none⟩) s.schemas.length k2) := X0.cell 2
  have x3 : w0.cell? ⟨w.heap.size, 3, none⟩ = some (.slice a3 s.rules.length k3) := X0.cell 3
  have x4 : w0.cell? ⟨w.heap.size, 4, none⟩ = some (.slice a4 s.converts k4) := X0.cell 4
  have x5 : w0.cell? ⟨w.heap.size, 5, none⟩ = some (.slice a5 s.purposes.length k5) := X0.cell 5
  have hl_x : w.heap.size < w0.heap.size := by omega
  have p0 : w0.cell? ⟨w.heap.size + 1, 0, none⟩ = some (.string ra.name) := X1.cell 0
  have p1 : w0.cell? ⟨w.heap.size + 1, 1, none⟩ = some (.string ra.path) := X1.cell 1
  have p2 : w0.cell? ⟨w.heap.size + 1, 2, none⟩ = some (.int .i64 ra.schema) := X1.cell 2
  have p3 : w0.cell? ⟨w.heap.size + 1, 3, none⟩ = some (.int .i64 ra.field) := X1.cell 3
  have hl_p : w.heap.size + 1 < w0.heap.size := by omega
  have q0 : w0.cell? ⟨w.heap.size + 1 + 1, 0, none⟩ = some (.string rb.name) := X2.cell 0
  have q1 : w0.cell? ⟨w.heap.size + 1 + 1, 1, none⟩ = some (.string rb.path) := X2.cell 1
  have q2 : w0.cell? ⟨w.heap.size + 1 + 1, 2, none⟩ = some (.int .i64 rb.schema) := X2.cell 2
  have q3 : w0.cell? ⟨w.heap.size + 1 + 1, 3, none⟩ = some (.int .i64 rb.field) := X2.cell 3
  have hl_q : w.heap.size + 1 + 1 < w0.heap.size := by omega
  have r0 : w0.cell? ⟨w.heap.size + 1 + 1 + 1, 0, none⟩ = some (.string rc.name) := X3.cell 0
  have r1 : w0.cell? ⟨w.heap.size + 1 + 1 + 1, 1, none⟩ = some (.string rc.path) := X3.cell 1
  have r2 : w0.cell? ⟨w.heap.size + 1 + 1 + 1, 2, none⟩ = some (.int .i64 rc.schema) := X3.cell 2
  have r3 : w0.cell? ⟨w.heap.size + 1 + 1 + 1, 3, none⟩ = some (.int .i64 rc.field) := X3.cell 3
  have hl_r : w.heap.size + 1 + 1 + 1 < w0.heap.size := by omega
  have hwl : w.heap.size ≤ w0.heap.size := hb0.size
  have Hb := Lib.hid hb0
  clear hw0 hb0 hsz X0 X1 X2 X3
  refine (sane_any _).mono ?_
  rintro e w1 ⟨rfl, hb1⟩
  replace x0 := cell_kept hb1 x0 hl_x
  replace x1 := cell_kept hb1 x1 hl_x
  replace x2 := cell_kept hb1 x2 hl_x
  replace x3 := cell_kept hb1 x3 hl_x
  replace x4 := cell_kept hb1 x4 hl_x
  replace x5 := cell_kept hb1 x5 hl_x
  replace p0 := cell_kept hb1 p0 hl_p
  replace p1 := cell_kept hb1 p1 hl_p
  replace p2 := cell_kept hb1 p2 hl_p
  replace p3 := cell_kept hb1 p3 hl_p
  replace q0 := cell_kept hb1 q0 hl_q
  replace q1 := cell_kept hb1 q1 hl_q
  replace q2 := cell_kept hb1 q2 hl_q
  replace q3 := cell_kept hb1 q3 hl_q
  replace r0 := cell_kept hb1 r0 hl_r
  replace r1 := cell_kept hb1 r1 hl_r
  replace r2 := cell_kept hb1 r2 hl_r
  replace r3 := cell_kept hb1 r3 hl_r
  replace c4 := cell_kept hb1 c4 hl_c
  replace Hb := Lib.hid (Hb.out.trans (hb1.mono hwl))
  replace hl_x := Nat.lt_of_lt_of_le hl_x hb1.size
  replace hl_p := Nat.lt_of_lt_of_le hl_p hb1.size
  replace hl_q := Nat.lt_of_lt_of_le hl_q hb1.size
  replace hl_r := Nat.lt_of_lt_of_le hl_r hb1.size
  replace hl_c := Nat.lt_of_lt_of_le hl_c hb1.size
  replace hwl := Nat.le_trans hwl hb1.size
  clear hb1
  go_wp2_with fail
  refine (few_q s ⟨a0, k0, a1, k1, some ⟨b, off, none⟩, k2, a3, k3, a4, k4, a5, k5⟩ _ (Hs.out.below Hb.out) hn true hfew).mono ?_
  rintro e w2 ⟨rfl, hb1⟩
  replace x0 := cell_kept hb1 x0 hl_x
  replace x1 := cell_kept hb1 x1 hl_x
  replace x2 := cell_kept hb1 x2 hl_x
  replace x3 := cell_kept hb1 x3 hl_x
  replace x4 := cell_kept hb1 x4 hl_x
  replace x5 := cell_kept hb1 x5 hl_x
  replace p0 := cell_kept hb1 p0 hl_p
  replace p1 := cell_kept hb1 p1 hl_p
  replace p2 := cell_kept hb1 p2 hl_p
  replace p3 := cell_kept hb1 p3 hl_p
  replace q0 := cell_kept hb1 q0 hl_q
  replace q1 := cell_kept hb1 q1 hl_q
  replace q2 := cell_kept hb1 q2 hl_q
  replace q3 := cell_kept hb1 q3 hl_q
  replace r0 := cell_kept hb1 r0 hl_r
  replace r1 := cell_kept hb1 r1 hl_r
  replace r2 := cell_kept hb1 r2 hl_r
  replace r3 := cell_kept hb1 r3 hl_r
  replace c4 := cell_kept hb1 c4 hl_c
  replace Hb := Lib.hid (Hb.out.trans (hb1.mono hwl))
  replace hl_x := Nat.lt_of_lt_of_le hl_x hb1.size
  replace hl_p := Nat.lt_of_lt_of_le hl_p hb1.size
  replace hl_q := Nat.lt_of_lt_of_le hl_q hb1.size
  replace hl_r := Nat.lt_of_lt_of_le hl_r hb1.size
  replace hl_c := Nat.lt_of_lt_of_le hl_c hb1.size
  replace hwl := Nat.le_trans hwl hb1.size
  clear hb1
  go_wp2_with fail
  refine wp_region_grown (by kernel_rfl) (by kernel_rfl) ?_
  repeat (go_big_quiet_step (first | (go_at_call_of 17 (ra.schema); go_at_call_of 17 (rb.schema); exact calls_grown (alike_eq s ⟨a0, k0, a1, k1, some ⟨b, off, none⟩, k2, a3, k3, a4, k4, a5, k5⟩ ra rb _ (Hs.out.below (Hb.out.trans ((grown_below _ _).mono hwl))) hsh true Hab.out)) | (go_at_call_of 17 (rb.schema); go_at_call_of 17 (rc.schema); exact calls_grown (alike_eq s ⟨a0, k0, a1, k1, some ⟨b, off, none⟩, k2, a3, k3, a4, k4, a5, k5⟩ rb rc _ (Hs.out.below (Hb.out.trans ((grown_below _ _).mono hwl))) hsh false Hbc.out)) | (go_at_call_of 17 (ra.schema); go_at_call_of 17 (rc.schema); exact calls_grown (alike_eq s ⟨a0, k0, a1, k1, some ⟨b, off, none⟩, k2, a3, k3, a4, k4, a5, k5⟩ ra rc _ (Hs.out.below (Hb.out.trans ((grown_below _ _).mono hwl))) hsh ac Hac.out))))
  refine wpQuiet_nil ?_
  intro w3 hw0
  have hb1 : Below w2.heap.size w2 w3 := by obtain ⟨n, rfl⟩ := hw0; exact grown_below _ n
  clear hw0
  replace x0 := cell_kept hb1 x0 hl_x
  replace x1 := cell_kept hb1 x1 hl_x
  replace x2 := cell_kept hb1 x2 hl_x
  replace x3 := cell_kept hb1 x3 hl_x
  replace x4 := cell_kept hb1 x4 hl_x
  replace x5 := cell_kept hb1 x5 hl_x
  replace p0 := cell_kept hb1 p0 hl_p
  replace p1 := cell_kept hb1 p1 hl_p
  replace p2 := cell_kept hb1 p2 hl_p
  replace p3 := cell_kept hb1 p3 hl_p
  replace q0 := cell_kept hb1 q0 hl_q
  replace q1 := cell_kept hb1 q1 hl_q
  replace q2 := cell_kept hb1 q2 hl_q
  replace q3 := cell_kept hb1 q3 hl_q
  replace r0 := cell_kept hb1 r0 hl_r
  replace r1 := cell_kept hb1 r1 hl_r
  replace r2 := cell_kept hb1 r2 hl_r
  replace r3 := cell_kept hb1 r3 hl_r
  replace c4 := cell_kept hb1 c4 hl_c
  replace Hb := Lib.hid (Hb.out.trans (hb1.mono hwl))
  replace hl_x := Nat.lt_of_lt_of_le hl_x hb1.size
  replace hl_p := Nat.lt_of_lt_of_le hl_p hb1.size
  replace hl_q := Nat.lt_of_lt_of_le hl_q hb1.size
  replace hl_r := Nat.lt_of_lt_of_le hl_r hb1.size
  replace hl_c := Nat.lt_of_lt_of_le hl_c hb1.size
  replace hwl := Nat.le_trans hwl hb1.size
  clear hb1
  go_wp2_with fail
  refine (alike_eq s ⟨a0, k0, a1, k1, some ⟨b, off, none⟩, k2, a3, k3, a4, k4, a5, k5⟩ rb ra _ (Hs.out.below Hb.out) hsh true (by rw [alike_symm]; exact Hab.out)).mono ?_
  rintro e w4 ⟨rfl, hb1⟩
  replace x0 := cell_kept hb1 x0 hl_x
  replace x1 := cell_kept hb1 x1 hl_x
  replace x2 := cell_kept hb1 x2 hl_x
  replace x3 := cell_kept hb1 x3 hl_x
  replace x4 := cell_kept hb1 x4 hl_x
  replace x5 := cell_kept hb1 x5 hl_x
  replace p0 := cell_kept hb1 p0 hl_p
  replace p1 := cell_kept hb1 p1 hl_p
  replace p2 := cell_kept hb1 p2 hl_p
  replace p3 := cell_kept hb1 p3 hl_p
  replace q0 := cell_kept hb1 q0 hl_q
  replace q1 := cell_kept hb1 q1 hl_q
  replace q2 := cell_kept hb1 q2 hl_q
  replace q3 := cell_kept hb1 q3 hl_q
  replace r0 := cell_kept hb1 r0 hl_r
  replace r1 := cell_kept hb1 r1 hl_r
  replace r2 := cell_kept hb1 r2 hl_r
  replace r3 := cell_kept hb1 r3 hl_r
  replace c4 := cell_kept hb1 c4 hl_c
  replace Hb := Lib.hid (Hb.out.trans (hb1.mono hwl))
  replace hl_x := Nat.lt_of_lt_of_le hl_x hb1.size
  replace hl_p := Nat.lt_of_lt_of_le hl_p hb1.size
  replace hl_q := Nat.lt_of_lt_of_le hl_q hb1.size
  replace hl_r := Nat.lt_of_lt_of_le hl_r hb1.size
  replace hl_c := Nat.lt_of_lt_of_le hl_c hb1.size
  replace hwl := Nat.le_trans hwl hb1.size
  clear hb1
  go_wp2_with fail
  refine (alike_eq s ⟨a0, k0, a1, k1, some ⟨b, off, none⟩, k2, a3, k3, a4, k4, a5, k5⟩ ra ra _ (Hs.out.below Hb.out) hsh true Haa.out).mono ?_
  rintro e w5 ⟨rfl, hb1⟩
  replace x0 := cell_kept hb1 x0 hl_x
  replace x1 := cell_kept hb1 x1 hl_x
  replace x2 := cell_kept hb1 x2 hl_x
  replace x3 := cell_kept hb1 x3 hl_x
  replace x4 := cell_kept hb1 x4 hl_x
  replace x5 := cell_kept hb1 x5 hl_x
  replace p0 := cell_kept hb1 p0 hl_p
  replace p1 := cell_kept hb1 p1 hl_p
  replace p2 := cell_kept hb1 p2 hl_p
  replace p3 := cell_kept hb1 p3 hl_p
  replace q0 := cell_kept hb1 q0 hl_q
  replace q1 := cell_kept hb1 q1 hl_q
  replace q2 := cell_kept hb1 q2 hl_q
  replace q3 := cell_kept hb1 q3 hl_q
  replace r0 := cell_kept hb1 r0 hl_r
  replace r1 := cell_kept hb1 r1 hl_r
  replace r2 := cell_kept hb1 r2 hl_r
  replace r3 := cell_kept hb1 r3 hl_r
  replace c4 := cell_kept hb1 c4 hl_c
  replace Hb := Lib.hid (Hb.out.trans (hb1.mono hwl))
  replace hl_x := Nat.lt_of_lt_of_le hl_x hb1.size
  replace hl_p := Nat.lt_of_lt_of_le hl_p hb1.size
  replace hl_q := Nat.lt_of_lt_of_le hl_q hb1.size
  replace hl_r := Nat.lt_of_lt_of_le hl_r hb1.size
  replace hl_c := Nat.lt_of_lt_of_le hl_c hb1.size
  replace hwl := Nat.le_trans hwl hb1.size
  clear hb1
  go_wp2_with fail
  refine wp_region_grown (by kernel_rfl) (by kernel_rfl) ?_
  repeat (go_big_quiet_step (fail))
  refine wpQuiet_nil ?_
  intro w6 hw0
  have hb1 : Below w5.heap.size w5 w6 := by obtain ⟨n, rfl⟩ := hw0; exact grown_below _ n
  clear hw0
  replace x0 := cell_kept hb1 x0 hl_x
  replace x1 := cell_kept hb1 x1 hl_x
  replace x2 := cell_kept hb1 x2 hl_x
  replace x3 := cell_kept hb1 x3 hl_x
  replace x4 := cell_kept hb1 x4 hl_x
  replace x5 := cell_kept hb1 x5 hl_x
  replace p0 := cell_kept hb1 p0 hl_p
  replace p1 := cell_kept hb1 p1 hl_p
  replace p2 := cell_kept hb1 p2 hl_p
  replace p3 := cell_kept hb1 p3 hl_p
  replace q0 := cell_kept hb1 q0 hl_q
  replace q1 := cell_kept hb1 q1 hl_q
  replace q2 := cell_kept hb1 q2 hl_q
  replace q3 := cell_kept hb1 q3 hl_q
  replace r0 := cell_kept hb1 r0 hl_r
  replace r1 := cell_kept hb1 r1 hl_r
  replace r2 := cell_kept hb1 r2 hl_r
  replace r3 := cell_kept hb1 r3 hl_r
  replace c4 := cell_kept hb1 c4 hl_c
  replace Hb := Lib.hid (Hb.out.trans (hb1.mono hwl))
  replace hl_x := Nat.lt_of_lt_of_le hl_x hb1.size
  replace hl_p := Nat.lt_of_lt_of_le hl_p hb1.size
  replace hl_q := Nat.lt_of_lt_of_le hl_q hb1.size
  replace hl_r := Nat.lt_of_lt_of_le hl_r hb1.size
  replace hl_c := Nat.lt_of_lt_of_le hl_c hb1.size
  replace hwl := Nat.le_trans hwl hb1.size
  clear hb1
  go_wp2_with fail
  refine (check_q s ⟨a0, k0, a1, k1, some ⟨b, off, none⟩, k2, a3, k3, a4, k4, a5, k5⟩ _ (Hs.out.below Hb.out) hfew c Hc.out).mono ?_
  rintro e w7 ⟨rfl, hb1⟩
  replace x0 := cell_kept hb1 x0 hl_x
  replace x1 := cell_kept hb1 x1 hl_x
  replace x2 := cell_kept hb1 x2 hl_x
  replace x3 := cell_kept hb1 x3 hl_x
  replace x4 := cell_kept hb1 x4 hl_x
  replace x5 := cell_kept hb1 x5 hl_x
  replace p0 := cell_kept hb1 p0 hl_p
  replace p1 := cell_kept hb1 p1 hl_p
  replace p2 := cell_kept hb1 p2 hl_p
  replace p3 := cell_kept hb1 p3 hl_p
  replace q0 := cell_kept hb1 q0 hl_q
  replace q1 := cell_kept hb1 q1 hl_q
  replace q2 := cell_kept hb1 q2 hl_q
  replace q3 := cell_kept hb1 q3 hl_q
  replace r0 := cell_kept hb1 r0 hl_r
  replace r1 := cell_kept hb1 r1 hl_r
  replace r2 := cell_kept hb1 r2 hl_r
  replace r3 := cell_kept hb1 r3 hl_r
  replace c4 := cell_kept hb1 c4 hl_c
  replace Hb := Lib.hid (Hb.out.trans (hb1.mono hwl))
  replace hl_x := Nat.lt_of_lt_of_le hl_x hb1.size
  replace hl_p := Nat.lt_of_lt_of_le hl_p hb1.size
  replace hl_q := Nat.lt_of_lt_of_le hl_q hb1.size
  replace hl_r := Nat.lt_of_lt_of_le hl_r hb1.size
  replace hl_c := Nat.lt_of_lt_of_le hl_c hb1.size
  replace hwl := Nat.le_trans hwl hb1.size
  clear hb1
  go_wp2
  go_ret
  exact ⟨rfl, Hb.out⟩

theorem walk (s : SourceD) (p : SrcAt) (ra rb rc : RefD) (w : World) (hs : Src w s p) (hn : Lens s) :
    Calls Try.prog 6 #[s.val p, ra.val, rb.val, rc.val] w fun e w' => e = .returned (.bool true) ∧ Below w.heap.size w w' := by
  cases hfew : fewB s with
  | false => exact walk_few s p ra rb rc w hs hn hfew
  | true =>
    cases hbc : alikeB s rb rc with
    | _ =>
    cases hac : alikeB s ra rc with
    | _ =>
    cases ht : typeOf? s ra.schema ra.field with
    | none =>
      have hab := alike_out (b := rb) ht
      have hac' := alike_out (b := rc) ht
      by_cases h1 : 0 ≤ ra.schema
      · by_cases h2 : ra.schema < s.schemas.length
        · have hsl : ra.schema.toNat < s.schemas.length := by omega
          by_cases h3 : 0 ≤ ra.field
          · by_cases h4 : ra.field < s.schemas[ra.schema.toNat].fields.length
            · rw [typeOf?_in h1 h3 hsl (by omega)] at ht
              cases ht
            · exact walk_F_n4 s p ra rb rc w hs hn hfew _ hab hbc hac' h1 h2 h3 hsl h4
          · exact walk_F_n3 s p ra rb rc w hs hn hfew _ hab hbc hac' h1 h2 (by omega)
        · exact walk_F_n2 s p ra rb rc w hs hn hfew _ hab hbc hac' h1 h2
      · exact walk_F_n1 s p ra rb rc w hs hn hfew _ hab hbc hac' (by omega)
    | some t =>
      obtain ⟨h1, h2, h3, hsl, h4⟩ := typeOf?_there (s := s) (i := ra.schema) (j := ra.field) (by rw [ht]; simp)
      cases hab : alikeB s ra rb with
      | false =>
        by_cases hc0 : checkB s = 0
        · exact walk_F_c0 s p ra rb rc w hs hn hfew _ _ hab hbc hac (alike_ok hc0 ht) h1 h2 h3 hsl h4 _ rfl hc0
        · exact walk_F_c1 s p ra rb rc w hs hn hfew _ _ hab hbc hac h1 h2 h3 hsl h4 _ rfl hc0
      | true =>
        have haa := alike_left hab
        by_cases hbt : alikeB s rb rc = true
        · have hact := alike_trans hab hbt
          by_cases hc0 : checkB s = 0
          · exact walk_T_c0 s p ra rb rc w hs hn hfew hab hbt hact haa h1 h2 h3 hsl h4 _ rfl hc0
          · exact walk_T_c1 s p ra rb rc w hs hn hfew hab hbt hact haa h1 h2 h3 hsl h4 _ rfl hc0
        · have hbf : alikeB s rb rc = false := by simpa using hbt
          by_cases hc0 : checkB s = 0
          · exact walk_U_c0 s p ra rb rc w hs hn hfew _ hab hbf hac haa h1 h2 h3 hsl h4 _ rfl hc0
          · exact walk_U_c1 s p ra rb rc w hs hn hfew _ hab hbf hac haa h1 h2 h3 hsl h4 _ rfl hc0

theorem own : ownKnob Try.prog.godebug = none := by kernel_rfl
theorem laidOut : laidOutB Try.prog = true := by kernel_rfl
set_option maxRecDepth 100000 in
theorem lifted (os : Os) (started : os.Started) (H : Type) (enc : TypeId × Value → H) :
    ReturnsInHanded {} Try.checked os 6 .any (Rows.typesAlikeSpec.pre6 enc Try.prog Try.f6 Rows.typesAlikeRow.domain false) (Rows.typesAlikeSpec.post enc Try.prog Try.f6 false true false false) := by
  refine returnsInHanded_of_change (C := Try.checked) own started (by kernel_rfl) Try.func6
    (ChangeSpec.witness6 (enc := enc) (C := Try.checked) false ⟨#[], #[.agg #[.slice none 0 0, .slice none 0 0, .slice none 0 0, .slice none 0 0, .slice none 0 0, .slice none 0 0], .agg #[.string ⟨#[]⟩, .string ⟨#[]⟩, .int .i64 0, .int .i64 0], .agg #[.string ⟨#[]⟩, .string ⟨#[]⟩, .int .i64 0, .int .i64 0], .agg #[.string ⟨#[]⟩, .string ⟨#[]⟩, .int .i64 0, .int .i64 0]], []⟩ 8 (by kernel_rfl) (by kernel_rfl) (by kernel_rfl) (by kernel_rfl)) ?_
  intro W base args ds gs before hval0 hW hcnd _
  have hval : ∀ (j : Nat) t v, Try.f6.params[j]? = some t → args[j]? = some v → Value.okWide Try.prog W .any base t v := hval0
  have hW' := hW
  obtain ⟨p, q, hA0, hV, rfl, hfz, hnd⟩ := hW
  have hA : DataW.TrodAll enc Try.prog W 0 (fun _ => true) true Try.f6.params.toList args.toList ds p := hA0
  rw [Try.params6] at hA hval
  obtain ⟨v0, vs0, d0, ds0, p0, q0, hargs, rfl, rfl, h0, r0⟩ := trodAll_cons hA
  obtain ⟨v1, vs1, d1, ds1, p1, q1, rfl, rfl, rfl, h1, r1⟩ := trodAll_cons r0
  obtain ⟨v2, vs2, d2, ds2, p2, q2, rfl, rfl, rfl, h2, r2⟩ := trodAll_cons r1
  obtain ⟨v3, vs3, d3, ds3, p3, q3, rfl, rfl, rfl, h3, r3⟩ := trodAll_cons r2
  obtain ⟨rfl, rfl, rfl⟩ := trodAll_nil r3
  obtain rfl : args = #[v0, v1, v2, v3] := by cases args; simp_all
  obtain ⟨rfl, rfl⟩ := trodVars_none hV
  have k0 := h0
  have lt0 : ∀ x ∈ p0, x.block < W.heap.size := by obtain ⟨m, hm⟩ := k0; exact DataW.trod_lt m _ _ _ hm
  obtain ⟨s0, at0, rfl, hs0, hn0⟩ := open_source (hval 0 29 v0 rfl rfl) h0
  have k1 := h1
  have lt1 : ∀ x ∈ p1, x.block < W.heap.size := by obtain ⟨m, hm⟩ := k1; exact DataW.trod_lt m _ _ _ hm
  obtain ⟨r1_, rfl⟩ := open_ref (hval 1 35 v1 rfl rfl) h1
  have k2 := h2
  have lt2 : ∀ x ∈ p2, x.block < W.heap.size := by obtain ⟨m, hm⟩ := k2; exact DataW.trod_lt m _ _ _ hm
  obtain ⟨r2_, rfl⟩ := open_ref (hval 2 35 v2 rfl rfl) h2
  have k3 := h3
  have lt3 : ∀ x ∈ p3, x.block < W.heap.size := by obtain ⟨m, hm⟩ := k3; exact DataW.trod_lt m _ _ _ hm
  obtain ⟨r3_, rfl⟩ := open_ref (hval 3 35 v3 rfl rfl) h3
  clear hA0 hval0
  refine (walk s0 at0 r1_ r2_ r3_ W hs0 hn0).mono fun e W' ⟨he, bel⟩ => ?_
  subst he
  exact ⟨_, rfl, _, _, _, [], _, [], hW', trodAll_mk1 (shut_bool Try.underlying4 _), (trodAll_cons_mk (Below.trod laidOut (by kernel_rfl) (of_decide_eq_true (by kernel_rfl)) k0 bel lt0) (trodAll_cons_mk (Below.trod laidOut (by kernel_rfl) (of_decide_eq_true (by kernel_rfl)) k1 bel lt1) (trodAll_cons_mk (Below.trod laidOut (by kernel_rfl) (of_decide_eq_true (by kernel_rfl)) k2 bel lt2) (trodAll_cons_mk (Below.trod laidOut (by kernel_rfl) (of_decide_eq_true (by kernel_rfl)) k3 bel lt3) trodAll_mk0)))), rfl, bel.frame _, fun h => by cases h⟩

theorem over : Rows.typesAlikeRow.holds Try.pinned (OpenSpec.ofChange Rows.typesAlikeSpec) :=
  OpenClaim.holds_of_wide 6 Try.f6 rfl rfl rfl rfl rfl rfl rfl ⟨rfl, rfl, rfl, rfl, rfl⟩ rfl rfl rfl rfl rfl (by kernel_rfl) Try.func6 (by kernel_rfl)
    (of_decide_eq_true (by kernel_rfl)) (by unfold Func.isWrapper; first | (rw [if_pos (by decide +kernel)]; kernel_rfl) | (rw [if_neg (by decide +kernel)]; exact ⟨rfl, rfl⟩))
    (fun os started H enc _ => lifted os started H enc)
end typesAlike
theorem typesAlike_holds : Rows.TypesAlikeSaid := typesAlike.over
#print axioms typesAlike_holds
end Go.Proofs.Ytogenjbabgibbaa

