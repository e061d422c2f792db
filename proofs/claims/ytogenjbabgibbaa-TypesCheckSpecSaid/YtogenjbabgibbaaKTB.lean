import Derived.Test.YtogenjbabgibbaaKT0
namespace Go.Proofs.Ytogenjbabgibbaa
open Go.RowKit
set_option maxRecDepth 20000 in
set_option maxHeartbeats 4000000 in
theorem ratom_B2 (s : SourceD) (p : SrcAt) (fs : List FromD) (fa : Option Addr) (fk : Nat) (m : AtomD) (w : World) (hs : Src w s p) (hf : Sl 8 RFromD w fa fs) (hsh : Short s) (hgd : Good s)
    (hop1 : 1 ≤ m.op) (hop2 : m.op ≤ 4) (hta : rtermB s fs m.a = true) (htb : rtermB s fs m.b = true) (hpa : m.a.var = -1) (hpb : ¬ m.b.var = -1)
    (hr : ratomB s fs m = (rpairOK s.units (atomTys s fs m) && (atomTys s fs m).all (ordOK m.op))) (o2 : (m.op == 2) = true) :
    Calls Try.prog 65 #[s.val p, .slice fa fs.length fk, m.val] w fun e w' => e = .returned (.bool (ratomB s fs m)) ∧ Below w.heap.size w w' := by
  have Hs := Lib.hid hs
  have Hf := Lib.hid hf
  have Hta := Lib.hid hta
  have Htb := Lib.hid htb
  obtain ⟨b, off, sB, tB, aB, kB, rfl, hl_d, i0, i1, d2, htyB, hnB, hcB⟩ := term_in hs hf htb hpb
  have p1 : (m.a.var == -1) = true := by simpa using hpa
  have p2 : (m.b.var == -1) = false := by simpa using hpb
  have q1 : decide ((0 : Int) ≤ m.a.var) = false := by rw [hpa]; rfl
  have q2 : decide ((0 : Int) ≤ m.b.var) = true := decide_eq_true i0
  have Hr := Lib.hid (show ratomB s fs m = (rpairOK s.units [tB] && [tB].all (ordOK m.op)) by rw [hr]; unfold atomTys; simp [term_no hpa, htyB])
  have HcB := Lib.hid hcB
  clear hs hf hr hta htb hpa hpb hcB hnB htyB
  go_enter Try.func65, Try.ntmps65
  go_wp2_with fail
  all_goals (try (exfalso; omega))
  generalize hw0 : World.alloc _ _ = w0
  obtain ⟨X0, X1, hsz, hb0⟩ := blk2 hw0
  replace d2 := cell_kept hb0 d2 hl_d
  have hw_d := hl_d
  replace hl_d := Nat.lt_of_lt_of_le hl_d hb0.size
  have x0 : w0.cell? ⟨w.heap.size, 0, none⟩ = some (.slice p.a0 s.issuers.length p.k0) := X0.cell 0
  have x1 : w0.cell? ⟨w.heap.size, 1, none⟩ = some (.slice p.a1 s.units.length p.k1) := X0.cell 1
  have x2 : w0.cell? ⟨w.heap.size, 2, none⟩ = some (.slice p.a2 s.schemas.length p.k2) := X0.cell 2
  have x3 : w0.cell? ⟨w.heap.size, 3, none⟩ = some (.slice p.a3 s.rules.length p.k3) := X0.cell 3
  have x4 : w0.cell? ⟨w.heap.size, 4, none⟩ = some (.slice p.a4 s.converts p.k4) := X0.cell 4
  have x5 : w0.cell? ⟨w.heap.size, 5, none⟩ = some (.slice p.a5 s.purposes.length p.k5) := X0.cell 5
  have hl_x : w.heap.size < w0.heap.size := by omega
  have y0 : w0.cell? ⟨w.heap.size + 1, 0, none⟩ = some (.int .i64 m.op) := X1.cell 0
  have y1 : w0.cell? ⟨w.heap.size + 1, 1, none⟩ = some (.string m.a.name) := X1.cell 1
  have y2 : w0.cell? ⟨w.heap.size + 1, 2, none⟩ = some (.string m.a.path) := X1.cell 2
  have y3 : w0.cell? ⟨w.heap.size + 1, 3, none⟩ = some (.int .i64 m.a.var) := X1.cell 3
  have y4 : w0.cell? ⟨w.heap.size + 1, 4, none⟩ = some (.int .i64 m.a.field) := X1.cell 4
  have y5 : w0.cell? ⟨w.heap.size + 1, 5, none⟩ = some (.int .i64 m.a.n) := X1.cell 5
  have y6 : w0.cell? ⟨w.heap.size + 1, 6, none⟩ = some (.string m.b.name) := X1.cell 6
  have y7 : w0.cell? ⟨w.heap.size + 1, 7, none⟩ = some (.string m.b.path) := X1.cell 7
  have y8 : w0.cell? ⟨w.heap.size + 1, 8, none⟩ = some (.int .i64 m.b.var) := X1.cell 8
  have y9 : w0.cell? ⟨w.heap.size + 1, 9, none⟩ = some (.int .i64 m.b.field) := X1.cell 9
  have y10 : w0.cell? ⟨w.heap.size + 1, 10, none⟩ = some (.int .i64 m.b.n) := X1.cell 10
  have hl_y : w.heap.size + 1 < w0.heap.size := by omega
  have hwl : w.heap.size ≤ w0.heap.size := hb0.size
  have Hb := Lib.hid hb0
  clear hw0 hb0 hsz X0 X1
  refine (rterm_any s p fs _ fk m.a _ (Hs.out.below Hb.out) (Hf.out.below RFromD.stab Hb.out)).mono ?_
  rintro e w1 ⟨rfl, hb1⟩
  rw [Hta.out]
  replace x0 := cell_kept hb1 x0 hl_x
  replace x1 := cell_kept hb1 x1 hl_x
  replace x2 := cell_kept hb1 x2 hl_x
  replace x3 := cell_kept hb1 x3 hl_x
  replace x4 := cell_kept hb1 x4 hl_x
  replace x5 := cell_kept hb1 x5 hl_x
  replace y0 := cell_kept hb1 y0 hl_y
  replace y1 := cell_kept hb1 y1 hl_y
  replace y2 := cell_kept hb1 y2 hl_y
  replace y3 := cell_kept hb1 y3 hl_y
  replace y4 := cell_kept hb1 y4 hl_y
  replace y5 := cell_kept hb1 y5 hl_y
  replace y6 := cell_kept hb1 y6 hl_y
  replace y7 := cell_kept hb1 y7 hl_y
  replace y8 := cell_kept hb1 y8 hl_y
  replace y9 := cell_kept hb1 y9 hl_y
  replace y10 := cell_kept hb1 y10 hl_y
  replace d2 := cell_kept hb1 d2 hl_d
  replace Hb := Lib.hid (Hb.out.trans (hb1.mono hwl))
  replace hl_x := Nat.lt_of_lt_of_le hl_x hb1.size
  replace hl_y := Nat.lt_of_lt_of_le hl_y hb1.size
  replace hl_d := Nat.lt_of_lt_of_le hl_d hb1.size
  replace hwl := Nat.le_trans hwl hb1.size
  clear hb1
  go_wp2_with fail
  refine (rterm_any s p fs _ fk m.b _ (Hs.out.below Hb.out) (Hf.out.below RFromD.stab Hb.out)).mono ?_
  rintro e w2 ⟨rfl, hb1⟩
  rw [Htb.out]
  replace x0 := cell_kept hb1 x0 hl_x
  replace x1 := cell_kept hb1 x1 hl_x
  replace x2 := cell_kept hb1 x2 hl_x
  replace x3 := cell_kept hb1 x3 hl_x
  replace x4 := cell_kept hb1 x4 hl_x
  replace x5 := cell_kept hb1 x5 hl_x
  replace y0 := cell_kept hb1 y0 hl_y
  replace y1 := cell_kept hb1 y1 hl_y
  replace y2 := cell_kept hb1 y2 hl_y
  replace y3 := cell_kept hb1 y3 hl_y
  replace y4 := cell_kept hb1 y4 hl_y
  replace y5 := cell_kept hb1 y5 hl_y
  replace y6 := cell_kept hb1 y6 hl_y
  replace y7 := cell_kept hb1 y7 hl_y
  replace y8 := cell_kept hb1 y8 hl_y
  replace y9 := cell_kept hb1 y9 hl_y
  replace y10 := cell_kept hb1 y10 hl_y
  replace d2 := cell_kept hb1 d2 hl_d
  replace Hb := Lib.hid (Hb.out.trans (hb1.mono hwl))
  replace hl_x := Nat.lt_of_lt_of_le hl_x hb1.size
  replace hl_y := Nat.lt_of_lt_of_le hl_y hb1.size
  replace hl_d := Nat.lt_of_lt_of_le hl_d hb1.size
  replace hwl := Nat.le_trans hwl hb1.size
  clear hb1
  go_wp2_with fail
  cases hoB : ordB tB with
  | false =>
    refine wp_region_grown (by kernel_rfl) (by kernel_rfl) ?_
    repeat (go_big_quiet_step (first | (go_at_call_of 39 (sB); exact calls_grown (HcB.out _ (Hb.out.trans ((grown_below _ _).mono hwl)))) | (go_at_call_of 78 (aB); exact calls_grown (ord_eq tB aB kB _ false hoB))))
    refine wpQuiet_nil ?_
    intro w3 hw0
    have hb1 : Below w2.heap.size w2 w3 := by obtain ⟨n, rfl⟩ := hw0; exact grown_below _ n
    clear hw0
    replace x0 := cell_kept hb1 x0 hl_x
    replace x1 := cell_kept hb1 x1 hl_x
    replace x2 := cell_kept hb1 x2 hl_x
    replace x3 := cell_kept hb1 x3 hl_x
    replace x4 := cell_kept hb1 x4 hl_x
    replace x5 := cell_kept hb1 x5 hl_x
    replace y0 := cell_kept hb1 y0 hl_y
    replace y1 := cell_kept hb1 y1 hl_y
    replace y2 := cell_kept hb1 y2 hl_y
    replace y3 := cell_kept hb1 y3 hl_y
    replace y4 := cell_kept hb1 y4 hl_y
    replace y5 := cell_kept hb1 y5 hl_y
    replace y6 := cell_kept hb1 y6 hl_y
    replace y7 := cell_kept hb1 y7 hl_y
    replace y8 := cell_kept hb1 y8 hl_y
    replace y9 := cell_kept hb1 y9 hl_y
    replace y10 := cell_kept hb1 y10 hl_y
    replace d2 := cell_kept hb1 d2 hl_d
    replace Hb := Lib.hid (Hb.out.trans (hb1.mono hwl))
    replace hl_x := Nat.lt_of_lt_of_le hl_x hb1.size
    replace hl_y := Nat.lt_of_lt_of_le hl_y hb1.size
    replace hl_d := Nat.lt_of_lt_of_le hl_d hb1.size
    replace hwl := Nat.le_trans hwl hb1.size
    clear hb1
    go_wp2
    go_ret
    exact ⟨ret_bool (by rw [Hr.out]; simp at o2; simp [rpairOK, ordOK, *]), Hb.out⟩
  | true =>
    refine wp_region_grown (by kernel_rfl) (by kernel_rfl) ?_
    repeat (go_big_quiet_step (first | (go_at_call_of 39 (sB); exact calls_grown (HcB.out _ (Hb.out.trans ((grown_below _ _).mono hwl)))) | (go_at_call_of 78 (aB); exact calls_grown (ord_eq tB aB kB _ true hoB))))
    refine wpQuiet_nil ?_
    intro w3 hw0
    have hb1 : Below w2.heap.size w2 w3 := by obtain ⟨n, rfl⟩ := hw0; exact grown_below _ n
    clear hw0
    replace x0 := cell_kept hb1 x0 hl_x
    replace x1 := cell_kept hb1 x1 hl_x
    replace x2 := cell_kept hb1 x2 hl_x
    replace x3 := cell_kept hb1 x3 hl_x
    replace x4 := cell_kept hb1 x4 hl_x
    replace x5 := cell_kept hb1 x5 hl_x
    replace y0 := cell_kept hb1 y0 hl_y
    replace y1 := cell_kept hb1 y1 hl_y
    replace y2 := cell_kept hb1 y2 hl_y
    replace y3 := cell_kept hb1 y3 hl_y
    replace y4 := cell_kept hb1 y4 hl_y
    replace y5 := cell_kept hb1 y5 hl_y
    replace y6 := cell_kept hb1 y6 hl_y
    replace y7 := cell_kept hb1 y7 hl_y
    replace y8 := cell_kept hb1 y8 hl_y
    replace y9 := cell_kept hb1 y9 hl_y
    replace y10 := cell_kept hb1 y10 hl_y
    replace d2 := cell_kept hb1 d2 hl_d
    replace Hb := Lib.hid (Hb.out.trans (hb1.mono hwl))
    replace hl_x := Nat.lt_of_lt_of_le hl_x hb1.size
    replace hl_y := Nat.lt_of_lt_of_le hl_y hb1.size
    replace hl_d := Nat.lt_of_lt_of_le hl_d hb1.size
    replace hwl := Nat.le_trans hwl hb1.size
    clear hb1
    go_wp2_with fail
    refine wp_region_grown (by kernel_rfl) (by kernel_rfl) ?_
    repeat (go_big_quiet_step (fail))
    refine wpQuiet_nil ?_
    intro w9 hw0
    have hb1 : Below w3.heap.size w3 w9 := by obtain ⟨n, rfl⟩ := hw0; exact grown_below _ n
    clear hw0
    replace x0 := cell_kept hb1 x0 hl_x
    replace x1 := cell_kept hb1 x1 hl_x
    replace x2 := cell_kept hb1 x2 hl_x
    replace x3 := cell_kept hb1 x3 hl_x
    replace x4 := cell_kept hb1 x4 hl_x
    replace x5 := cell_kept hb1 x5 hl_x
    replace y0 := cell_kept hb1 y0 hl_y
    replace y1 := cell_kept hb1 y1 hl_y
    replace y2 := cell_kept hb1 y2 hl_y
    replace y3 := cell_kept hb1 y3 hl_y
    replace y4 := cell_kept hb1 y4 hl_y
    replace y5 := cell_kept hb1 y5 hl_y
    replace y6 := cell_kept hb1 y6 hl_y
    replace y7 := cell_kept hb1 y7 hl_y
    replace y8 := cell_kept hb1 y8 hl_y
    replace y9 := cell_kept hb1 y9 hl_y
    replace y10 := cell_kept hb1 y10 hl_y
    replace d2 := cell_kept hb1 d2 hl_d
    replace Hb := Lib.hid (Hb.out.trans (hb1.mono hwl))
    replace hl_x := Nat.lt_of_lt_of_le hl_x hb1.size
    replace hl_y := Nat.lt_of_lt_of_le hl_y hb1.size
    replace hl_d := Nat.lt_of_lt_of_le hl_d hb1.size
    replace hwl := Nat.le_trans hwl hb1.size
    clear hb1
    go_wp2
    go_ret
    exact ⟨ret_bool (by rw [Hr.out]; simp at o2; simp [rpairOK, ordOK, *]), Hb.out⟩
  
set_option maxRecDepth 20000 in
set_option maxHeartbeats 4000000 in
theorem ratom_B3 (s : SourceD) (p : SrcAt) (fs : List FromD) (fa : Option Addr) (fk : Nat) (m : AtomD) (w : World) (hs : Src w s p) (hf : Sl 8 RFromD w fa fs) (hsh : Short s) (hgd : Good s)
    (hop1 : 1 ≤ m.op) (hop2 : m.op ≤ 4) (hta : rtermB s fs m.a = true) (htb : rtermB s fs m.b = true) (hpa : m.a.var = -1) (hpb : ¬ m.b.var = -1)
    (hr : ratomB s fs m = (rpairOK s.units (atomTys s fs m) && (atomTys s fs m).all (ordOK m.op))) (o2 : (m.op == 2) = false) (o3 : (m.op == 3) = true) :
    Calls Try.prog 65 #[s.val p, .slice fa fs.length fk, m.val] w fun e w' => e = .returned (.bool (ratomB s fs m)) ∧ Below w.heap.size w w' := by
  have Hs := Lib.hid hs
  have Hf := Lib.hid hf
  have Hta := Lib.hid hta
  have Htb := Lib.hid htb
  obtain ⟨b, off, sB, tB, aB, kB, rfl, hl_d, i0, i1, d2, htyB, hnB, hcB⟩ := term_in hs hf htb hpb
  have p1 : (m.a.var == -1) = true := by simpa using hpa
  have p2 : (m.b.var == -1) = false := by simpa using hpb
  have q1 : decide ((0 : Int) ≤ m.a.var) = false := by rw [hpa]; rfl
  have q2 : decide ((0 : Int) ≤ m.b.var) = true := decide_eq_true i0
  have Hr := Lib.hid (show ratomB s fs m = (rpairOK s.units [tB] && [tB].all (ordOK m.op)) by rw [hr]; unfold atomTys; simp [term_no hpa, htyB])
  have HcB := Lib.hid hcB
  clear hs hf hr hta htb hpa hpb hcB hnB htyB
  go_enter Try.func65, Try.ntmps65
  go_wp2_with fail
  all_goals (try (exfalso; omega))
  generalize hw0 : World.alloc _ _ = w0
  obtain ⟨X0, X1, hsz, hb0⟩ := blk2 hw0
  replace d2 := cell_kept hb0 d2 hl_d
  have hw_d := hl_d
  replace hl_d := Nat.lt_of_lt_of_le hl_d hb0.size
  have x0 : w0.cell? ⟨w.heap.size, 0, none⟩ = some (.slice p.a0 s.issuers.length p.k0) := X0.cell 0
  have x1 : w0.cell? ⟨w.heap.size, 1, none⟩ = some (.slice p.a1 s.units.length p.k1) := X0.cell 1
  have x2 : w0.cell? ⟨w.heap.size, 2, none⟩ = some (.slice p.a2 s.schemas.length p.k2) := X0.cell 2
  have x3 : w0.cell? ⟨w.heap.size, 3, none⟩ = some (.slice p.a3 s.rules.length p.k3) := X0.cell 3
  have x4 : w0.cell? ⟨w.heap.size, 4, none⟩ = some (.slice p.a4 s.converts p.k4) := X0.cell 4
  have x5 : w0.cell? ⟨w.heap.size, 5, none⟩ = some (.slice p.a5 s.purposes.length p.k5) := X0.cell 5
  have hl_x : w.heap.size < w0.heap.size := by omega
  have y0 : w0.cell? ⟨w.heap.size + 1, 0, none⟩ = some (.int .i64 m.op) := X1.cell 0
  have y1 : w0.cell? ⟨w.heap.size + 1, 1, none⟩ = some (.string m.a.name) := X1.cell 1
  have y2 : w0.cell? ⟨w.heap.size + 1, 2, none⟩ = some (.string m.a.path) := X1.cell 2
  have y3 : w0.cell? ⟨w.heap.size + 1, 3, none⟩ = some (.int .i64 m.a.var) := X1.cell 3
  have y4 : w0.cell? ⟨w.heap.size + 1, 4, none⟩ = some (.int .i64 m.a.field) := X1.cell 4
  have y5 : w0.cell? ⟨w.heap.size + 1, 5, none⟩ = some (.int .i64 m.a.n) := X1.cell 5
  have y6 : w0.cell? ⟨w.heap.size + 1, 6, none⟩ = some (.string m.b.name) := X1.cell 6
  have y7 : w0.cell? ⟨w.heap.size + 1, 7, none⟩ = some (.string m.b.path) := X1.cell 7
  have y8 : w0.cell? ⟨w.heap.size + 1, 8, none⟩ = some (.int .i64 m.b.var) := X1.cell 8
  have y9 : w0.cell? ⟨w.heap.size + 1, 9, none⟩ = some (.int .i64 m.b.field) := X1.cell 9
  have y10 : w0.cell? ⟨w.heap.size + 1, 10, none⟩ = some (.int .i64 m.b.n) := X1.cell 10
  have hl_y : w.heap.size + 1 < w0.heap.size := by omega
  have hwl : w.heap.size ≤ w0.heap.size := hb0.size
  have Hb := Lib.hid hb0
  clear hw0 hb0 hsz X0 X1
  refine (rterm_any s p fs _ fk m.a _ (Hs.out.below Hb.out) (Hf.out.below RFromD.stab Hb.out)).mono ?_
  rintro e w1 ⟨rfl, hb1⟩
  rw [Hta.out]
  replace x0 := cell_kept hb1 x0 hl_x
  replace x1 := cell_kept hb1 x1 hl_x
  replace x2 := cell_kept hb1 x2 hl_x
  replace x3 := cell_kept hb1 x3 hl_x
  replace x4 := cell_kept hb1 x4 hl_x
  replace x5 := cell_kept hb1 x5 hl_x
  replace y0 := cell_kept hb1 y0 hl_y
  replace y1 := cell_kept hb1 y1 hl_y
  replace y2 := cell_kept hb1 y2 hl_y
  replace y3 := cell_kept hb1 y3 hl_y
  replace y4 := cell_kept hb1 y4 hl_y
  replace y5 := cell_kept hb1 y5 hl_y
  replace y6 := cell_kept hb1 y6 hl_y
  replace y7 := cell_kept hb1 y7 hl_y
  replace y8 := cell_kept hb1 y8 hl_y
  replace y9 := cell_kept hb1 y9 hl_y
  replace y10 := cell_kept hb1 y10 hl_y
  replace d2 := cell_kept hb1 d2 hl_d
  replace Hb := Lib.hid (Hb.out.trans (hb1.mono hwl))
  replace hl_x := Nat.lt_of_lt_of_le hl_x hb1.size
  replace hl_y := Nat.lt_of_lt_of_le hl_y hb1.size
  replace hl_d := Nat.lt_of_lt_of_le hl_d hb1.size
  replace hwl := Nat.le_trans hwl hb1.size
  clear hb1
  go_wp2_with fail
  refine (rterm_any s p fs _ fk m.b _ (Hs.out.below Hb.out) (Hf.out.below RFromD.stab Hb.out)).mono ?_
  rintro e w2 ⟨rfl, hb1⟩
  rw [Htb.out]
  replace x0 := cell_kept hb1 x0 hl_x
  replace x1 := cell_kept hb1 x1 hl_x
  replace x2 := cell_kept hb1 x2 hl_x
  replace x3 := cell_kept hb1 x3 hl_x
  replace x4 := cell_kept hb1 x4 hl_x
  replace x5 := cell_kept hb1 x5 hl_x
  replace y0 := cell_kept hb1 y0 hl_y
  replace y1 := cell_kept hb1 y1 hl_y
  replace y2 := cell_kept hb1 y2 hl_y
  replace y3 := cell_kept hb1 y3 hl_y
  replace y4 := cell_kept hb1 y4 hl_y
  replace y5 := cell_kept hb1 y5 hl_y
  replace y6 := cell_kept hb1 y6 hl_y
  replace y7 := cell_kept hb1 y7 hl_y
  replace y8 := cell_kept hb1 y8 hl_y
  replace y9 := cell_kept hb1 y9 hl_y
  replace y10 := cell_kept hb1 y10 hl_y
  replace d2 := cell_kept hb1 d2 hl_d
  replace Hb := Lib.hid (Hb.out.trans (hb1.mono hwl))
  replace hl_x := Nat.lt_of_lt_of_le hl_x hb1.size
  replace hl_y := Nat.lt_of_lt_of_le hl_y hb1.size
  replace hl_d := Nat.lt_of_lt_of_le hl_d hb1.size
  replace hwl := Nat.le_trans hwl hb1.size
  clear hb1
  go_wp2_with fail
  cases hoB : ordB tB with
  | false =>
    refine wp_region_grown (by kernel_rfl) (by kernel_rfl) ?_
    repeat (go_big_quiet_step (first | (go_at_call_of 39 (sB); exact calls_grown (HcB.out _ (Hb.out.trans ((grown_below _ _).mono hwl)))) | (go_at_call_of 78 (aB); exact calls_grown (ord_eq tB aB kB _ false hoB))))
    refine wpQuiet_nil ?_
    intro w3 hw0
    have hb1 : Below w2.heap.size w2 w3 := by obtain ⟨n, rfl⟩ := hw0; exact grown_below _ n
    clear hw0
    replace x0 := cell_kept hb1 x0 hl_x
    replace x1 := cell_kept hb1 x1 hl_x
    replace x2 := cell_kept hb1 x2 hl_x
    replace x3 := cell_kept hb1 x3 hl_x
    replace x4 := cell_kept hb1 x4 hl_x
    replace x5 := cell_kept hb1 x5 hl_x
    replace y0 := cell_kept hb1 y0 hl_y
    replace y1 := cell_kept hb1 y1 hl_y
    replace y2 := cell_kept hb1 y2 hl_y
    replace y3 := cell_kept hb1 y3 hl_y
    replace y4 := cell_kept hb1 y4 hl_y
    replace y5 := cell_kept hb1 y5 hl_y
    replace y6 := cell_kept hb1 y6 hl_y
    replace y7 := cell_kept hb1 y7 hl_y
    replace y8 := cell_kept hb1 y8 hl_y
    replace y9 := cell_kept hb1 y9 hl_y
    replace y10 := cell_kept hb1 y10 hl_y
    replace d2 := cell_kept hb1 d2 hl_d
    replace Hb := Lib.hid (Hb.out.trans (hb1.mono hwl))
    replace hl_x := Nat.lt_of_lt_of_le hl_x hb1.size
    replace hl_y := Nat.lt_of_lt_of_le hl_y hb1.size
    replace hl_d := Nat.lt_of_lt_of_le hl_d hb1.size
    replace hwl := Nat.le_trans hwl hb1.size
    clear hb1
    go_wp2
    go_ret
    exact ⟨ret_bool (by rw [Hr.out]; simp at o2 o3; simp [rpairOK, ordOK, *]), Hb.out⟩
  | true =>
    refine wp_region_grown (by kernel_rfl) (by kernel_rfl) ?_
    repeat (go_big_quiet_step (first | (go_at_call_of 39 (sB); exact calls_grown (HcB.out _ (Hb.out.trans ((grown_below _ _).mono hwl)))) | (go_at_call_of 78 (aB); exact calls_grown (ord_eq tB aB kB _ true hoB))))
    refine wpQuiet_nil ?_
    intro w3 hw0
    have hb1 : Below w2.heap.size w2 w3 := by obtain ⟨n, rfl⟩ := hw0; exact grown_below _ n
    clear hw0
    replace x0 := cell_kept hb1 x0 hl_x
    replace x1 := cell_kept hb1 x1 hl_x
    replace x2 := cell_kept hb1 x2 hl_x
    replace x3 := cell_kept hb1 x3 hl_x
    replace x4 := cell_kept hb1 x4 hl_x
    replace x5 := cell_kept hb1 x5 hl_x
    replace y0 := cell_kept hb1 y0 hl_y
    replace y1 := cell_kept hb1 y1 hl_y
    replace y2 := cell_kept hb1 y2 hl_y
    replace y3 := cell_kept hb1 y3 hl_y
    replace y4 := cell_kept hb1 y4 hl_y
    replace y5 := cell_kept hb1 y5 hl_y
    replace y6 := cell_kept hb1 y6 hl_y
    replace y7 := cell_kept hb1 y7 hl_y
    replace y8 := cell_kept hb1 y8 hl_y
    replace y9 := cell_kept hb1 y9 hl_y
    replace y10 := cell_kept hb1 y10 hl_y
    replace d2 := cell_kept hb1 d2 hl_d
    replace Hb := Lib.hid (Hb.out.trans (hb1.mono hwl))
    replace hl_x := Nat.lt_of_lt_of_le hl_x hb1.size
    replace hl_y := Nat.lt_of_lt_of_le hl_y hb1.size
    replace hl_d := Nat.lt_of_lt_of_le hl_d hb1.size
    replace hwl := Nat.le_trans hwl hb1.size
    clear hb1
    go_wp2_with fail
    refine wp_region_grown (by kernel_rfl) (by kernel_rfl) ?_
    repeat (go_big_quiet_step (fail))
    refine wpQuiet_nil ?_
    intro w9 hw0
    have hb1 : Below w3.heap.size w3 w9 := by obtain ⟨n, rfl⟩ := hw0; exact grown_below _ n
    clear hw0
    replace x0 := cell_kept hb1 x0 hl_x
    replace x1 := cell_kept hb1 x1 hl_x
    replace x2 := cell_kept hb1 x2 hl_x
    replace x3 := cell_kept hb1 x3 hl_x
    replace x4 := cell_kept hb1 x4 hl_x
    replace x5 := cell_kept hb1 x5 hl_x
    replace y0 := cell_kept hb1 y0 hl_y
    replace y1 := cell_kept hb1 y1 hl_y
    replace y2 := cell_kept hb1 y2 hl_y
    replace y3 := cell_kept hb1 y3 hl_y
    replace y4 := cell_kept hb1 y4 hl_y
    replace y5 := cell_kept hb1 y5 hl_y
    replace y6 := cell_kept hb1 y6 hl_y
    replace y7 := cell_kept hb1 y7 hl_y
    replace y8 := cell_kept hb1 y8 hl_y
    replace y9 := cell_kept hb1 y9 hl_y
    replace y10 := cell_kept hb1 y10 hl_y
    replace d2 := cell_kept hb1 d2 hl_d
    replace Hb := Lib.hid (Hb.out.trans (hb1.mono hwl))
    replace hl_x := Nat.lt_of_lt_of_le hl_x hb1.size
    replace hl_y := Nat.lt_of_lt_of_le hl_y hb1.size
    replace hl_d := Nat.lt_of_lt_of_le hl_d hb1.size
    replace hwl := Nat.le_trans hwl hb1.size
    clear hb1
    go_wp2
    go_ret
    exact ⟨ret_bool (by rw [Hr.out]; simp at o2 o3; simp [rpairOK, ordOK, *]), Hb.out⟩
  
set_option maxRecDepth 20000 in
set_option maxHeartbeats 4000000 in
theorem ratom_B0 (s : SourceD) (p : SrcAt) (fs : List FromD) (fa : Option Addr) (fk : Nat) (m : AtomD) (w : World) (hs : Src w s p) (hf : Sl 8 RFromD w fa fs) (hsh : Short s) (hgd : Good s)
    (hop1 : 1 ≤ m.op) (hop2 : m.op ≤ 4) (hta : rtermB s fs m.a = true) (htb : rtermB s fs m.b = true) (hpa : m.a.var = -1) (hpb : ¬ m.b.var = -1)
    (hr : ratomB s fs m = (rpairOK s.units (atomTys s fs m) && (atomTys s fs m).all (ordOK m.op))) (o2 : (m.op == 2) = false) (o3 : (m.op == 3) = false) :
    Calls Try.prog 65 #[s.val p, .slice fa fs.length fk, m.val] w fun e w' => e = .returned (.bool (ratomB s fs m)) ∧ Below w.heap.size w w' := by
  have Hs := Lib.hid hs
  have Hf := Lib.hid hf
  have Hta := Lib.hid hta
  have Htb := Lib.hid htb
  obtain ⟨b, off, sB, tB, aB, kB, rfl, hl_d, i0, i1, d2, htyB, hnB, hcB⟩ := term_in hs hf htb hpb
  have p1 : (m.a.var == -1) = true := by simpa using hpa
  have p2 : (m.b.var == -1) = false := by simpa using hpb
  have q1 : decide ((0 : Int) ≤ m.a.var) = false := by rw [hpa]; rfl
  have q2 : decide ((0 : Int) ≤ m.b.var) = true := decide_eq_true i0
  have Hr := Lib.hid (show ratomB s fs m = (rpairOK s.units [tB] && [tB].all (ordOK m.op)) by rw [hr]; unfold atomTys; simp [term_no hpa, htyB])
  have HcB := Lib.hid hcB
  clear hs hf hr hta htb hpa hpb hcB hnB htyB
  go_enter Try.func65, Try.ntmps65
  go_wp2_with fail
  all_goals (try (exfalso; omega))
  generalize hw0 : World.alloc _ _ = w0
  obtain ⟨X0, X1, hsz, hb0⟩ := blk2 hw0
  replace d2 := cell_kept hb0 d2 hl_d
  have hw_d := hl_d
  replace hl_d := Nat.lt_of_lt_of_le hl_d hb0.size
  have x0 : w0.cell? ⟨w.heap.size, 0, none⟩ = some (.slice p.a0 s.issuers.length p.k0) := X0.cell 0
  have x1 : w0.cell? ⟨w.heap.size, 1, none⟩ = some (.slice p.a1 s.units.length p.k1) := X0.cell 1
  have x2 : w0.cell? ⟨w.heap.size, 2, none⟩ = some (.slice p.a2 s.schemas.length p.k2) := X0.cell 2
  have x3 : w0.cell? ⟨w.heap.size, 3, none⟩ = some (.slice p.a3 s.rules.length p.k3) := X0.cell 3
  have x4 : w0.cell? ⟨w.heap.size, 4, none⟩ = some (.slice p.a4 s.converts p.k4) := X0.cell 4
  have x5 : w0.cell? ⟨w.heap.size, 5, none⟩ = some (.slice p.a5 s.purposes.length p.k5) := X0.cell 5
  have hl_x : w.heap.size < w0.heap.size := by omega
  have y0 : w0.cell? ⟨w.heap.size + 1, 0, none⟩ = some (.int .i64 m.op) := X1.cell 0
  have y1 : w0.cell? ⟨w.heap.size + 1, 1, none⟩ = some (.string m.a.name) := X1.cell 1
  have y2 : w0.cell? ⟨w.heap.size + 1, 2, none⟩ = some (.string m.a.path) := X1.cell 2
  have y3 : w0.cell? ⟨w.heap.size + 1, 3, none⟩ = some (.int .i64 m.a.var) := X1.cell 3
  have y4 : w0.cell? ⟨w.heap.size + 1, 4, none⟩ = some (.int .i64 m.a.field) := X1.cell 4
  have y5 : w0.cell? ⟨w.heap.size + 1, 5, none⟩ = some (.int .i64 m.a.n) := X1.cell 5
  have y6 : w0.cell? ⟨w.heap.size + 1, 6, none⟩ = some (.string m.b.name) := X1.cell 6
  have y7 : w0.cell? ⟨w.heap.size + 1, 7, none⟩ = some (.string m.b.path) := X1.cell 7
  have y8 : w0.cell? ⟨w.heap.size + 1, 8, none⟩ = some (.int .i64 m.b.var) := X1.cell 8
  have y9 : w0.cell? ⟨w.heap.size + 1, 9, none⟩ = some (.int .i64 m.b.field) := X1.cell 9
  have y10 : w0.cell? ⟨w.heap.size + 1, 10, none⟩ = some (.int .i64 m.b.n) := X1.cell 10
  have hl_y : w.heap.size + 1 < w0.heap.size := by omega
  have hwl : w.heap.size ≤ w0.heap.size := hb0.size
  have Hb := Lib.hid hb0
  clear hw0 hb0 hsz X0 X1
  refine (rterm_any s p fs _ fk m.a _ (Hs.out.below Hb.out) (Hf.out.below RFromD.stab Hb.out)).mono ?_
  rintro e w1 ⟨rfl, hb1⟩
  rw [Hta.out]
  replace x0 := cell_kept hb1 x0 hl_x
  replace x1 := cell_kept hb1 x1 hl_x
  replace x2 := cell_kept hb1 x2 hl_x
  replace x3 := cell_kept hb1 x3 hl_x
  replace x4 := cell_kept hb1 x4 hl_x
  replace x5 := cell_kept hb1 x5 hl_x
  replace y0 := cell_kept hb1 y0 hl_y
  replace y1 := cell_kept hb1 y1 hl_y
  replace y2 := cell_kept hb1 y2 hl_y
  replace y3 := cell_kept hb1 y3 hl_y
  replace y4 := cell_kept hb1 y4 hl_y
  replace y5 := cell_kept hb1 y5 hl_y
  replace y6 := cell_kept hb1 y6 hl_y
  replace y7 := cell_kept hb1 y7 hl_y
  replace y8 := cell_kept hb1 y8 hl_y
  replace y9 := cell_kept hb1 y9 hl_y
  replace y10 := cell_kept hb1 y10 hl_y
  replace d2 := cell_kept hb1 d2 hl_d
  replace Hb := Lib.hid (Hb.out.trans (hb1.mono hwl))
  replace hl_x := Nat.lt_of_lt_of_le hl_x hb1.size
  replace hl_y := Nat.lt_of_lt_of_le hl_y hb1.size
  replace hl_d := Nat.lt_of_lt_of_le hl_d hb1.size
  replace hwl := Nat.le_trans hwl hb1.size
  clear hb1
  go_wp2_with fail
  refine (rterm_any s p fs _ fk m.b _ (Hs.out.below Hb.out) (Hf.out.below RFromD.stab Hb.out)).mono ?_
  rintro e w2 ⟨rfl, hb1⟩
  rw [Htb.out]
  replace x0 := cell_kept hb1 x0 hl_x
  replace x1 := cell_kept hb1 x1 hl_x
  replace x2 := cell_kept hb1 x2 hl_x
  replace x3 := cell_kept hb1 x3 hl_x
  replace x4 := cell_kept hb1 x4 hl_x
  replace x5 := cell_kept hb1 x5 hl_x
  replace y0 := cell_kept hb1 y0 hl_y
  replace y1 := cell_kept hb1 y1 hl_y
  replace y2 := cell_kept hb1 y2 hl_y
  replace y3 := cell_kept hb1 y3 hl_y
  replace y4 := cell_kept hb1 y4 hl_y
  replace y5 := cell_kept hb1 y5 hl_y
  replace y6 := cell_kept hb1 y6 hl_y
  replace y7 := cell_kept hb1 y7 hl_y
  replace y8 := cell_kept hb1 y8 hl_y
  replace y9 := cell_kept hb1 y9 hl_y
  replace y10 := cell_kept hb1 y10 hl_y
  replace d2 := cell_kept hb1 d2 hl_d
  replace Hb := Lib.hid (Hb.out.trans (hb1.mono hwl))
  replace hl_x := Nat.lt_of_lt_of_le hl_x hb1.size
  replace hl_y := Nat.lt_of_lt_of_le hl_y hb1.size
  replace hl_d := Nat.lt_of_lt_of_le hl_d hb1.size
  replace hwl := Nat.le_trans hwl hb1.size
  clear hb1
  go_wp2_with fail
  refine wp_region_grown (by kernel_rfl) (by kernel_rfl) ?_
  repeat (go_big_quiet_step (fail))
  refine wpQuiet_nil ?_
  intro w3 hw0
  have hb1 : Below w2.heap.size w2 w3 := by obtain ⟨n, rfl⟩ := hw0; exact grown_below _ n
  clear hw0
  replace x0 := cell_kept hb1 x0 hl_x
  replace x1 := cell_kept hb1 x1 hl_x
  replace x2 := cell_kept hb1 x2 hl_x
  replace x3 := cell_kept hb1 x3 hl_x
  replace x4 := cell_kept hb1 x4 hl_x
  replace x5 := cell_kept hb1 x5 hl_x
  replace y0 := cell_kept hb1 y0 hl_y
  replace y1 := cell_kept hb1 y1 hl_y
  replace y2 := cell_kept hb1 y2 hl_y
  replace y3 := cell_kept hb1 y3 hl_y
  replace y4 := cell_kept hb1 y4 hl_y
  replace y5 := cell_kept hb1 y5 hl_y
  replace y6 := cell_kept hb1 y6 hl_y
  replace y7 := cell_kept hb1 y7 hl_y
  replace y8 := cell_kept hb1 y8 hl_y
  replace y9 := cell_kept hb1 y9 hl_y
  replace y10 := cell_kept hb1 y10 hl_y
  replace d2 := cell_kept hb1 d2 hl_d
  replace Hb := Lib.hid (Hb.out.trans (hb1.mono hwl))
  replace hl_x := Nat.lt_of_lt_of_le hl_x hb1.size
  replace hl_y := Nat.lt_of_lt_of_le hl_y hb1.size
  replace hl_d := Nat.lt_of_lt_of_le hl_d hb1.size
  replace hwl := Nat.le_trans hwl hb1.size
  clear hb1
  go_wp2_with fail
  refine wp_region_grown (by kernel_rfl) (by kernel_rfl) ?_
  repeat (go_big_quiet_step (fail))
  refine wpQuiet_nil ?_
  intro w9 hw0
  have hb1 : Below w3.heap.size w3 w9 := by obtain ⟨n, rfl⟩ := hw0; exact grown_below _ n
  clear hw0
  replace x0 := cell_kept hb1 x0 hl_x
  replace x1 := cell_kept hb1 x1 hl_x
  replace x2 := cell_kept hb1 x2 hl_x
  replace x3 := cell_kept hb1 x3 hl_x
  replace x4 := cell_kept hb1 x4 hl_x
  replace x5 := cell_kept hb1 x5 hl_x
  replace y0 := cell_kept hb1 y0 hl_y
  replace y1 := cell_kept hb1 y1 hl_y
  replace y2 := cell_kept hb1 y2 hl_y
  replace y3 := cell_kept hb1 y3 hl_y
  replace y4 := cell_kept hb1 y4 hl_y
  replace y5 := cell_kept hb1 y5 hl_y
  replace y6 := cell_kept hb1 y6 hl_y
  replace y7 := cell_kept hb1 y7 hl_y
  replace y8 := cell_kept hb1 y8 hl_y
  replace y9 := cell_kept hb1 y9 hl_y
  replace y10 := cell_kept hb1 y10 hl_y
  replace d2 := cell_kept hb1 d2 hl_d
  replace Hb := Lib.hid (Hb.out.trans (hb1.mono hwl))
  replace hl_x := Nat.lt_of_lt_of_le hl_x hb1.size
  replace hl_y := Nat.lt_of_lt_of_le hl_y hb1.size
  replace hl_d := Nat.lt_of_lt_of_le hl_d hb1.size
  replace hwl := Nat.le_trans hwl hb1.size
  clear hb1
  go_wp2
  go_ret
  exact ⟨ret_bool (by rw [Hr.out]; simp at o2 o3; simp [rpairOK, ordOK, *]), Hb.out⟩
  
end Go.Proofs.Ytogenjbabgibbaa
