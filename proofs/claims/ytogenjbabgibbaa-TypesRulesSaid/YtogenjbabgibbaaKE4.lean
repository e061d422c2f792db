import Derived.Test.YtogenjbabgibbaaKE5
namespace Go.Proofs.Ytogenjbabgibbaa
open Go.RowKit
/-- the example, block by block -/
structure Exs (w : World) (g0 gu gs gx gy gr g1 g2 g3 : Nat) (hi : Int) : Prop where
  b0 : Blk w g0 #[.string ⟨#[97]⟩] 9
  bu : Blk w gu #[.string ⟨#[99]⟩, .string ⟨#[]⟩, .int .i64 0, .int .i64 0, .int .i64 1, .string ⟨#[101]⟩, .string ⟨#[99]⟩, .int .i64 100, .int .i64 0, .int .i64 100] 69
  bs : Blk w gs #[.string ⟨#[120]⟩, .string ⟨#[]⟩, .int .i64 0, .int .i64 1, .slice (some ⟨gx, 0, none⟩) 2 2, .slice none 0 0, .string ⟨#[121]⟩, .string ⟨#[]⟩, .int .i64 0, .int .i64 1, .slice (some ⟨gy, 0, none⟩) 2 2, .slice none 0 0] 57
  bx : Blk w gx (selfC ++ numC 10) 74
  by' : Blk w gy (selfC ++ numC hi) 74
  br : Blk w gr #[.string ⟨#[]⟩, .int .i64 1, .slice (some ⟨g1, 0, none⟩) 1 1, .slice (some ⟨g2, 0, none⟩) 1 1, .slice (some ⟨g3, 0, none⟩) 1 1] 47
  b1 : Blk w g1 #[.string ⟨#[]⟩, .string ⟨#[]⟩, .int .i64 0, .string ⟨#[]⟩, .string ⟨#[]⟩, .int .i64 (-1), .int .i64 0, .int .i64 0] 53
  b2 : Blk w g2 #[.int .i64 2, .string ⟨#[]⟩, .string ⟨#[]⟩, .int .i64 (-1), .int .i64 0, .int .i64 5, .string ⟨#[]⟩, .string ⟨#[]⟩, .int .i64 0, .int .i64 1, .int .i64 0] 63
  b3 : Blk w g3 #[.string ⟨#[]⟩, .int .i64 1, .string ⟨#[]⟩, .string ⟨#[]⟩, .int .i64 0, .int .i64 1, .int .i64 0] 61
theorem Exs.src {w : World} {g0 gu gs gx gy gr g1 g2 g3 : Nat} {hi : Int} (h : Exs w g0 gu gs gx gy gr g1 g2 g3 hi) (hhi : (Lit.int .i64 hi).wf = true) : Src w (exD hi) (exAt g0 gu gs gr) :=
  src_of hhi h.b0 h.bu h.bs h.bx h.by' h.br h.b1 h.b2 h.b3
theorem Exs.below {w w' : World} {g0 gu gs gx gy gr g1 g2 g3 : Nat} {hi : Int} (h : Exs w g0 gu gs gx gy gr g1 g2 g3 hi) (hb : Below w.heap.size w w') : Exs w' g0 gu gs gx gy gr g1 g2 g3 hi :=
  ⟨h.b0.below hb h.b0.lt, h.bu.below hb h.bu.lt, h.bs.below hb h.bs.lt, h.bx.below hb h.bx.lt, h.by'.below hb h.by'.lt, h.br.below hb h.br.lt, h.b1.below hb h.b1.lt, h.b2.below hb h.b2.lt, h.b3.below hb h.b3.lt⟩
theorem example_at (w : World) : Calls Try.prog 22 #[] w fun e w' => (∃ g0 gu gs gx gy gr g1 g2 g3, e = .returned (.agg (exC g0 gu gs gr)) ∧ w.heap.size ≤ gy ∧ Exs w' g0 gu gs gx gy gr g1 g2 g3 20) ∧ Below w.heap.size w w' :=
  (example_any w).mono fun e w' ⟨⟨v, he, g1, g2, g3, _, _, _, hx, b1, b2, b3⟩, hb⟩ => by
    obtain ⟨_, _, _, _, rfl, ⟨g0, _, rfl, b0⟩, ⟨gu, _, rfl, bu⟩, ⟨_, _, ⟨gs, _, rfl, bs⟩, ⟨gx, _, rfl, bx⟩, ⟨gy, hy, rfl, by'⟩⟩, ⟨gr, _, rfl, br⟩⟩ := hx
    exact ⟨⟨g0, gu, gs, gx, gy, gr, g1, g2, g3, he, by omega, ⟨b0, bu, bs, bx, by', br, b1, b2, b3⟩⟩, hb⟩
/-- two blocks that hold different things are two -/
theorem Blk.ne {w : World} {b b' : Nat} {c c' : Array Value} {t t' : TypeId} (h : Blk w b c t) (h' : Blk w b' c' t') (hne : t ≠ t') : b ≠ b' := fun e => by
  subst e
  have := h.symm.trans h'
  simp only [Option.some.injEq, Obj.cells.injEq] at this
  exact hne this.2.1
theorem Blk.ne' {w : World} {b b' : Nat} {c c' : Array Value} {t t' : TypeId} (h : Blk w b c t) (h' : Blk w b' c' t') (i : Nat) (hne : c[i]? ≠ c'[i]?) : b ≠ b' := fun e => by
  subst e
  have := h.symm.trans h'
  simp only [Option.some.injEq, Obj.cells.injEq] at this
  exact hne (by rw [this.1])
/-- t.Schemas[1].Fields[1].Type.Hi = 9 -/
theorem Exs.set {w : World} {g0 gu gs gx gy gr g1 g2 g3 : Nat} (h : Exs w g0 gu gs gx gy gr g1 g2 g3 20) : Exs (w.setCell ⟨gy, 14, none⟩ (.int .i64 9)) g0 gu gs gx gy gr g1 g2 g3 9 :=
  ⟨h.b0.keep (h.b0.ne h.by' (by decide)) _, h.bu.keep (h.bu.ne h.by' (by decide)) _, h.bs.keep (h.bs.ne h.by' (by decide)) _, h.bx.keep (h.bx.ne' h.by' 14 (by simp)) _, h.by'.set 14 _, h.br.keep (h.br.ne h.by' (by decide)) _, h.b1.keep (h.b1.ne h.by' (by decide)) _, h.b2.keep (h.b2.ne h.by' (by decide)) _, h.b3.keep (h.b3.ne h.by' (by decide)) _⟩
theorem Exs.kept {w : World} {g0 gu gs gx gy gr g1 g2 g3 : Nat} {hi : Int} (h : Exs w g0 gu gs gx gy gr g1 g2 g3 hi) {B : Nat} {w' : World} (hb : Below B w w') (hB : g0 < B ∧ gu < B ∧ gs < B ∧ gx < B ∧ gy < B ∧ gr < B ∧ g1 < B ∧ g2 < B ∧ g3 < B) : Exs w' g0 gu gs gx gy gr g1 g2 g3 hi :=
  ⟨h.b0.below hb hB.1, h.bu.below hb hB.2.1, h.bs.below hb hB.2.2.1, h.bx.below hb hB.2.2.2.1, h.by'.below hb hB.2.2.2.2.1, h.br.below hb hB.2.2.2.2.2.1, h.b1.below hb hB.2.2.2.2.2.2.1, h.b2.below hb hB.2.2.2.2.2.2.2.1, h.b3.below hb hB.2.2.2.2.2.2.2.2⟩
theorem Exs.lts {w : World} {g0 gu gs gx gy gr g1 g2 g3 : Nat} {hi : Int} (h : Exs w g0 gu gs gx gy gr g1 g2 g3 hi) : g0 < w.heap.size ∧ gu < w.heap.size ∧ gs < w.heap.size ∧ gx < w.heap.size ∧ gy < w.heap.size ∧ gr < w.heap.size ∧ g1 < w.heap.size ∧ g2 < w.heap.size ∧ g3 < w.heap.size :=
  ⟨h.b0.lt, h.bu.lt, h.bs.lt, h.bx.lt, h.by'.lt, h.br.lt, h.b1.lt, h.b2.lt, h.b3.lt⟩
set_option maxRecDepth 20000 in
set_option maxHeartbeats 8000000 in
theorem sane_any (w : World) : Calls Try.prog 9 #[] w fun e w' => e = .returned (.bool true) ∧ Below w.heap.size w w' := by
  have hm1 := mk1
  have hm17 := mk17
  go_enter Try.func9, Try.ntmps9
  go_wp2_with fail
  refine (example_at _).mono ?_
  rintro e w1 ⟨⟨g0, gu, gs, gx, gy, gr, g1, g2, g3, rfl, -, hS⟩, hb1⟩
  have HSl := Lib.hid hS.lts
  have HS := Lib.hid hS
  have Hb := Lib.hid hb1
  have hwl := hb1.size
  have hw1 := hb1.size
  clear hS hb1
  go_wp2_with fail
  refine (example_at _).mono ?_
  rintro e w2 ⟨⟨t0, tu, ts, tx, ty, tr, t1, t2, t3, rfl, hty, hT⟩, hb1⟩
  replace HS := Lib.hid (HS.out.below hb1)
  replace Hb := Lib.hid (Hb.out.trans (hb1.mono hwl))
  have zs := hT.bs.cell 10
  have zy := hT.by'.cell 14
  have fy := hT.by'.frozen 14
  have hl1 := hT.bs.lt
  have hl2 := hT.by'.lt
  simp at zs zy
  have HT := Lib.hid hT
  replace hwl := Nat.le_trans hwl hb1.size
  clear hT hb1
  go_wp2_with fail
  have hsc : (w2.setCell ⟨ty, 14, none⟩ (.int .i64 9)).heap.size = w2.heap.size := by simp
  replace HS := Lib.hid (HS.out.kept (show Below w1.heap.size w2 (w2.setCell ⟨ty, 14, none⟩ (.int .i64 9)) from (Below.refl _ _).setCell hty _) HSl.out)
  replace HT := Lib.hid HT.out.set
  replace Hb := Lib.hid (Hb.out.trans (show Below w.heap.size w2 (w2.setCell ⟨ty, 14, none⟩ (.int .i64 9)) from (Below.refl _ _).setCell (by simp; omega) _))
  clear zs zy fy hl1 hl2 HSl
  generalize w2.setCell ⟨ty, 14, none⟩ (.int .i64 9) = wc at *
  generalize hw0 : World.alloc _ _ = w3
  obtain ⟨X0, X1, X2, X3, X4, hsz, hb1⟩ := blk5 hw0
  rw [hsc] at X0 X1 X2 X3 X4 hsz
  have x0 : w3.cell? ⟨w2.heap.size, 0, none⟩ = some (.slice (some ⟨g0, 0, none⟩) 1 1) := X0.cell 0
  have x1 : w3.cell? ⟨w2.heap.size, 1, none⟩ = some (.slice (some ⟨gu, 0, none⟩) 2 2) := X0.cell 1
  have x2 : w3.cell? ⟨w2.heap.size, 2, none⟩ = some (.slice (some ⟨gs, 0, none⟩) 2 2) := X0.cell 2
  have x3 : w3.cell? ⟨w2.heap.size, 3, none⟩ = some (.slice (some ⟨gr, 0, none⟩) 1 1) := X0.cell 3
  have x4 : w3.cell? ⟨w2.heap.size, 4, none⟩ = some (.slice none 0 0) := X0.cell 4
  have x5 : w3.cell? ⟨w2.heap.size, 5, none⟩ = some (.slice none 0 0) := X0.cell 5
  have y0 : w3.cell? ⟨w2.heap.size + 1, 0, none⟩ = some (.slice (some ⟨t0, 0, none⟩) 1 1) := X1.cell 0
  have y1 : w3.cell? ⟨w2.heap.size + 1, 1, none⟩ = some (.slice (some ⟨tu, 0, none⟩) 2 2) := X1.cell 1
  have y2 : w3.cell? ⟨w2.heap.size + 1, 2, none⟩ = some (.slice (some ⟨ts, 0, none⟩) 2 2) := X1.cell 2
  have y3 : w3.cell? ⟨w2.heap.size + 1, 3, none⟩ = some (.slice (some ⟨tr, 0, none⟩) 1 1) := X1.cell 3
  have y4 : w3.cell? ⟨w2.heap.size + 1, 4, none⟩ = some (.slice none 0 0) := X1.cell 4
  have y5 : w3.cell? ⟨w2.heap.size + 1, 5, none⟩ = some (.slice none 0 0) := X1.cell 5
  have p0 : w3.cell? ⟨w2.heap.size + 1 + 1, 0, none⟩ = some (.string ⟨#[]⟩) := X2.cell 0
  have p1 : w3.cell? ⟨w2.heap.size + 1 + 1, 1, none⟩ = some (.string ⟨#[]⟩) := X2.cell 1
  have p2 : w3.cell? ⟨w2.heap.size + 1 + 1, 2, none⟩ = some (.int .i64 0) := X2.cell 2
  have p3 : w3.cell? ⟨w2.heap.size + 1 + 1, 3, none⟩ = some (.int .i64 1) := X2.cell 3
  have q0 : w3.cell? ⟨w2.heap.size + 1 + 1 + 1, 0, none⟩ = some (.string ⟨#[]⟩) := X3.cell 0
  have q1 : w3.cell? ⟨w2.heap.size + 1 + 1 + 1, 1, none⟩ = some (.string ⟨#[]⟩) := X3.cell 1
  have q2 : w3.cell? ⟨w2.heap.size + 1 + 1 + 1, 2, none⟩ = some (.int .i64 1) := X3.cell 2
  have q3 : w3.cell? ⟨w2.heap.size + 1 + 1 + 1, 3, none⟩ = some (.int .i64 1) := X3.cell 3
  have r0 : w3.cell? ⟨w2.heap.size + 1 + 1 + 1 + 1, 0, none⟩ = some (.string ⟨#[]⟩) := X4.cell 0
  have r1 : w3.cell? ⟨w2.heap.size + 1 + 1 + 1 + 1, 1, none⟩ = some (.string ⟨#[]⟩) := X4.cell 1
  have r2 : w3.cell? ⟨w2.heap.size + 1 + 1 + 1 + 1, 2, none⟩ = some (.int .i64 2) := X4.cell 2
  have r3 : w3.cell? ⟨w2.heap.size + 1 + 1 + 1 + 1, 3, none⟩ = some (.int .i64 0) := X4.cell 3
  have hl_x : w2.heap.size < w3.heap.size := by omega
  have hl_y : w2.heap.size + 1 < w3.heap.size := by omega
  have hl_p : w2.heap.size + 1 + 1 < w3.heap.size := by omega
  have hl_q : w2.heap.size + 1 + 1 + 1 < w3.heap.size := by omega
  have hl_r : w2.heap.size + 1 + 1 + 1 + 1 < w3.heap.size := by omega
  replace HS := Lib.hid (HS.out.below hb1)
  replace HT := Lib.hid (HT.out.below hb1)
  rw [← hsc] at hwl
  replace Hb := Lib.hid (Hb.out.trans (hb1.mono hwl))
  replace hwl := Nat.le_trans hwl hb1.size
  clear hw0 X0 X1 X2 X3 X4 hsz hb1 hsc hty
  refine (base_ex (HS.out.src (by decide)) 0 1 3 f_b0).mono ?_
  rintro e w4 ⟨rfl, hb1⟩
  replace x0 := cell_kept hb1 x0 hl_x
  replace x1 := cell_kept hb1 x1 hl_x
  replace x2 := cell_kept hb1 x2 hl_x
  replace x3 := cell_kept hb1 x3 hl_x
  replace x4 := cell_kept hb1 x4 hl_x
  replace x5 := cell_kept hb1 x5 hl_x
  replace y0 := cell_kept hb1 y0 hl_y
  replace y1 := cell_kept hb1 y1 hl_y
  replace y2 := cell_kept hb1 y2 hl_y
  replace y3 := cell_kept hb1 y3 hl_y
  replace y4 := cell_kept hb1 y4 hl_y
  replace y5 := cell_kept hb1 y5 hl_y
  replace p0 := cell_kept hb1 p0 hl_p
  replace p1 := cell_kept hb1 p1 hl_p
  replace p2 := cell_kept hb1 p2 hl_p
  replace p3 := cell_kept hb1 p3 hl_p
  replace q0 := cell_kept hb1 q0 hl_q
  replace q1 := cell_kept hb1 q1 hl_q
  replace q2 := cell_kept hb1 q2 hl_q
  replace q3 := cell_kept hb1 q3 hl_q
  replace r0 := cell_kept hb1 r0 hl_r
  replace r1 := cell_kept hb1 r1 hl_r
  replace r2 := cell_kept hb1 r2 hl_r
  replace r3 := cell_kept hb1 r3 hl_r
  replace Hb := Lib.hid (Hb.out.trans (hb1.mono hwl))
  replace hl_x := Nat.lt_of_lt_of_le hl_x hb1.size
  replace hl_y := Nat.lt_of_lt_of_le hl_y hb1.size
  replace hl_p := Nat.lt_of_lt_of_le hl_p hb1.size
  replace hl_q := Nat.lt_of_lt_of_le hl_q hb1.size
  replace hl_r := Nat.lt_of_lt_of_le hl_r hb1.size
  replace hwl := Nat.le_trans hwl hb1.size
  replace HS := Lib.hid (HS.out.below hb1)
  replace HT := Lib.hid (HT.out.below hb1)
  clear hb1
  go_wp2_with fail

  refine (base_ex (HS.out.src (by decide)) 0 0 3 f_b1).mono ?_
  rintro e w5 ⟨rfl, hb1⟩
  replace x0 := cell_kept hb1 x0 hl_x
  replace x1 := cell_kept hb1 x1 hl_x
  replace x2 := cell_kept hb1 x2 hl_x
  replace x3 := cell_kept hb1 x3 hl_x
  replace x4 := cell_kept hb1 x4 hl_x
  replace x5 := cell_kept hb1 x5 hl_x
  replace y0 := cell_kept hb1 y0 hl_y
  replace y1 := cell_kept hb1 y1 hl_y
  replace y2 := cell_kept hb1 y2 hl_y
  replace y3 := cell_kept hb1 y3 hl_y
  replace y4 := cell_kept hb1 y4 hl_y
  replace y5 := cell_kept hb1 y5 hl_y
  replace p0 := cell_kept hb1 p0 hl_p
  replace p1 := cell_kept hb1 p1 hl_p
  replace p2 := cell_kept hb1 p2 hl_p
  replace p3 := cell_kept hb1 p3 hl_p
  replace q0 := cell_kept hb1 q0 hl_q
  replace q1 := cell_kept hb1 q1 hl_q
  replace q2 := cell_kept hb1 q2 hl_q
  replace q3 := cell_kept hb1 q3 hl_q
  replace r0 := cell_kept hb1 r0 hl_r
  replace r1 := cell_kept hb1 r1 hl_r
  replace r2 := cell_kept hb1 r2 hl_r
  replace r3 := cell_kept hb1 r3 hl_r
  replace Hb := Lib.hid (Hb.out.trans (hb1.mono hwl))
  replace hl_x := Nat.lt_of_lt_of_le hl_x hb1.size
  replace hl_y := Nat.lt_of_lt_of_le hl_y hb1.size
  replace hl_p := Nat.lt_of_lt_of_le hl_p hb1.size
  replace hl_q := Nat.lt_of_lt_of_le hl_q hb1.size
  replace hl_r := Nat.lt_of_lt_of_le hl_r hb1.size
  replace hwl := Nat.le_trans hwl hb1.size
  replace HS := Lib.hid (HS.out.below hb1)
  replace HT := Lib.hid (HT.out.below hb1)
  clear hb1
  go_wp2_with fail

  refine (base_ex (HS.out.src (by decide)) 2 0 1 f_b2).mono ?_
  rintro e w6 ⟨rfl, hb1⟩
  replace x0 := cell_kept hb1 x0 hl_x
  replace x1 := cell_kept hb1 x1 hl_x
  replace x2 := cell_kept hb1 x2 hl_x
  replace x3 := cell_kept hb1 x3 hl_x
  replace x4 := cell_kept hb1 x4 hl_x
  replace x5 := cell_kept hb1 x5 hl_x
  replace y0 := cell_kept hb1 y0 hl_y
  replace y1 := cell_kept hb1 y1 hl_y
  replace y2 := cell_kept hb1 y2 hl_y
  replace y3 := cell_kept hb1 y3 hl_y
  replace y4 := cell_kept hb1 y4 hl_y
  replace y5 := cell_kept hb1 y5 hl_y
  replace p0 := cell_kept hb1 p0 hl_p
  replace p1 := cell_kept hb1 p1 hl_p
  replace p2 := cell_kept hb1 p2 hl_p
  replace p3 := cell_kept hb1 p3 hl_p
  replace q0 := cell_kept hb1 q0 hl_q
  replace q1 := cell_kept hb1 q1 hl_q
  replace q2 := cell_kept hb1 q2 hl_q
  replace q3 := cell_kept hb1 q3 hl_q
  replace r0 := cell_kept hb1 r0 hl_r
  replace r1 := cell_kept hb1 r1 hl_r
  replace r2 := cell_kept hb1 r2 hl_r
  replace r3 := cell_kept hb1 r3 hl_r
  replace Hb := Lib.hid (Hb.out.trans (hb1.mono hwl))
  replace hl_x := Nat.lt_of_lt_of_le hl_x hb1.size
  replace hl_y := Nat.lt_of_lt_of_le hl_y hb1.size
  replace hl_p := Nat.lt_of_lt_of_le hl_p hb1.size
  replace hl_q := Nat.lt_of_lt_of_le hl_q hb1.size
  replace hl_r := Nat.lt_of_lt_of_le hl_r hb1.size
  replace hwl := Nat.le_trans hwl hb1.size
  replace HS := Lib.hid (HS.out.below hb1)
  replace HT := Lib.hid (HT.out.below hb1)
  clear hb1
  go_wp2_with fail

  refine (check_z (n := 0) rfl Sl.nil few_z0 f_c0).mono ?_
  rintro e w7 ⟨rfl, hb1⟩
  replace x0 := cell_kept hb1 x0 hl_x
  replace x1 := cell_kept hb1 x1 hl_x
  replace x2 := cell_kept hb1 x2 hl_x
  replace x3 := cell_kept hb1 x3 hl_x
  replace x4 := cell_kept hb1 x4 hl_x
  replace x5 := cell_kept hb1 x5 hl_x
  replace y0 := cell_kept hb1 y0 hl_y
  replace y1 := cell_kept hb1 y1 hl_y
  replace y2 := cell_kept hb1 y2 hl_y
  replace y3 := cell_kept hb1 y3 hl_y
  replace y4 := cell_kept hb1 y4 hl_y
  replace y5 := cell_kept hb1 y5 hl_y
  replace p0 := cell_kept hb1 p0 hl_p
  replace p1 := cell_kept hb1 p1 hl_p
  replace p2 := cell_kept hb1 p2 hl_p
  replace p3 := cell_kept hb1 p3 hl_p
  replace q0 := cell_kept hb1 q0 hl_q
  replace q1 := cell_kept hb1 q1 hl_q
  replace q2 := cell_kept hb1 q2 hl_q
  replace q3 := cell_kept hb1 q3 hl_q
  replace r0 := cell_kept hb1 r0 hl_r
  replace r1 := cell_kept hb1 r1 hl_r
  replace r2 := cell_kept hb1 r2 hl_r
  replace r3 := cell_kept hb1 r3 hl_r
  replace Hb := Lib.hid (Hb.out.trans (hb1.mono hwl))
  replace hl_x := Nat.lt_of_lt_of_le hl_x hb1.size
  replace hl_y := Nat.lt_of_lt_of_le hl_y hb1.size
  replace hl_p := Nat.lt_of_lt_of_le hl_p hb1.size
  replace hl_q := Nat.lt_of_lt_of_le hl_q hb1.size
  replace hl_r := Nat.lt_of_lt_of_le hl_r hb1.size
  replace hwl := Nat.le_trans hwl hb1.size
  replace HS := Lib.hid (HS.out.below hb1)
  replace HT := Lib.hid (HT.out.below hb1)
  clear hb1
  go_wp2_with fail

  refine (check_ex (HS.out.src (by decide)) f_c1).mono ?_
  rintro e w8 ⟨rfl, hb1⟩
  replace x0 := cell_kept hb1 x0 hl_x
  replace x1 := cell_kept hb1 x1 hl_x
  replace x2 := cell_kept hb1 x2 hl_x
  replace x3 := cell_kept hb1 x3 hl_x
  replace x4 := cell_kept hb1 x4 hl_x
  replace x5 := cell_kept hb1 x5 hl_x
  replace y0 := cell_kept hb1 y0 hl_y
  replace y1 := cell_kept hb1 y1 hl_y
  replace y2 := cell_kept hb1 y2 hl_y
  replace y3 := cell_kept hb1 y3 hl_y
  replace y4 := cell_kept hb1 y4 hl_y
  replace y5 := cell_kept hb1 y5 hl_y
  replace p0 := cell_kept hb1 p0 hl_p
  replace p1 := cell_kept hb1 p1 hl_p
  replace p2 := cell_kept hb1 p2 hl_p
  replace p3 := cell_kept hb1 p3 hl_p
  replace q0 := cell_kept hb1 q0 hl_q
  replace q1 := cell_kept hb1 q1 hl_q
  replace q2 := cell_kept hb1 q2 hl_q
  replace q3 := cell_kept hb1 q3 hl_q
  replace r0 := cell_kept hb1 r0 hl_r
  replace r1 := cell_kept hb1 r1 hl_r
  replace r2 := cell_kept hb1 r2 hl_r
  replace r3 := cell_kept hb1 r3 hl_r
  replace Hb := Lib.hid (Hb.out.trans (hb1.mono hwl))
  replace hl_x := Nat.lt_of_lt_of_le hl_x hb1.size
  replace hl_y := Nat.lt_of_lt_of_le hl_y hb1.size
  replace hl_p := Nat.lt_of_lt_of_le hl_p hb1.size
  replace hl_q := Nat.lt_of_lt_of_le hl_q hb1.size
  replace hl_r := Nat.lt_of_lt_of_le hl_r hb1.size
  replace hwl := Nat.le_trans hwl hb1.size
  replace HS := Lib.hid (HS.out.below hb1)
  replace HT := Lib.hid (HT.out.below hb1)
  clear hb1
  go_wp2_with fail

  refine (check_ex (HT.out.src (by decide)) f_c2).mono ?_
  rintro e w9 ⟨rfl, hb1⟩
  replace x0 := cell_kept hb1 x0 hl_x
  replace x1 := cell_kept hb1 x1 hl_x
  replace x2 := cell_kept hb1 x2 hl_x
  replace x3 := cell_kept hb1 x3 hl_x
  replace x4 := cell_kept hb1 x4 hl_x
  replace x5 := cell_kept hb1 x5 hl_x
  replace y0 := cell_kept hb1 y0 hl_y
  replace y1 := cell_kept hb1 y1 hl_y
  replace y2 := cell_kept hb1 y2 hl_y
  replace y3 := cell_kept hb1 y3 hl_y
  replace y4 := cell_kept hb1 y4 hl_y
  replace y5 := cell_kept hb1 y5 hl_y
  replace p0 := cell_kept hb1 p0 hl_p
  replace p1 := cell_kept hb1 p1 hl_p
  replace p2 := cell_kept hb1 p2 hl_p
  replace p3 := cell_kept hb1 p3 hl_p
  replace q0 := cell_kept hb1 q0 hl_q
  replace q1 := cell_kept hb1 q1 hl_q
  replace q2 := cell_kept hb1 q2 hl_q
  replace q3 := cell_kept hb1 q3 hl_q
  replace r0 := cell_kept hb1 r0 hl_r
  replace r1 := cell_kept hb1 r1 hl_r
  replace r2 := cell_kept hb1 r2 hl_r
  replace r3 := cell_kept hb1 r3 hl_r
  replace Hb := Lib.hid (Hb.out.trans (hb1.mono hwl))
  replace hl_x := Nat.lt_of_lt_of_le hl_x hb1.size
  replace hl_y := Nat.lt_of_lt_of_le hl_y hb1.size
  replace hl_p := Nat.lt_of_lt_of_le hl_p hb1.size
  replace hl_q := Nat.lt_of_lt_of_le hl_q hb1.size
  replace hl_r := Nat.lt_of_lt_of_le hl_r hb1.size
  replace hwl := Nat.le_trans hwl hb1.size
  replace HS := Lib.hid (HS.out.below hb1)
  replace HT := Lib.hid (HT.out.below hb1)
  clear hb1
  go_wp2_with fail

  generalize hw0 : World.alloc _ _ = wa1
  obtain ⟨X0, hsz, hb1⟩ := blk1 hw0
  clear hw0 hsz
  replace x0 := cell_kept hb1 x0 hl_x
  replace x1 := cell_kept hb1 x1 hl_x
  replace x2 := cell_kept hb1 x2 hl_x
  replace x3 := cell_kept hb1 x3 hl_x
  replace x4 := cell_kept hb1 x4 hl_x
  replace x5 := cell_kept hb1 x5 hl_x
  replace y0 := cell_kept hb1 y0 hl_y
  replace y1 := cell_kept hb1 y1 hl_y
  replace y2 := cell_kept hb1 y2 hl_y
  replace y3 := cell_kept hb1 y3 hl_y
  replace y4 := cell_kept hb1 y4 hl_y
  replace y5 := cell_kept hb1 y5 hl_y
  replace p0 := cell_kept hb1 p0 hl_p
  replace p1 := cell_kept hb1 p1 hl_p
  replace p2 := cell_kept hb1 p2 hl_p
  replace p3 := cell_kept hb1 p3 hl_p
  replace q0 := cell_kept hb1 q0 hl_q
  replace q1 := cell_kept hb1 q1 hl_q
  replace q2 := cell_kept hb1 q2 hl_q
  replace q3 := cell_kept hb1 q3 hl_q
  replace r0 := cell_kept hb1 r0 hl_r
  replace r1 := cell_kept hb1 r1 hl_r
  replace r2 := cell_kept hb1 r2 hl_r
  replace r3 := cell_kept hb1 r3 hl_r
  replace Hb := Lib.hid (Hb.out.trans (hb1.mono hwl))
  replace hl_x := Nat.lt_of_lt_of_le hl_x hb1.size
  replace hl_y := Nat.lt_of_lt_of_le hl_y hb1.size
  replace hl_p := Nat.lt_of_lt_of_le hl_p hb1.size
  replace hl_q := Nat.lt_of_lt_of_le hl_q hb1.size
  replace hl_r := Nat.lt_of_lt_of_le hl_r hb1.size
  replace hwl := Nat.le_trans hwl hb1.size
  replace HS := Lib.hid (HS.out.below hb1)
  replace HT := Lib.hid (HT.out.below hb1)
  clear hb1
  refine (check_z rfl (zs1 X0) few_z1 f_c3).mono ?_
  clear X0
  rintro e w10 ⟨rfl, hb1⟩
  replace x0 := cell_kept hb1 x0 hl_x
  replace x1 := cell_kept hb1 x1 hl_x
  replace x2 := cell_kept hb1 x2 hl_x
  replace x3 := cell_kept hb1 x3 hl_x
  replace x4 := cell_kept hb1 x4 hl_x
  replace x5 := cell_kept hb1 x5 hl_x
  replace y0 := cell_kept hb1 y0 hl_y
  replace y1 := cell_kept hb1 y1 hl_y
  replace y2 := cell_kept hb1 y2 hl_y
  replace y3 := cell_kept hb1 y3 hl_y
  replace y4 := cell_kept hb1 y4 hl_y
  replace y5 := cell_kept hb1 y5 hl_y
  replace p0 := cell_kept hb1 p0 hl_p
  replace p1 := cell_kept hb1 p1 hl_p
  replace p2 := cell_kept hb1 p2 hl_p
  replace p3 := cell_kept hb1 p3 hl_p
  replace q0 := cell_kept hb1 q0 hl_q
  replace q1 := cell_kept hb1 q1 hl_q
  replace q2 := cell_kept hb1 q2 hl_q
  replace q3 := cell_kept hb1 q3 hl_q
  replace r0 := cell_kept hb1 r0 hl_r
  replace r1 := cell_kept hb1 r1 hl_r
  replace r2 := cell_kept hb1 r2 hl_r
  replace r3 := cell_kept hb1 r3 hl_r
  replace Hb := Lib.hid (Hb.out.trans (hb1.mono hwl))
  replace hl_x := Nat.lt_of_lt_of_le hl_x hb1.size
  replace hl_y := Nat.lt_of_lt_of_le hl_y hb1.size
  replace hl_p := Nat.lt_of_lt_of_le hl_p hb1.size
  replace hl_q := Nat.lt_of_lt_of_le hl_q hb1.size
  replace hl_r := Nat.lt_of_lt_of_le hl_r hb1.size
  replace hwl := Nat.le_trans hwl hb1.size
  replace HS := Lib.hid (HS.out.below hb1)
  replace HT := Lib.hid (HT.out.below hb1)
  clear hb1
  go_wp2_with fail

  generalize hw0 : World.alloc _ _ = wa2
  obtain ⟨X0, hsz, hb1⟩ := blk1 hw0
  clear hw0 hsz
  replace x0 := cell_kept hb1 x0 hl_x
  replace x1 := cell_kept hb1 x1 hl_x
  replace x2 := cell_kept hb1 x2 hl_x
  replace x3 := cell_kept hb1 x3 hl_x
  replace x4 := cell_kept hb1 x4 hl_x
  replace x5 := cell_kept hb1 x5 hl_x
  replace y0 := cell_kept hb1 y0 hl_y
  replace y1 := cell_kept hb1 y1 hl_y
  replace y2 := cell_kept hb1 y2 hl_y
  replace y3 := cell_kept hb1 y3 hl_y
  replace y4 := cell_kept hb1 y4 hl_y
  replace y5 := cell_kept hb1 y5 hl_y
  replace p0 := cell_kept hb1 p0 hl_p
  replace p1 := cell_kept hb1 p1 hl_p
  replace p2 := cell_kept hb1 p2 hl_p
  replace p3 := cell_kept hb1 p3 hl_p
  replace q0 := cell_kept hb1 q0 hl_q
  replace q1 := cell_kept hb1 q1 hl_q
  replace q2 := cell_kept hb1 q2 hl_q
  replace q3 := cell_kept hb1 q3 hl_q
  replace r0 := cell_kept hb1 r0 hl_r
  replace r1 := cell_kept hb1 r1 hl_r
  replace r2 := cell_kept hb1 r2 hl_r
  replace r3 := cell_kept hb1 r3 hl_r
  replace Hb := Lib.hid (Hb.out.trans (hb1.mono hwl))
  replace hl_x := Nat.lt_of_lt_of_le hl_x hb1.size
  replace hl_y := Nat.lt_of_lt_of_le hl_y hb1.size
  replace hl_p := Nat.lt_of_lt_of_le hl_p hb1.size
  replace hl_q := Nat.lt_of_lt_of_le hl_q hb1.size
  replace hl_r := Nat.lt_of_lt_of_le hl_r hb1.size
  replace hwl := Nat.le_trans hwl hb1.size
  replace HS := Lib.hid (HS.out.below hb1)
  replace HT := Lib.hid (HT.out.below hb1)
  clear hb1
  refine (check_z rfl (zs17 X0) few_z17 f_c4).mono ?_
  clear X0
  rintro e w11 ⟨rfl, hb1⟩
  replace x0 := cell_kept hb1 x0 hl_x
  replace x1 := cell_kept hb1 x1 hl_x
  replace x2 := cell_kept hb1 x2 hl_x
  replace x3 := cell_kept hb1 x3 hl_x
  replace x4 := cell_kept hb1 x4 hl_x
  replace x5 := cell_kept hb1 x5 hl_x
  replace y0 := cell_kept hb1 y0 hl_y
  replace y1 := cell_kept hb1 y1 hl_y
  replace y2 := cell_kept hb1 y2 hl_y
  replace y3 := cell_kept hb1 y3 hl_y
  replace y4 := cell_kept hb1 y4 hl_y
  replace y5 := cell_kept hb1 y5 hl_y
  replace p0 := cell_kept hb1 p0 hl_p
  replace p1 := cell_kept hb1 p1 hl_p
  replace p2 := cell_kept hb1 p2 hl_p
  replace p3 := cell_kept hb1 p3 hl_p
  replace q0 := cell_kept hb1 q0 hl_q
  replace q1 := cell_kept hb1 q1 hl_q
  replace q2 := cell_kept hb1 q2 hl_q
  replace q3 := cell_kept hb1 q3 hl_q
  replace r0 := cell_kept hb1 r0 hl_r
  replace r1 := cell_kept hb1 r1 hl_r
  replace r2 := cell_kept hb1 r2 hl_r
  replace r3 := cell_kept hb1 r3 hl_r
  replace Hb := Lib.hid (Hb.out.trans (hb1.mono hwl))
  replace hl_x := Nat.lt_of_lt_of_le hl_x hb1.size
  replace hl_y := Nat.lt_of_lt_of_le hl_y hb1.size
  replace hl_p := Nat.lt_of_lt_of_le hl_p hb1.size
  replace hl_q := Nat.lt_of_lt_of_le hl_q hb1.size
  replace hl_r := Nat.lt_of_lt_of_le hl_r hb1.size
  replace hwl := Nat.le_trans hwl hb1.size
  replace HS := Lib.hid (HS.out.below hb1)
  replace HT := Lib.hid (HT.out.below hb1)
  clear hb1
  go_wp2_with fail

  refine (alike_ex (HS.out.src (by decide)) 0 1 1 1 f_a0).mono ?_
  rintro e w12 ⟨rfl, hb1⟩
  replace x0 := cell_kept hb1 x0 hl_x
  replace x1 := cell_kept hb1 x1 hl_x
  replace x2 := cell_kept hb1 x2 hl_x
  replace x3 := cell_kept hb1 x3 hl_x
  replace x4 := cell_kept hb1 x4 hl_x
  replace x5 := cell_kept hb1 x5 hl_x
  replace y0 := cell_kept hb1 y0 hl_y
  replace y1 := cell_kept hb1 y1 hl_y
  replace y2 := cell_kept hb1 y2 hl_y
  replace y3 := cell_kept hb1 y3 hl_y
  replace y4 := cell_kept hb1 y4 hl_y
  replace y5 := cell_kept hb1 y5 hl_y
  replace p0 := cell_kept hb1 p0 hl_p
  replace p1 := cell_kept hb1 p1 hl_p
  replace p2 := cell_kept hb1 p2 hl_p
  replace p3 := cell_kept hb1 p3 hl_p
  replace q0 := cell_kept hb1 q0 hl_q
  replace q1 := cell_kept hb1 q1 hl_q
  replace q2 := cell_kept hb1 q2 hl_q
  replace q3 := cell_kept hb1 q3 hl_q
  replace r0 := cell_kept hb1 r0 hl_r
  replace r1 := cell_kept hb1 r1 hl_r
  replace r2 := cell_kept hb1 r2 hl_r
  replace r3 := cell_kept hb1 r3 hl_r
  replace Hb := Lib.hid (Hb.out.trans (hb1.mono hwl))
  replace hl_x := Nat.lt_of_lt_of_le hl_x hb1.size
  replace hl_y := Nat.lt_of_lt_of_le hl_y hb1.size
  replace hl_p := Nat.lt_of_lt_of_le hl_p hb1.size
  replace hl_q := Nat.lt_of_lt_of_le hl_q hb1.size
  replace hl_r := Nat.lt_of_lt_of_le hl_r hb1.size
  replace hwl := Nat.le_trans hwl hb1.size
  replace HS := Lib.hid (HS.out.below hb1)
  replace HT := Lib.hid (HT.out.below hb1)
  clear hb1
  go_wp2_with fail

  refine (alike_ex (HS.out.src (by decide)) 0 1 0 0 f_a1).mono ?_
  rintro e w13 ⟨rfl, hb1⟩
  replace x0 := cell_kept hb1 x0 hl_x
  replace x1 := cell_kept hb1 x1 hl_x
  replace x2 := cell_kept hb1 x2 hl_x
  replace x3 := cell_kept hb1 x3 hl_x
  replace x4 := cell_kept hb1 x4 hl_x
  replace x5 := cell_kept hb1 x5 hl_x
  replace y0 := cell_kept hb1 y0 hl_y
  replace y1 := cell_kept hb1 y1 hl_y
  replace y2 := cell_kept hb1 y2 hl_y
  replace y3 := cell_kept hb1 y3 hl_y
  replace y4 := cell_kept hb1 y4 hl_y
  replace y5 := cell_kept hb1 y5 hl_y
  replace p0 := cell_kept hb1 p0 hl_p
  replace p1 := cell_kept hb1 p1 hl_p
  replace p2 := cell_kept hb1 p2 hl_p
  replace p3 := cell_kept hb1 p3 hl_p
  replace q0 := cell_kept hb1 q0 hl_q
  replace q1 := cell_kept hb1 q1 hl_q
  replace q2 := cell_kept hb1 q2 hl_q
  replace q3 := cell_kept hb1 q3 hl_q
  replace r0 := cell_kept hb1 r0 hl_r
  replace r1 := cell_kept hb1 r1 hl_r
  replace r2 := cell_kept hb1 r2 hl_r
  replace r3 := cell_kept hb1 r3 hl_r
  replace Hb := Lib.hid (Hb.out.trans (hb1.mono hwl))
  replace hl_x := Nat.lt_of_lt_of_le hl_x hb1.size
  replace hl_y := Nat.lt_of_lt_of_le hl_y hb1.size
  replace hl_p := Nat.lt_of_lt_of_le hl_p hb1.size
  replace hl_q := Nat.lt_of_lt_of_le hl_q hb1.size
  replace hl_r := Nat.lt_of_lt_of_le hl_r hb1.size
  replace hwl := Nat.le_trans hwl hb1.size
  replace HS := Lib.hid (HS.out.below hb1)
  replace HT := Lib.hid (HT.out.below hb1)
  clear hb1
  go_wp2_with fail

  refine (alike_ex (HS.out.src (by decide)) 0 1 2 0 f_a2).mono ?_
  rintro e w14 ⟨rfl, hb1⟩
  replace x0 := cell_kept hb1 x0 hl_x
  replace x1 := cell_kept hb1 x1 hl_x
  replace x2 := cell_kept hb1 x2 hl_x
  replace x3 := cell_kept hb1 x3 hl_x
  replace x4 := cell_kept hb1 x4 hl_x
  replace x5 := cell_kept hb1 x5 hl_x
  replace y0 := cell_kept hb1 y0 hl_y
  replace y1 := cell_kept hb1 y1 hl_y
  replace y2 := cell_kept hb1 y2 hl_y
  replace y3 := cell_kept hb1 y3 hl_y
  replace y4 := cell_kept hb1 y4 hl_y
  replace y5 := cell_kept hb1 y5 hl_y
  replace p0 := cell_kept hb1 p0 hl_p
  replace p1 := cell_kept hb1 p1 hl_p
  replace p2 := cell_kept hb1 p2 hl_p
  replace p3 := cell_kept hb1 p3 hl_p
  replace q0 := cell_kept hb1 q0 hl_q
  replace q1 := cell_kept hb1 q1 hl_q
  replace q2 := cell_kept hb1 q2 hl_q
  replace q3 := cell_kept hb1 q3 hl_q
  replace r0 := cell_kept hb1 r0 hl_r
  replace r1 := cell_kept hb1 r1 hl_r
  replace r2 := cell_kept hb1 r2 hl_r
  replace r3 := cell_kept hb1 r3 hl_r
  replace Hb := Lib.hid (Hb.out.trans (hb1.mono hwl))
  replace hl_x := Nat.lt_of_lt_of_le hl_x hb1.size
  replace hl_y := Nat.lt_of_lt_of_le hl_y hb1.size
  replace hl_p := Nat.lt_of_lt_of_le hl_p hb1.size
  replace hl_q := Nat.lt_of_lt_of_le hl_q hb1.size
  replace hl_r := Nat.lt_of_lt_of_le hl_r hb1.size
  replace hwl := Nat.le_trans hwl hb1.size
  replace HS := Lib.hid (HS.out.below hb1)
  replace HT := Lib.hid (HT.out.below hb1)
  clear hb1
  go_wp2_with fail

  refine (value_ex (HS.out.src (by decide)) 0 1 10 f_v0).mono ?_
  rintro e w15 ⟨rfl, hb1⟩
  replace x0 := cell_kept hb1 x0 hl_x
  replace x1 := cell_kept hb1 x1 hl_x
  replace x2 := cell_kept hb1 x2 hl_x
  replace x3 := cell_kept hb1 x3 hl_x
  replace x4 := cell_kept hb1 x4 hl_x
  replace x5 := cell_kept hb1 x5 hl_x
  replace y0 := cell_kept hb1 y0 hl_y
  replace y1 := cell_kept hb1 y1 hl_y
  replace y2 := cell_kept hb1 y2 hl_y
  replace y3 := cell_kept hb1 y3 hl_y
  replace y4 := cell_kept hb1 y4 hl_y
  replace y5 := cell_kept hb1 y5 hl_y
  replace p0 := cell_kept hb1 p0 hl_p
  replace p1 := cell_kept hb1 p1 hl_p
  replace p2 := cell_kept hb1 p2 hl_p
  replace p3 := cell_kept hb1 p3 hl_p
  replace q0 := cell_kept hb1 q0 hl_q
  replace q1 := cell_kept hb1 q1 hl_q
  replace q2 := cell_kept hb1 q2 hl_q
  replace q3 := cell_kept hb1 q3 hl_q
  replace r0 := cell_kept hb1 r0 hl_r
  replace r1 := cell_kept hb1 r1 hl_r
  replace r2 := cell_kept hb1 r2 hl_r
  replace r3 := cell_kept hb1 r3 hl_r
  replace Hb := Lib.hid (Hb.out.trans (hb1.mono hwl))
  replace hl_x := Nat.lt_of_lt_of_le hl_x hb1.size
  replace hl_y := Nat.lt_of_lt_of_le hl_y hb1.size
  replace hl_p := Nat.lt_of_lt_of_le hl_p hb1.size
  replace hl_q := Nat.lt_of_lt_of_le hl_q hb1.size
  replace hl_r := Nat.lt_of_lt_of_le hl_r hb1.size
  replace hwl := Nat.le_trans hwl hb1.size
  replace HS := Lib.hid (HS.out.below hb1)
  replace HT := Lib.hid (HT.out.below hb1)
  clear hb1
  go_wp2_with fail

  refine (value_ex (HS.out.src (by decide)) 0 1 11 f_v1).mono ?_
  rintro e w16 ⟨rfl, hb1⟩
  replace x0 := cell_kept hb1 x0 hl_x
  replace x1 := cell_kept hb1 x1 hl_x
  replace x2 := cell_kept hb1 x2 hl_x
  replace x3 := cell_kept hb1 x3 hl_x
  replace x4 := cell_kept hb1 x4 hl_x
  replace x5 := cell_kept hb1 x5 hl_x
  replace y0 := cell_kept hb1 y0 hl_y
  replace y1 := cell_kept hb1 y1 hl_y
  replace y2 := cell_kept hb1 y2 hl_y
  replace y3 := cell_kept hb1 y3 hl_y
  replace y4 := cell_kept hb1 y4 hl_y
  replace y5 := cell_kept hb1 y5 hl_y
  replace p0 := cell_kept hb1 p0 hl_p
  replace p1 := cell_kept hb1 p1 hl_p
  replace p2 := cell_kept hb1 p2 hl_p
  replace p3 := cell_kept hb1 p3 hl_p
  replace q0 := cell_kept hb1 q0 hl_q
  replace q1 := cell_kept hb1 q1 hl_q
  replace q2 := cell_kept hb1 q2 hl_q
  replace q3 := cell_kept hb1 q3 hl_q
  replace r0 := cell_kept hb1 r0 hl_r
  replace r1 := cell_kept hb1 r1 hl_r
  replace r2 := cell_kept hb1 r2 hl_r
  replace r3 := cell_kept hb1 r3 hl_r
  replace Hb := Lib.hid (Hb.out.trans (hb1.mono hwl))
  replace hl_x := Nat.lt_of_lt_of_le hl_x hb1.size
  replace hl_y := Nat.lt_of_lt_of_le hl_y hb1.size
  replace hl_p := Nat.lt_of_lt_of_le hl_p hb1.size
  replace hl_q := Nat.lt_of_lt_of_le hl_q hb1.size
  replace hl_r := Nat.lt_of_lt_of_le hl_r hb1.size
  replace hwl := Nat.le_trans hwl hb1.size
  replace HS := Lib.hid (HS.out.below hb1)
  replace HT := Lib.hid (HT.out.below hb1)
  clear hb1
  go_wp2_with fail

  refine (value_ex (HS.out.src (by decide)) 0 2 0 f_v2).mono ?_
  rintro e w17 ⟨rfl, hb1⟩
  replace x0 := cell_kept hb1 x0 hl_x
  replace x1 := cell_kept hb1 x1 hl_x
  replace x2 := cell_kept hb1 x2 hl_x
  replace x3 := cell_kept hb1 x3 hl_x
  replace x4 := cell_kept hb1 x4 hl_x
  replace x5 := cell_kept hb1 x5 hl_x
  replace y0 := cell_kept hb1 y0 hl_y
  replace y1 := cell_kept hb1 y1 hl_y
  replace y2 := cell_kept hb1 y2 hl_y
  replace y3 := cell_kept hb1 y3 hl_y
  replace y4 := cell_kept hb1 y4 hl_y
  replace y5 := cell_kept hb1 y5 hl_y
  replace p0 := cell_kept hb1 p0 hl_p
  replace p1 := cell_kept hb1 p1 hl_p
  replace p2 := cell_kept hb1 p2 hl_p
  replace p3 := cell_kept hb1 p3 hl_p
  replace q0 := cell_kept hb1 q0 hl_q
  replace q1 := cell_kept hb1 q1 hl_q
  replace q2 := cell_kept hb1 q2 hl_q
  replace q3 := cell_kept hb1 q3 hl_q
  replace r0 := cell_kept hb1 r0 hl_r
  replace r1 := cell_kept hb1 r1 hl_r
  replace r2 := cell_kept hb1 r2 hl_r
  replace r3 := cell_kept hb1 r3 hl_r
  replace Hb := Lib.hid (Hb.out.trans (hb1.mono hwl))
  replace hl_x := Nat.lt_of_lt_of_le hl_x hb1.size
  replace hl_y := Nat.lt_of_lt_of_le hl_y hb1.size
  replace hl_p := Nat.lt_of_lt_of_le hl_p hb1.size
  replace hl_q := Nat.lt_of_lt_of_le hl_q hb1.size
  replace hl_r := Nat.lt_of_lt_of_le hl_r hb1.size
  replace hwl := Nat.le_trans hwl hb1.size
  replace HS := Lib.hid (HS.out.below hb1)
  replace HT := Lib.hid (HT.out.below hb1)
  clear hb1
  go_wp2_with fail

  refine (compare_ex _ 2 1 2 f_k0).mono ?_
  rintro e w18 ⟨rfl, hb1⟩
  replace x0 := cell_kept hb1 x0 hl_x
  replace x1 := cell_kept hb1 x1 hl_x
  replace x2 := cell_kept hb1 x2 hl_x
  replace x3 := cell_kept hb1 x3 hl_x
  replace x4 := cell_kept hb1 x4 hl_x
  replace x5 := cell_kept hb1 x5 hl_x
  replace y0 := cell_kept hb1 y0 hl_y
  replace y1 := cell_kept hb1 y1 hl_y
  replace y2 := cell_kept hb1 y2 hl_y
  replace y3 := cell_kept hb1 y3 hl_y
  replace y4 := cell_kept hb1 y4 hl_y
  replace y5 := cell_kept hb1 y5 hl_y
  replace p0 := cell_kept hb1 p0 hl_p
  replace p1 := cell_kept hb1 p1 hl_p
  replace p2 := cell_kept hb1 p2 hl_p
  replace p3 := cell_kept hb1 p3 hl_p
  replace q0 := cell_kept hb1 q0 hl_q
  replace q1 := cell_kept hb1 q1 hl_q
  replace q2 := cell_kept hb1 q2 hl_q
  replace q3 := cell_kept hb1 q3 hl_q
  replace r0 := cell_kept hb1 r0 hl_r
  replace r1 := cell_kept hb1 r1 hl_r
  replace r2 := cell_kept hb1 r2 hl_r
  replace r3 := cell_kept hb1 r3 hl_r
  replace Hb := Lib.hid (Hb.out.trans (hb1.mono hwl))
  replace hl_x := Nat.lt_of_lt_of_le hl_x hb1.size
  replace hl_y := Nat.lt_of_lt_of_le hl_y hb1.size
  replace hl_p := Nat.lt_of_lt_of_le hl_p hb1.size
  replace hl_q := Nat.lt_of_lt_of_le hl_q hb1.size
  replace hl_r := Nat.lt_of_lt_of_le hl_r hb1.size
  replace hwl := Nat.le_trans hwl hb1.size
  replace HS := Lib.hid (HS.out.below hb1)
  replace HT := Lib.hid (HT.out.below hb1)
  clear hb1
  go_wp2_with fail

  refine (compare_ex _ 0 1 1 f_k1).mono ?_
  rintro e w19 ⟨rfl, hb1⟩
  replace x0 := cell_kept hb1 x0 hl_x
  replace x1 := cell_kept hb1 x1 hl_x
  replace x2 := cell_kept hb1 x2 hl_x
  replace x3 := cell_kept hb1 x3 hl_x
  replace x4 := cell_kept hb1 x4 hl_x
  replace x5 := cell_kept hb1 x5 hl_x
  replace y0 := cell_kept hb1 y0 hl_y
  replace y1 := cell_kept hb1 y1 hl_y
  replace y2 := cell_kept hb1 y2 hl_y
  replace y3 := cell_kept hb1 y3 hl_y
  replace y4 := cell_kept hb1 y4 hl_y
  replace y5 := cell_kept hb1 y5 hl_y
  replace p0 := cell_kept hb1 p0 hl_p
  replace p1 := cell_kept hb1 p1 hl_p
  replace p2 := cell_kept hb1 p2 hl_p
  replace p3 := cell_kept hb1 p3 hl_p
  replace q0 := cell_kept hb1 q0 hl_q
  replace q1 := cell_kept hb1 q1 hl_q
  replace q2 := cell_kept hb1 q2 hl_q
  replace q3 := cell_kept hb1 q3 hl_q
  replace r0 := cell_kept hb1 r0 hl_r
  replace r1 := cell_kept hb1 r1 hl_r
  replace r2 := cell_kept hb1 r2 hl_r
  replace r3 := cell_kept hb1 r3 hl_r
  replace Hb := Lib.hid (Hb.out.trans (hb1.mono hwl))
  replace hl_x := Nat.lt_of_lt_of_le hl_x hb1.size
  replace hl_y := Nat.lt_of_lt_of_le hl_y hb1.size
  replace hl_p := Nat.lt_of_lt_of_le hl_p hb1.size
  replace hl_q := Nat.lt_of_lt_of_le hl_q hb1.size
  replace hl_r := Nat.lt_of_lt_of_le hl_r hb1.size
  replace hwl := Nat.le_trans hwl hb1.size
  replace HS := Lib.hid (HS.out.below hb1)
  replace HT := Lib.hid (HT.out.below hb1)
  clear hb1
  go_wp2_with fail

  refine (compare_ex _ 4 1 2 f_k2).mono ?_
  rintro e w20 ⟨rfl, hb1⟩
  replace x0 := cell_kept hb1 x0 hl_x
  replace x1 := cell_kept hb1 x1 hl_x
  replace x2 := cell_kept hb1 x2 hl_x
  replace x3 := cell_kept hb1 x3 hl_x
  replace x4 := cell_kept hb1 x4 hl_x
  replace x5 := cell_kept hb1 x5 hl_x
  replace y0 := cell_kept hb1 y0 hl_y
  replace y1 := cell_kept hb1 y1 hl_y
  replace y2 := cell_kept hb1 y2 hl_y
  replace y3 := cell_kept hb1 y3 hl_y
  replace y4 := cell_kept hb1 y4 hl_y
  replace y5 := cell_kept hb1 y5 hl_y
  replace p0 := cell_kept hb1 p0 hl_p
  replace p1 := cell_kept hb1 p1 hl_p
  replace p2 := cell_kept hb1 p2 hl_p
  replace p3 := cell_kept hb1 p3 hl_p
  replace q0 := cell_kept hb1 q0 hl_q
  replace q1 := cell_kept hb1 q1 hl_q
  replace q2 := cell_kept hb1 q2 hl_q
  replace q3 := cell_kept hb1 q3 hl_q
  replace r0 := cell_kept hb1 r0 hl_r
  replace r1 := cell_kept hb1 r1 hl_r
  replace r2 := cell_kept hb1 r2 hl_r
  replace r3 := cell_kept hb1 r3 hl_r
  replace Hb := Lib.hid (Hb.out.trans (hb1.mono hwl))
  replace hl_x := Nat.lt_of_lt_of_le hl_x hb1.size
  replace hl_y := Nat.lt_of_lt_of_le hl_y hb1.size
  replace hl_p := Nat.lt_of_lt_of_le hl_p hb1.size
  replace hl_q := Nat.lt_of_lt_of_le hl_q hb1.size
  replace hl_r := Nat.lt_of_lt_of_le hl_r hb1.size
  replace hwl := Nat.le_trans hwl hb1.size
  replace HS := Lib.hid (HS.out.below hb1)
  replace HT := Lib.hid (HT.out.below hb1)
  clear hb1
  go_wp2_with fail

  refine (compare_ex _ 3 2 1 f_k3).mono ?_
  rintro e w21 ⟨rfl, hb1⟩
  replace x0 := cell_kept hb1 x0 hl_x
  replace x1 := cell_kept hb1 x1 hl_x
  replace x2 := cell_kept hb1 x2 hl_x
  replace x3 := cell_kept hb1 x3 hl_x
  replace x4 := cell_kept hb1 x4 hl_x
  replace x5 := cell_kept hb1 x5 hl_x
  replace y0 := cell_kept hb1 y0 hl_y
  replace y1 := cell_kept hb1 y1 hl_y
  replace y2 := cell_kept hb1 y2 hl_y
  replace y3 := cell_kept hb1 y3 hl_y
  replace y4 := cell_kept hb1 y4 hl_y
  replace y5 := cell_kept hb1 y5 hl_y
  replace p0 := cell_kept hb1 p0 hl_p
  replace p1 := cell_kept hb1 p1 hl_p
  replace p2 := cell_kept hb1 p2 hl_p
  replace p3 := cell_kept hb1 p3 hl_p
  replace q0 := cell_kept hb1 q0 hl_q
  replace q1 := cell_kept hb1 q1 hl_q
  replace q2 := cell_kept hb1 q2 hl_q
  replace q3 := cell_kept hb1 q3 hl_q
  replace r0 := cell_kept hb1 r0 hl_r
  replace r1 := cell_kept hb1 r1 hl_r
  replace r2 := cell_kept hb1 r2 hl_r
  replace r3 := cell_kept hb1 r3 hl_r
  replace Hb := Lib.hid (Hb.out.trans (hb1.mono hwl))
  replace hl_x := Nat.lt_of_lt_of_le hl_x hb1.size
  replace hl_y := Nat.lt_of_lt_of_le hl_y hb1.size
  replace hl_p := Nat.lt_of_lt_of_le hl_p hb1.size
  replace hl_q := Nat.lt_of_lt_of_le hl_q hb1.size
  replace hl_r := Nat.lt_of_lt_of_le hl_r hb1.size
  replace hwl := Nat.le_trans hwl hb1.size
  replace HS := Lib.hid (HS.out.below hb1)
  replace HT := Lib.hid (HT.out.below hb1)
  clear hb1

  go_wp2
  go_ret
  exact ⟨rfl, Hb.out⟩
end Go.Proofs.Ytogenjbabgibbaa
