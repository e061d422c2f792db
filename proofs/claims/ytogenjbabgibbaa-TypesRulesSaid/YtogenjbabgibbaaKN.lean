import Derived.Test.YtogenjbabgibbaaKM
namespace Go.Proofs.Ytogenjbabgibbaa
open Go.RowKit
def numB (t : TermD) : Bool := decide (0 ≤ t.n) && decide (t.n ≤ 1048576)
/-- is a term there for variables -/
def rtermB (s : SourceD) (fs : List FromD) (t : TermD) : Bool := if t.var = -1 then numB t else (termTy? s fs t fs.length).isSome
theorem there_eq (s : SourceD) (p : SrcAt) (i j : Int) (w : World) (hs : Src w s p) (r : Bool) (hr : (typeOf? s i j).isSome = r) :
    Calls Try.prog 36 #[s.val p, .int .i64 i, .int .i64 j] w fun e w' => e = .returned (.bool r) ∧ Below w.heap.size w w' := by
  subst hr
  exact there_any s p i j w hs
set_option maxRecDepth 20000 in
set_option maxHeartbeats 2000000 in
theorem rterm_any (s : SourceD) (p : SrcAt) (fs : List FromD) (fa : Option Addr) (fk : Nat) (t : TermD) (w : World) (hs : Src w s p) (hf : Sl 8 RFromD w fa fs) :
    Calls Try.prog 77 #[s.val p, .slice fa fs.length fk, t.val'] w fun e w' => e = .returned (.bool (rtermB s fs t)) ∧ Below w.heap.size w w' := by
  by_cases hm : t.var = -1
  case pos =>
    have Hm := Lib.hid hm
    clear hs hf
    go_enter Try.func77, Try.ntmps77
    go_wp2
    all_goals (try (exfalso; have := Hm.out; simp at *; omega))
    all_goals go_ret
    all_goals exact ⟨ret_bool (by simp [rtermB, Hm.out, numB]; try grind), by (repeat (first | exact Below.refl _ _ | refine Below.alloc ?_ (by first | (simp; done) | (simp; omega)) _ | refine Below.setCell ?_ (by first | (simp; done) | (simp; omega)) _ | refine below_drewN ?_ _))⟩
  have dm : (t.var == -1) = false := by simpa using hm
  by_cases h0 : 0 ≤ t.var
  case neg =>
    have d0 : decide ((0 : Int) ≤ t.var) = false := decide_eq_false h0
    have Hm := Lib.hid hm
    have H0 := Lib.hid h0
    clear hs hf hm h0
    go_enter Try.func77, Try.ntmps77
    go_wp2_with fail
    generalize hw0 : World.alloc _ _ = w0
    obtain ⟨X0, X1, hsz, hb0⟩ := blk2 hw0
    have x0 : w0.cell? ⟨w.heap.size, 0, none⟩ = some (.slice p.a0 s.issuers.length p.k0) := X0.cell 0
    have x1 : w0.cell? ⟨w.heap.size, 1, none⟩ = some (.slice p.a1 s.units.length p.k1) := X0.cell 1
    have x2 : w0.cell? ⟨w.heap.size, 2, none⟩ = some (.slice p.a2 s.schemas.length p.k2) := X0.cell 2
    have x3 : w0.cell? ⟨w.heap.size, 3, none⟩ = some (.slice p.a3 s.rules.length p.k3) := X0.cell 3
    have x4 : w0.cell? ⟨w.heap.size, 4, none⟩ = some (.slice p.a4 s.converts p.k4) := X0.cell 4
    have x5 : w0.cell? ⟨w.heap.size, 5, none⟩ = some (.slice p.a5 s.purposes.length p.k5) := X0.cell 5
    have hl_x : w.heap.size < w0.heap.size := by omega
    have y0 : w0.cell? ⟨w.heap.size + 1, 0, none⟩ = some (.string t.name) := X1.cell 0
    have y1 : w0.cell? ⟨w.heap.size + 1, 1, none⟩ = some (.string t.path) := X1.cell 1
    have y2 : w0.cell? ⟨w.heap.size + 1, 2, none⟩ = some (.int .i64 t.var) := X1.cell 2
    have y3 : w0.cell? ⟨w.heap.size + 1, 3, none⟩ = some (.int .i64 t.field) := X1.cell 3
    have y4 : w0.cell? ⟨w.heap.size + 1, 4, none⟩ = some (.int .i64 t.n) := X1.cell 4
    have hl_y : w.heap.size + 1 < w0.heap.size := by omega
    have hwl : w.heap.size ≤ w0.heap.size := hb0.size
    have Hb := Lib.hid hb0
    clear hw0 hb0 hsz X0 X1
    refine wp_region_grown (by kernel_rfl) (by kernel_rfl) ?_
    repeat (go_big_quiet_step (fail))
    refine wpQuiet_nil ?_
    intro w1 hw0
    have hb1 : Below w0.heap.size w0 w1 := by obtain ⟨n, rfl⟩ := hw0; exact grown_below _ n
    clear hw0
    replace x0 := cell_kept hb1 x0 hl_x
    replace x1 := cell_kept hb1 x1 hl_x
    replace x2 := cell_kept hb1 x2 hl_x
    replace x3 := cell_kept hb1 x3 hl_x
    replace x4 := cell_kept hb1 x4 hl_x
    replace x5 := cell_kept hb1 x5 hl_x
    replace y0 := cell_kept hb1 y0 hl_y
    replace y1 := cell_kept hb1 y1 hl_y
    replace y2 := cell_kept hb1 y2 hl_y
    replace y3 := cell_kept hb1 y3 hl_y
    replace y4 := cell_kept hb1 y4 hl_y
    replace Hb := Lib.hid (Hb.out.trans (hb1.mono hwl))
    replace hl_x := Nat.lt_of_lt_of_le hl_x hb1.size
    replace hl_y := Nat.lt_of_lt_of_le hl_y hb1.size
    replace hwl := Nat.le_trans hwl hb1.size
    clear hb1
    go_wp2
    go_ret
    exact ⟨ret_bool (by have := H0.out; simp [rtermB, Hm.out, termTy?]; intros; omega), Hb.out⟩
  have d0 : decide ((0 : Int) ≤ t.var) = true := decide_eq_true h0
  by_cases h1 : t.var < fs.length
  case neg =>
    have d1 : decide (t.var < (fs.length : Int)) = false := decide_eq_false h1
    have Hm := Lib.hid hm
    have H1 := Lib.hid h1
    clear hs hf hm h1
    go_enter Try.func77, Try.ntmps77
    go_wp2_with fail
    generalize hw0 : World.alloc _ _ = w0
    obtain ⟨X0, X1, hsz, hb0⟩ := blk2 hw0
    have x0 : w0.cell? ⟨w.heap.size, 0, none⟩ = some (.slice p.a0 s.issuers.length p.k0) := X0.cell 0
    have x1 : w0.cell? ⟨w.heap.size, 1, none⟩ = some (.slice p.a1 s.units.length p.k1) := X0.cell 1
    have x2 : w0.cell? ⟨w.heap.size, 2, none⟩ = some (.slice p.a2 s.schemas.length p.k2) := X0.cell 2
    have x3 : w0.cell? ⟨w.heap.size, 3, none⟩ = some (.slice p.a3 s.rules.length p.k3) := X0.cell 3
    have x4 : w0.cell? ⟨w.heap.size, 4, none⟩ = some (.slice p.a4 s.converts p.k4) := X0.cell 4
    have x5 : w0.cell? ⟨w.heap.size, 5, none⟩ = some (.slice p.a5 s.purposes.length p.k5) := X0.cell 5
    have hl_x : w.heap.size < w0.heap.size := by omega
    have y0 : w0.cell? ⟨w.heap.size + 1, 0, none⟩ = some (.string t.name) := X1.cell 0
    have y1 : w0.cell? ⟨w.heap.size + 1, 1, none⟩ = some (.string t.path) := X1.cell 1
    have y2 : w0.cell? ⟨w.heap.size + 1, 2, none⟩ = some (.int .i64 t.var) := X1.cell 2
    have y3 : w0.cell? ⟨w.heap.size + 1, 3, none⟩ = some (.int .i64 t.field) := X1.cell 3
    have y4 : w0.cell? ⟨w.heap.size + 1, 4, none⟩ = some (.int .i64 t.n) := X1.cell 4
    have hl_y : w.heap.size + 1 < w0.heap.size := by omega
    have hwl : w.heap.size ≤ w0.heap.size := hb0.size
    have Hb := Lib.hid hb0
    clear hw0 hb0 hsz X0 X1
    refine wp_region_grown (by kernel_rfl) (by kernel_rfl) ?_
    repeat (go_big_quiet_step (fail))
    refine wpQuiet_nil ?_
    intro w1 hw0
    have hb1 : Below w0.heap.size w0 w1 := by obtain ⟨n, rfl⟩ := hw0; exact grown_below _ n
    clear hw0
    replace x0 := cell_kept hb1 x0 hl_x
    replace x1 := cell_kept hb1 x1 hl_x
    replace x2 := cell_kept hb1 x2 hl_x
    replace x3 := cell_kept hb1 x3 hl_x
    replace x4 := cell_kept hb1 x4 hl_x
    replace x5 := cell_kept hb1 x5 hl_x
    replace y0 := cell_kept hb1 y0 hl_y
    replace y1 := cell_kept hb1 y1 hl_y
    replace y2 := cell_kept hb1 y2 hl_y
    replace y3 := cell_kept hb1 y3 hl_y
    replace y4 := cell_kept hb1 y4 hl_y
    replace Hb := Lib.hid (Hb.out.trans (hb1.mono hwl))
    replace hl_x := Nat.lt_of_lt_of_le hl_x hb1.size
    replace hl_y := Nat.lt_of_lt_of_le hl_y hb1.size
    replace hwl := Nat.le_trans hwl hb1.size
    clear hb1
    go_wp2
    go_ret
    exact ⟨ret_bool (by have := H1.out; simp [rtermB, Hm.out, termTy?]; intros; omega), Hb.out⟩
  have d1 : decide (t.var < (fs.length : Int)) = true := decide_eq_true h1
  have hlt : t.var.toNat < fs.length := by omega
  obtain ⟨b, off, e1, hl_c, _, c0, c1, c2, c3, c4, c5, c6, c7⟩ := FromD.out hf t.var.toNat hlt
  subst e1
  have hr : rtermB s fs t = (typeOf? s fs[t.var.toNat].schema t.field).isSome := by
    unfold rtermB termTy?
    rw [if_neg hm, if_pos ⟨h0, h1⟩, List.getElem?_eq_getElem hlt]
  generalize fs[t.var.toNat] = f at *
  have Hr := Lib.hid hr
  have Hs := Lib.hid hs
  clear hr hs hf hm
  go_enter Try.func77, Try.ntmps77
  go_wp2_with fail
  generalize hw0 : World.alloc _ _ = w0
  obtain ⟨X0, X1, hsz, hb0⟩ := blk2 hw0
  replace c0 := cell_kept hb0 c0 hl_c
  replace c1 := cell_kept hb0 c1 hl_c
  replace c2 := cell_kept hb0 c2 hl_c
  replace c3 := cell_kept hb0 c3 hl_c
  replace c4 := cell_kept hb0 c4 hl_c
  replace c5 := cell_kept hb0 c5 hl_c
  replace c6 := cell_kept hb0 c6 hl_c
  replace c7 := cell_kept hb0 c7 hl_c
  have hw_c := hl_c
  replace hl_c := Nat.lt_of_lt_of_le hl_c hb0.size
  have x0 : w0.cell? ⟨w.heap.size, 0, none⟩ = some (.slice p.a0 s.issuers.length p.k0) := X0.cell 0
  have x1 : w0.cell? ⟨w.heap.size, 1, none⟩ = some (.slice p.a1 s.units.length p.k1) := X0.cell 1
  have x2 : w0.cell? ⟨w.heap.size, 2, none⟩ = some (.slice p.a2 s.schemas.length p.k2) := X0.cell 2
  have x3 : w0.cell? ⟨w.heap.size, 3, none⟩ = some (.slice p.a3 s.rules.length p.k3) := X0.cell 3
  have x4 : w0.cell? ⟨w.heap.size, 4, none⟩ = some (.slice p.a4 s.converts p.k4) := X0.cell 4
  have x5 : w0.cell? ⟨w.heap.size, 5, none⟩ = some (.slice p.a5 s.purposes.length p.k5) := X0.cell 5
  have hl_x : w.heap.size < w0.heap.size := by omega
  have y0 : w0.cell? ⟨w.heap.size + 1, 0, none⟩ = some (.string t.name) := X1.cell 0
  have y1 : w0.cell? ⟨w.heap.size + 1, 1, none⟩ = some (.string t.path) := X1.cell 1
  have y2 : w0.cell? ⟨w.heap.size + 1, 2, none⟩ = some (.int .i64 t.var) := X1.cell 2
  have y3 : w0.cell? ⟨w.heap.size + 1, 3, none⟩ = some (.int .i64 t.field) := X1.cell 3
  have y4 : w0.cell? ⟨w.heap.size + 1, 4, none⟩ = some (.int .i64 t.n) := X1.cell 4
  have hl_y : w.heap.size + 1 < w0.heap.size := by omega
  have hwl : w.heap.size ≤ w0.heap.size := hb0.size
  have Hb := Lib.hid hb0
  clear hw0 hb0 hsz X0 X1
  refine wp_region_grown (by kernel_rfl) (by kernel_rfl) ?_
  repeat (go_big_quiet_step (first | (go_at_call 36; exact calls_grown (there_eq s p f.schema t.field _ (Hs.out.below (Hb.out.trans ((grown_below _ _).mono hwl))) _ rfl))))
  refine wpQuiet_nil ?_
  intro w1 hw0
  have hb1 : Below w0.heap.size w0 w1 := by obtain ⟨n, rfl⟩ := hw0; exact grown_below _ n
  clear hw0
  replace x0 := cell_kept hb1 x0 hl_x
  replace x1 := cell_kept hb1 x1 hl_x
  replace x2 := cell_kept hb1 x2 hl_x
  replace x3 := cell_kept hb1 x3 hl_x
  replace x4 := cell_kept hb1 x4 hl_x
  replace x5 := cell_kept hb1 x5 hl_x
  replace y0 := cell_kept hb1 y0 hl_y
  replace y1 := cell_kept hb1 y1 hl_y
  replace y2 := cell_kept hb1 y2 hl_y
  replace y3 := cell_kept hb1 y3 hl_y
  replace y4 := cell_kept hb1 y4 hl_y
  replace c0 := cell_kept hb1 c0 hl_c
  replace c1 := cell_kept hb1 c1 hl_c
  replace c2 := cell_kept hb1 c2 hl_c
  replace c3 := cell_kept hb1 c3 hl_c
  replace c4 := cell_kept hb1 c4 hl_c
  replace c5 := cell_kept hb1 c5 hl_c
  replace c6 := cell_kept hb1 c6 hl_c
  replace c7 := cell_kept hb1 c7 hl_c
  replace Hb := Lib.hid (Hb.out.trans (hb1.mono hwl))
  replace hl_x := Nat.lt_of_lt_of_le hl_x hb1.size
  replace hl_y := Nat.lt_of_lt_of_le hl_y hb1.size
  replace hl_c := Nat.lt_of_lt_of_le hl_c hb1.size
  replace hwl := Nat.le_trans hwl hb1.size
  clear hb1
  go_wp2
  go_ret
  exact ⟨ret_bool Hr.out.symm, Hb.out⟩
end Go.Proofs.Ytogenjbabgibbaa
