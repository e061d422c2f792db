import Derived.Test.YtogenjbabgibbaaKN
import Derived.Test.YtogenjbabgibbaaKO
namespace Go.Proofs.Ytogenjbabgibbaa
open Go.RowKit
set_option maxRecDepth 20000 in
set_option maxHeartbeats 4000000 in
theorem rfrom_at (s : SourceD) (p : SrcAt) (fs : List FromD) (fa : Option Addr) (fk : Nat) (i : Nat) (w : World) (hs : Src w s p) (hf : Sl 8 RFromD w fa fs) (hi : i < fs.length) :
    Calls Try.prog 64 #[s.val p, .slice fa fs.length fk, .int .i64 i] w fun e w' => e = .returned (.bool (fromB s fs i)) ∧ Below w.heap.size w w' := by
  have hi' : (i : Int) < (fs.length : Int) := by omega
  obtain ⟨b, off, e1, hl_c, _, c0, c1, c2, c3, c4, c5, c6, c7⟩ := FromD.out hf i hi
  subst e1
  have hv : fromB s fs i = (schIn s fs[i].schema && (decide (fs[i].of_.var = -1) || match termTy? s fs fs[i].of_ i with | some t => decide (t.kind = 3) | none => false)) := by
    unfold fromB; rw [List.getElem?_eq_getElem hi]; rfl
  generalize fs[i] = f at *
  have Hv := Lib.hid hv
  clear hv
  by_cases hsc : 0 ≤ f.schema ∧ f.schema < s.schemas.length
  case neg =>
    have Hsc := Lib.hid hsc
    clear hsc hs hf
    go_enter Try.func64, Try.ntmps64
    go_wp2
    all_goals (try (exfalso; have := Hsc.out; omega))
    all_goals go_ret
    all_goals (refine ⟨ret_bool ?_, by (repeat (first | exact Below.refl _ _ | refine Below.alloc ?_ (by first | (simp; done) | (simp; omega)) _ | refine Below.setCell ?_ (by first | (simp; done) | (simp; omega)) _ | refine below_drewN ?_ _))⟩)
    all_goals (rw [Hv.out]; have := Hsc.out; simp [schIn]; intros; omega)
  have hsi : schIn s f.schema = true := by simp [schIn, hsc]
  obtain ⟨hsc0, hsc1⟩ := hsc
  have Hsi := Lib.hid hsi
  clear hsi
  by_cases hm : f.of_.var = -1
  case pos =>
    have Hm := Lib.hid hm
    clear hm hs hf
    go_enter Try.func64, Try.ntmps64
    go_wp2
    all_goals (try (exfalso; have := Hm.out; simp at *; omega))
    all_goals go_ret
    all_goals (refine ⟨ret_bool ?_, by (repeat (first | exact Below.refl _ _ | refine Below.alloc ?_ (by first | (simp; done) | (simp; omega)) _ | refine Below.setCell ?_ (by first | (simp; done) | (simp; omega)) _ | refine below_drewN ?_ _))⟩)
    all_goals (rw [Hv.out, Hsi.out, Hm.out]; simp)
  have dm : (f.of_.var == -1) = false := by simpa using hm
  have Hm := Lib.hid hm
  clear hm
  by_cases h0 : 0 ≤ f.of_.var
  case neg =>
    have d0 : decide ((0 : Int) ≤ f.of_.var) = false := decide_eq_false h0
    have H0 := Lib.hid h0
    clear hs hf h0
    go_enter Try.func64, Try.ntmps64
    go_wp2_with fail
    all_goals (try (exfalso; simp at *; omega))
    generalize hw0 : World.alloc _ _ = w0
    obtain ⟨X0, X1, hsz, hb0⟩ := blk2 hw0
    replace c0 := cell_kept hb0 c0 hl_c
    replace c1 := cell_kept hb0 c1 hl_c
    replace c2 := cell_kept hb0 c2 hl_c
    replace c3 := cell_kept hb0 c3 hl_c
    replace c4 := cell_kept hb0 c4 hl_c
    replace c5 := cell_kept hb0 c5 hl_c
    replace c6 := cell_kept hb0 c6 hl_c
    replace c7 := cell_kept hb0 c7 hl_c
    have hw_c := hl_c
    replace hl_c := Nat.lt_of_lt_of_le hl_c hb0.size
    have x0 : w0.cell? ⟨w.heap.size, 0, none⟩ = some (.slice p.a0 s.issuers.length p.k0) := X0.cell 0
    have x1 : w0.cell? ⟨w.heap.size, 1, none⟩ = some (.slice p.a1 s.units.length p.k1) := X0.cell 1
    have x2 : w0.cell? ⟨w.heap.size, 2, none⟩ = some (.slice p.a2 s.schemas.length p.k2) := X0.cell 2
    have x3 : w0.cell? ⟨w.heap.size, 3, none⟩ = some (.slice p.a3 s.rules.length p.k3) := X0.cell 3
    have x4 : w0.cell? ⟨w.heap.size, 4, none⟩ = some (.slice p.a4 s.converts p.k4) := X0.cell 4
    have x5 : w0.cell? ⟨w.heap.size, 5, none⟩ = some (.slice p.a5 s.purposes.length p.k5) := X0.cell 5
    have hl_x : w.heap.size < w0.heap.size := by omega
    have y0 : w0.cell? ⟨w.heap.size + 1, 0, none⟩ = some (.string f.name) := X1.cell 0
    have y1 : w0.cell? ⟨w.heap.size + 1, 1, none⟩ = some (.string f.kind) := X1.cell 1
    have y2 : w0.cell? ⟨w.heap.size + 1, 2, none⟩ = some (.int .i64 f.schema) := X1.cell 2
    have y3 : w0.cell? ⟨w.heap.size + 1, 3, none⟩ = some (.string f.of_.name) := X1.cell 3
    have y4 : w0.cell? ⟨w.heap.size + 1, 4, none⟩ = some (.string f.of_.path) := X1.cell 4
    have y5 : w0.cell? ⟨w.heap.size + 1, 5, none⟩ = some (.int .i64 f.of_.var) := X1.cell 5
    have y6 : w0.cell? ⟨w.heap.size + 1, 6, none⟩ = some (.int .i64 f.of_.field) := X1.cell 6
    have y7 : w0.cell? ⟨w.heap.size + 1, 7, none⟩ = some (.int .i64 f.of_.n) := X1.cell 7
    have hl_y : w.heap.size + 1 < w0.heap.size := by omega
    have hwl : w.heap.size ≤ w0.heap.size := hb0.size
    have Hb := Lib.hid hb0
    clear hw0 hb0 hsz X0 X1
    refine wp_region_grown (by kernel_rfl) (by kernel_rfl) ?_
    repeat (go_big_quiet_step (fail))
    refine wpQuiet_nil ?_
    intro w1 hw0
    have hb1 : Below w0.heap.size w0 w1 := by obtain ⟨n, rfl⟩ := hw0; exact grown_below _ n
    clear hw0
    replace x0 := cell_kept hb1 x0 hl_x
    replace x1 := cell_kept hb1 x1 hl_x
    replace x2 := cell_kept hb1 x2 hl_x
    replace x3 := cell_kept hb1 x3 hl_x
    replace x4 := cell_kept hb1 x4 hl_x
    replace x5 := cell_kept hb1 x5 hl_x
    replace y0 := cell_kept hb1 y0 hl_y
    replace y1 := cell_kept hb1 y1 hl_y
    replace y2 := cell_kept hb1 y2 hl_y
    replace y3 := cell_kept hb1 y3 hl_y
    replace y4 := cell_kept hb1 y4 hl_y
    replace y5 := cell_kept hb1 y5 hl_y
    replace y6 := cell_kept hb1 y6 hl_y
    replace y7 := cell_kept hb1 y7 hl_y
    replace c0 := cell_kept hb1 c0 hl_c
    replace c1 := cell_kept hb1 c1 hl_c
    replace c2 := cell_kept hb1 c2 hl_c
    replace c3 := cell_kept hb1 c3 hl_c
    replace c4 := cell_kept hb1 c4 hl_c
    replace c5 := cell_kept hb1 c5 hl_c
    replace c6 := cell_kept hb1 c6 hl_c
    replace c7 := cell_kept hb1 c7 hl_c
    replace Hb := Lib.hid (Hb.out.trans (hb1.mono hwl))
    replace hl_x := Nat.lt_of_lt_of_le hl_x hb1.size
    replace hl_y := Nat.lt_of_lt_of_le hl_y hb1.size
    replace hl_c := Nat.lt_of_lt_of_le hl_c hb1.size
    replace hwl := Nat.le_trans hwl hb1.size
    clear hb1
    go_wp2
    go_ret
    refine ⟨ret_bool ?_, Hb.out⟩
    rw [Hv.out, termTy?, if_neg (by have := H0.out; omega)]; simp [Hm.out]
  have d0 : decide ((0 : Int) ≤ f.of_.var) = true := decide_eq_true h0
  by_cases h1 : f.of_.var < i
  case neg =>
    have d1 : decide (f.of_.var < (i : Int)) = false := decide_eq_false h1
    have H1 := Lib.hid h1
    clear hs hf h1
    go_enter Try.func64, Try.ntmps64
    go_wp2_with fail
    all_goals (try (exfalso; simp at *; omega))
    generalize hw0 : World.alloc _ _ = w0
    obtain ⟨X0, X1, hsz, hb0⟩ := blk2 hw0
    replace c0 := cell_kept hb0 c0 hl_c
    replace c1 := cell_kept hb0 c1 hl_c
    replace c2 := cell_kept hb0 c2 hl_c
    replace c3 := cell_kept hb0 c3 hl_c
    replace c4 := cell_kept hb0 c4 hl_c
    replace c5 := cell_kept hb0 c5 hl_c
    replace c6 := cell_kept hb0 c6 hl_c
    replace c7 := cell_kept hb0 c7 hl_c
    have hw_c := hl_c
    replace hl_c := Nat.lt_of_lt_of_le hl_c hb0.size
    have x0 : w0.cell? ⟨w.heap.size, 0, none⟩ = some (.slice p.a0 s.issuers.length p.k0) := X0.cell 0
    have x1 : w0.cell? ⟨w.heap.size, 1, none⟩ = some (.slice p.a1 s.units.length p.k1) := X0.cell 1
    have x2 : w0.cell? ⟨w.heap.size, 2, none⟩ = some (.slice p.a2 s.schemas.length p.k2) := X0.cell 2
    have x3 : w0.cell? ⟨w.heap.size, 3, none⟩ = some (.slice p.a3 s.rules.length p.k3) := X0.cell 3
    have x4 : w0.cell? ⟨w.heap.size, 4, none⟩ = some (.slice p.a4 s.converts p.k4) := X0.cell 4
    have x5 : w0.cell? ⟨w.heap.size, 5, none⟩ = some (.slice p.a5 s.purposes.length p.k5) := X0.cell 5
    have hl_x : w.heap.size < w0.heap.size := by omega
    have y0 : w0.cell? ⟨w.heap.size + 1, 0, none⟩ = some (.string f.name) := X1.cell 0
    have y1 : w0.cell? ⟨w.heap.size + 1, 1, none⟩ = some (.string f.kind) := X1.cell 1
    have y2 : w0.cell? ⟨w.heap.size + 1, 2, none⟩ = some (.int .i64 f.schema) := X1.cell 2
    have y3 : w0.cell? ⟨w.heap.size + 1, 3, none⟩ = some (.string f.of_.name) := X1.cell 3
    have y4 : w0.cell? ⟨w.heap.size + 1, 4, none⟩ = some (.string f.of_.path) := X1.cell 4
    have y5 : w0.cell? ⟨w.heap.size + 1, 5, none⟩ = some (.int .i64 f.of_.var) := X1.cell 5
    have y6 : w0.cell? ⟨w.heap.size + 1, 6, none⟩ = some (.int .i64 f.of_.field) := X1.cell 6
    have y7 : w0.cell? ⟨w.heap.size + 1, 7, none⟩ = some (.int .i64 f.of_.n) := X1.cell 7
    have hl_y : w.heap.size + 1 < w0.heap.size := by omega
    have hwl : w.heap.size ≤ w0.heap.size := hb0.size
    have Hb := Lib.hid hb0
    clear hw0 hb0 hsz X0 X1
    refine wp_region_grown (by kernel_rfl) (by kernel_rfl) ?_
    repeat (go_big_quiet_step (fail))
    refine wpQuiet_nil ?_
    intro w1 hw0
    have hb1 : Below w0.heap.size w0 w1 := by obtain ⟨n, rfl⟩ := hw0; exact grown_below _ n
    clear hw0
    replace x0 := cell_kept hb1 x0 hl_x
    replace x1 := cell_kept hb1 x1 hl_x
    replace x2 := cell_kept hb1 x2 hl_x
    replace x3 := cell_kept hb1 x3 hl_x
    replace x4 := cell_kept hb1 x4 hl_x
    replace x5 := cell_kept hb1 x5 hl_x
    replace y0 := cell_kept hb1 y0 hl_y
    replace y1 := cell_kept hb1 y1 hl_y
    replace y2 := cell_kept hb1 y2 hl_y
    replace y3 := cell_kept hb1 y3 hl_y
    replace y4 := cell_kept hb1 y4 hl_y
    replace y5 := cell_kept hb1 y5 hl_y
    replace y6 := cell_kept hb1 y6 hl_y
    replace y7 := cell_kept hb1 y7 hl_y
    replace c0 := cell_kept hb1 c0 hl_c
    replace c1 := cell_kept hb1 c1 hl_c
    replace c2 := cell_kept hb1 c2 hl_c
    replace c3 := cell_kept hb1 c3 hl_c
    replace c4 := cell_kept hb1 c4 hl_c
    replace c5 := cell_kept hb1 c5 hl_c
    replace c6 := cell_kept hb1 c6 hl_c
    replace c7 := cell_kept hb1 c7 hl_c
    replace Hb := Lib.hid (Hb.out.trans (hb1.mono hwl))
    replace hl_x := Nat.lt_of_lt_of_le hl_x hb1.size
    replace hl_y := Nat.lt_of_lt_of_le hl_y hb1.size
    replace hl_c := Nat.lt_of_lt_of_le hl_c hb1.size
    replace hwl := Nat.le_trans hwl hb1.size
    clear hb1
    go_wp2
    go_ret
    refine ⟨ret_bool ?_, Hb.out⟩
    rw [Hv.out, termTy?, if_neg (by have := H1.out; omega)]; simp [Hm.out]
  have d1 : decide (f.of_.var < (i : Int)) = true := decide_eq_true h1
  have hlt : f.of_.var.toNat < fs.length := by omega
  have hlt' : f.of_.var < (fs.length : Int) := by omega
  obtain ⟨b', off', e1, hl_d, _, d_0, d_1, d_2, d_3, d_4, d_5, d_6, d_7⟩ := FromD.out hf f.of_.var.toNat hlt
  simp only [Option.some.injEq, Addr.mk.injEq, and_true] at e1
  obtain ⟨rfl, rfl⟩ := e1
  have htt : termTy? s fs f.of_ i = typeOf? s fs[f.of_.var.toNat].schema f.of_.field := by
    unfold termTy?; rw [if_pos ⟨h0, h1⟩, List.getElem?_eq_getElem hlt]
  rw [htt] at Hv
  generalize fs[f.of_.var.toNat] = g at *
  have Hs := Lib.hid hs
  clear hs hf htt
  cases hty : typeOf? s g.schema f.of_.field with
  | none =>
    have Hty := Lib.hid hty
    clear hty
    go_enter Try.func64, Try.ntmps64
    go_wp2_with fail
    all_goals (try (exfalso; simp at *; omega))
    generalize hw0 : World.alloc _ _ = w0
    obtain ⟨X0, X1, hsz, hb0⟩ := blk2 hw0
    replace c0 := cell_kept hb0 c0 hl_c
    replace c1 := cell_kept hb0 c1 hl_c
    replace c2 := cell_kept hb0 c2 hl_c
    replace c3 := cell_kept hb0 c3 hl_c
    replace c4 := cell_kept hb0 c4 hl_c
    replace c5 := cell_kept hb0 c5 hl_c
    replace c6 := cell_kept hb0 c6 hl_c
    replace c7 := cell_kept hb0 c7 hl_c
    replace d_0 := cell_kept hb0 d_0 hl_d
    replace d_1 := cell_kept hb0 d_1 hl_d
    replace d_2 := cell_kept hb0 d_2 hl_d
    replace d_3 := cell_kept hb0 d_3 hl_d
    replace d_4 := cell_kept hb0 d_4 hl_d
    replace d_5 := cell_kept hb0 d_5 hl_d
    replace d_6 := cell_kept hb0 d_6 hl_d
    replace d_7 := cell_kept hb0 d_7 hl_d
    have hw_c := hl_c
    replace hl_c := Nat.lt_of_lt_of_le hl_c hb0.size
    have hw_d := hl_d
    replace hl_d := Nat.lt_of_lt_of_le hl_d hb0.size
    have x0 : w0.cell? ⟨w.heap.size, 0, none⟩ = some (.slice p.a0 s.issuers.length p.k0) := X0.cell 0
    have x1 : w0.cell? ⟨w.heap.size, 1, none⟩ = some (.slice p.a1 s.units.length p.k1) := X0.cell 1
    have x2 : w0.cell? ⟨w.heap.size, 2, none⟩ = some (.slice p.a2 s.schemas.length p.k2) := X0.cell 2
    have x3 : w0.cell? ⟨w.heap.size, 3, none⟩ = some (.slice p.a3 s.rules.length p.k3) := X0.cell 3
    have x4 : w0.cell? ⟨w.heap.size, 4, none⟩ = some (.slice p.a4 s.converts p.k4) := X0.cell 4
    have x5 : w0.cell? ⟨w.heap.size, 5, none⟩ = some (.slice p.a5 s.purposes.length p.k5) := X0.cell 5
    have hl_x : w.heap.size < w0.heap.size := by omega
    have y0 : w0.cell? ⟨w.heap.size + 1, 0, none⟩ = some (.string f.name) := X1.cell 0
    have y1 : w0.cell? ⟨w.heap.size + 1, 1, none⟩ = some (.string f.kind) := X1.cell 1
    have y2 : w0.cell? ⟨w.heap.size + 1, 2, none⟩ = some (.int .i64 f.schema) := X1.cell 2
    have y3 : w0.cell? ⟨w.heap.size + 1, 3, none⟩ = some (.string f.of_.name) := X1.cell 3
    have y4 : w0.cell? ⟨w.heap.size + 1, 4, none⟩ = some (.string f.of_.path) := X1.cell 4
    have y5 : w0.cell? ⟨w.heap.size + 1, 5, none⟩ = some (.int .i64 f.of_.var) := X1.cell 5
    have y6 : w0.cell? ⟨w.heap.size + 1, 6, none⟩ = some (.int .i64 f.of_.field) := X1.cell 6
    have y7 : w0.cell? ⟨w.heap.size + 1, 7, none⟩ = some (.int .i64 f.of_.n) := X1.cell 7
    have hl_y : w.heap.size + 1 < w0.heap.size := by omega
    have hwl : w.heap.size ≤ w0.heap.size := hb0.size
    have Hb := Lib.hid hb0
    clear hw0 hb0 hsz X0 X1
    refine wp_region_grown (by kernel_rfl) (by kernel_rfl) ?_
    repeat (go_big_quiet_step (first | (go_at_call 36; exact calls_grown (there_eq s p g.schema f.of_.field _ (Hs.out.below (Hb.out.trans ((grown_below _ _).mono hwl))) false (by rw [Hty.out]; rfl)))))
    refine wpQuiet_nil ?_
    intro w1 hw0
    have hb1 : Below w0.heap.size w0 w1 := by obtain ⟨n, rfl⟩ := hw0; exact grown_below _ n
    clear hw0
    replace x0 := cell_kept hb1 x0 hl_x
    replace x1 := cell_kept hb1 x1 hl_x
    replace x2 := cell_kept hb1 x2 hl_x
    replace x3 := cell_kept hb1 x3 hl_x
    replace x4 := cell_kept hb1 x4 hl_x
    replace x5 := cell_kept hb1 x5 hl_x
    replace y0 := cell_kept hb1 y0 hl_y
    replace y1 := cell_kept hb1 y1 hl_y
    replace y2 := cell_kept hb1 y2 hl_y
    replace y3 := cell_kept hb1 y3 hl_y
    replace y4 := cell_kept hb1 y4 hl_y
    replace y5 := cell_kept hb1 y5 hl_y
    replace y6 := cell_kept hb1 y6 hl_y
    replace y7 := cell_kept hb1 y7 hl_y
    replace c0 := cell_kept hb1 c0 hl_c
    replace c1 := cell_kept hb1 c1 hl_c
    replace c2 := cell_kept hb1 c2 hl_c
    replace c3 := cell_kept hb1 c3 hl_c
    replace c4 := cell_kept hb1 c4 hl_c
    replace c5 := cell_kept hb1 c5 hl_c
    replace c6 := cell_kept hb1 c6 hl_c
    replace c7 := cell_kept hb1 c7 hl_c
    replace d_0 := cell_kept hb1 d_0 hl_d
    replace d_1 := cell_kept hb1 d_1 hl_d
    replace d_2 := cell_kept hb1 d_2 hl_d
    replace d_3 := cell_kept hb1 d_3 hl_d
    replace d_4 := cell_kept hb1 d_4 hl_d
    replace d_5 := cell_kept hb1 d_5 hl_d
    replace d_6 := cell_kept hb1 d_6 hl_d
    replace d_7 := cell_kept hb1 d_7 hl_d
    replace Hb := Lib.hid (Hb.out.trans (hb1.mono hwl))
    replace hl_x := Nat.lt_of_lt_of_le hl_x hb1.size
    replace hl_y := Nat.lt_of_lt_of_le hl_y hb1.size
    replace hl_c := Nat.lt_of_lt_of_le hl_c hb1.size
    replace hl_d := Nat.lt_of_lt_of_le hl_d hb1.size
    replace hwl := Nat.le_trans hwl hb1.size
    clear hb1
    go_wp2
    go_ret
    refine ⟨ret_bool ?_, Hb.out⟩
    rw [Hv.out, Hty.out]; simp [Hm.out]
  | some ty =>
    have Hty := Lib.hid hty
    obtain ⟨an, kn, hn, hc⟩ := rtypeOf_fix s p g.schema f.of_.field ty hty w Hs.out
    have Hc := Lib.hid hc
    have hfd : ∀ w' : World, (Instr.field 71 (ty.val an kn) 0).run Try.prog w' = .ok (.int .i64 ty.kind) w' := fun w' => by kernel_rfl
    clear hty hn hc
    go_enter Try.func64, Try.ntmps64
    go_wp2_with fail
    all_goals (try (exfalso; simp at *; omega))
    generalize hw0 : World.alloc _ _ = w0
    obtain ⟨X0, X1, hsz, hb0⟩ := blk2 hw0
    replace c0 := cell_kept hb0 c0 hl_c
    replace c1 := cell_kept hb0 c1 hl_c
    replace c2 := cell_kept hb0 c2 hl_c
    replace c3 := cell_kept hb0 c3 hl_c
    replace c4 := cell_kept hb0 c4 hl_c
    replace c5 := cell_kept hb0 c5 hl_c
    replace c6 := cell_kept hb0 c6 hl_c
    replace c7 := cell_kept hb0 c7 hl_c
    replace d_0 := cell_kept hb0 d_0 hl_d
    replace d_1 := cell_kept hb0 d_1 hl_d
    replace d_2 := cell_kept hb0 d_2 hl_d
    replace d_3 := cell_kept hb0 d_3 hl_d
    replace d_4 := cell_kept hb0 d_4 hl_d
    replace d_5 := cell_kept hb0 d_5 hl_d
    replace d_6 := cell_kept hb0 d_6 hl_d
    replace d_7 := cell_kept hb0 d_7 hl_d
    have hw_c := hl_c
    replace hl_c := Nat.lt_of_lt_of_le hl_c hb0.size
    have hw_d := hl_d
    replace hl_d := Nat.lt_of_lt_of_le hl_d hb0.size
    have x0 : w0.cell? ⟨w.heap.size, 0, none⟩ = some (.slice p.a0 s.issuers.length p.k0) := X0.cell 0
    have x1 : w0.cell? ⟨w.heap.size, 1, none⟩ = some (.slice p.a1 s.units.length p.k1) := X0.cell 1
    have x2 : w0.cell? ⟨w.heap.size, 2, none⟩ = some (.slice p.a2 s.schemas.length p.k2) := X0.cell 2
    have x3 : w0.cell? ⟨w.heap.size, 3, none⟩ = some (.slice p.a3 s.rules.length p.k3) := X0.cell 3
    have x4 : w0.cell? ⟨w.heap.size, 4, none⟩ = some (.slice p.a4 s.converts p.k4) := X0.cell 4
    have x5 : w0.cell? ⟨w.heap.size, 5, none⟩ = some (.slice p.a5 s.purposes.length p.k5) := X0.cell 5
    have hl_x : w.heap.size < w0.heap.size := by omega
    have y0 : w0.cell? ⟨w.heap.size + 1, 0, none⟩ = some (.string f.name) := X1.cell 0
    have y1 : w0.cell? ⟨w.heap.size + 1, 1, none⟩ = some (.string f.kind) := X1.cell 1
    have y2 : w0.cell? ⟨w.heap.size + 1, 2, none⟩ = some (.int .i64 f.schema) := X1.cell 2
    have y3 : w0.cell? ⟨w.heap.size + 1, 3, none⟩ = some (.string f.of_.name) := X1.cell 3
    have y4 : w0.cell? ⟨w.heap.size + 1, 4, none⟩ = some (.string f.of_.path) := X1.cell 4
    have y5 : w0.cell? ⟨w.heap.size + 1, 5, none⟩ = some (.int .i64 f.of_.var) := X1.cell 5
    have y6 : w0.cell? ⟨w.heap.size + 1, 6, none⟩ = some (.int .i64 f.of_.field) := X1.cell 6
    have y7 : w0.cell? ⟨w.heap.size + 1, 7, none⟩ = some (.int .i64 f.of_.n) := X1.cell 7
    have hl_y : w.heap.size + 1 < w0.heap.size := by omega
    have hwl : w.heap.size ≤ w0.heap.size := hb0.size
    have Hb := Lib.hid hb0
    clear hw0 hb0 hsz X0 X1
    refine wp_region_grown (by kernel_rfl) (by kernel_rfl) ?_
    repeat (go_big_quiet_step (first | (go_at_call 36; exact calls_grown (there_eq s p g.schema f.of_.field _ (Hs.out.below (Hb.out.trans ((grown_below _ _).mono hwl))) true (by rw [Hty.out]; rfl))) | (go_at_call 39; exact calls_grown (Hc.out _ (Hb.out.trans ((grown_below _ _).mono hwl))))))
    refine wpQuiet_nil ?_
    intro w1 hw0
    have hb1 : Below w0.heap.size w0 w1 := by obtain ⟨n, rfl⟩ := hw0; exact grown_below _ n
    clear hw0
    replace x0 := cell_kept hb1 x0 hl_x
    replace x1 := cell_kept hb1 x1 hl_x
    replace x2 := cell_kept hb1 x2 hl_x
    replace x3 := cell_kept hb1 x3 hl_x
    replace x4 := cell_kept hb1 x4 hl_x
    replace x5 := cell_kept hb1 x5 hl_x
    replace y0 := cell_kept hb1 y0 hl_y
    replace y1 := cell_kept hb1 y1 hl_y
    replace y2 := cell_kept hb1 y2 hl_y
    replace y3 := cell_kept hb1 y3 hl_y
    replace y4 := cell_kept hb1 y4 hl_y
    replace y5 := cell_kept hb1 y5 hl_y
    replace y6 := cell_kept hb1 y6 hl_y
    replace y7 := cell_kept hb1 y7 hl_y
    replace c0 := cell_kept hb1 c0 hl_c
    replace c1 := cell_kept hb1 c1 hl_c
    replace c2 := cell_kept hb1 c2 hl_c
    replace c3 := cell_kept hb1 c3 hl_c
    replace c4 := cell_kept hb1 c4 hl_c
    replace c5 := cell_kept hb1 c5 hl_c
    replace c6 := cell_kept hb1 c6 hl_c
    replace c7 := cell_kept hb1 c7 hl_c
    replace d_0 := cell_kept hb1 d_0 hl_d
    replace d_1 := cell_kept hb1 d_1 hl_d
    replace d_2 := cell_kept hb1 d_2 hl_d
    replace d_3 := cell_kept hb1 d_3 hl_d
    replace d_4 := cell_kept hb1 d_4 hl_d
    replace d_5 := cell_kept hb1 d_5 hl_d
    replace d_6 := cell_kept hb1 d_6 hl_d
    replace d_7 := cell_kept hb1 d_7 hl_d
    replace Hb := Lib.hid (Hb.out.trans (hb1.mono hwl))
    replace hl_x := Nat.lt_of_lt_of_le hl_x hb1.size
    replace hl_y := Nat.lt_of_lt_of_le hl_y hb1.size
    replace hl_c := Nat.lt_of_lt_of_le hl_c hb1.size
    replace hl_d := Nat.lt_of_lt_of_le hl_d hb1.size
    replace hwl := Nat.le_trans hwl hb1.size
    clear hb1
    go_wp2
    go_ret
    refine ⟨ret_bool ?_, Hb.out⟩
    rw [Hv.out, Hty.out, Hsi.out]; simp [Hm.out]
    try exact beq_dec ..
end Go.Proofs.Ytogenjbabgibbaa
