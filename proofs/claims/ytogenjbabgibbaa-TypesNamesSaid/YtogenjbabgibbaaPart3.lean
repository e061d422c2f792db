/- Part 3 of the walks and laws that these claims rest on. No condition. -/
import Derived.Maps.AppendAt
import Derived.Test.YtogenjbabgibbaaPart2
set_option linter.all false
set_option linter.unusedSimpArgs false
set_option linter.unusedVariables false
set_option linter.unnecessarySimpa false
namespace Go.Proofs.Ytogenjbabgibbaa
open Go.RowKit
def numB (t : TermD) : Bool := decide (0 ≤ t.n) && decide (t.n ≤ 1048576)
/-- is a term there for variables -/
def rtermB (s : SourceD) (fs : List FromD) (t : TermD) : Bool := if t.var = -1 then numB t else (termTy? s fs t fs.length).isSome
theorem there_eq (s : SourceD) (p : SrcAt) (i j : Int) (w : World) (hs : Src w s p) (r : Bool) (hr : (typeOf? s i j).isSome = r) :
    Calls Try.prog 36 #[s.val p, .int .i64 i, .int .i64 j] w fun e w' => e = .returned (.bool r) ∧ Below w.heap.size w w' := by
  subst hr
  exact there_any s p i j w hs
set_option maxRecDepth 20000 in
set_option maxHeartbeats 2000000 in
theorem rterm_any (s : SourceD) (p : SrcAt) (fs : List FromD) (fa : Option Addr) (fk : Nat) (t : TermD) (w : World) (hs : Src w s p) (hf : Sl 8 RFromD w fa fs) :
    Calls Try.prog 77 #[s.val p, .slice fa fs.length fk, t.val'] w fun e w' => e = .returned (.bool (rtermB s fs t)) ∧ Below w.heap.size w w' := by
  by_cases hm : t.var = -1
  case pos =>
    have Hm := Lib.hid hm
    clear hs hf
    go_enter Try.func77, Try.ntmps77
    go_wp2
    all_goals (try (exfalso; have := Hm.out; simp at *; omega))
    all_goals go_ret
    all_goals exact ⟨ret_bool (by simp [rtermB, Hm.out, numB]; try grind), by (repeat (first | exact Below.refl _ _ | refine Below.alloc ?_ (by first | (simp; done) | (simp; omega)) _ | refine Below.setCell ?_ (by first | (simp; done) | (simp; omega)) _ | refine below_drewN ?_ _))⟩
  have dm : (t.var == -1) = false := by simpa using hm
  by_cases h0 : 0 ≤ t.var
  case neg =>
    have d0 : decide ((0 : Int) ≤ t.var) = false := decide_eq_false h0
    have Hm := Lib.hid hm
    have H0 := Lib.hid h0
    clear hs hf hm h0
    go_enter Try.func77, Try.ntmps77
    go_wp2_with fail
    generalize hw0 : World.alloc _ _ = w0
    obtain ⟨X0, X1, hsz, hb0⟩ := blk2 hw0
    have x0 : w0.cell? ⟨w.heap.size, 0, none⟩ = some (.slice p.a0 s.issuers.length p.k0) := X0.cell 0
    have x1 : w0.cell? ⟨w.heap.size, 1, none⟩ = some (.slice p.a1 s.units.length p.k1) := X0.cell 1
    have x2 : w0.cell? ⟨w.heap.size, 2, none⟩ = some (.slice p.a2 s.schemas.length p.k2) := X0.cell 2
    have x3 : w0.cell? ⟨w.heap.size, 3, none⟩ = some (.slice p.a3 s.rules.length p.k3) := X0.cell 3
    have x4 : w0.cell? ⟨w.heap.size, 4, none⟩ = some (.slice p.a4 s.converts p.k4) := X0.cell 4
    have x5 : w0.cell? ⟨w.heap.size, 5, none⟩ = some (.slice p.a5 s.purposes.length p.k5) := X0.cell 5
    have hl_x : w.heap.size < w0.heap.size := by omega
    have y0 : w0.cell? ⟨w.heap.size + 1, 0, none⟩ = some (.string t.name) := X1.cell 0
    have y1 : w0.cell? ⟨w.heap.size + 1, 1, none⟩ = some (.string t.path) := X1.cell 1
    have y2 : w0.cell? ⟨w.heap.size + 1, 2, none⟩ = some (.int .i64 t.var) := X1.cell 2
    have y3 : w0.cell? ⟨w.heap.size + 1, 3, none⟩ = some (.int .i64 t.field) := X1.cell 3
    have y4 : w0.cell? ⟨w.heap.size + 1, 4, none⟩ = some (.int .i64 t.n) := X1.cell 4
    have hl_y : w.heap.size + 1 < w0.heap.size := by omega
    have hwl : w.heap.size ≤ w0.heap.size := hb0.size
    have Hb := Lib.hid hb0
    clear hw0 hb0 hsz X0 X1
    refine wp_region_grown (by kernel_rfl) (by kernel_rfl) ?_
    repeat (go_big_quiet_step (fail))
    refine wpQuiet_nil ?_
    intro w1 hw0
    have hb1 : Below w0.heap.size w0 w1 := by obtain ⟨n, rfl⟩ := hw0; exact grown_below _ n
    clear hw0
    replace x0 := cell_kept hb1 x0 hl_x
    replace x1 := cell_kept hb1 x1 hl_x
    replace x2 := cell_kept hb1 x2 hl_x
    replace x3 := cell_kept hb1 x3 hl_x
    replace x4 := cell_kept hb1 x4 hl_x
    replace x5 := cell_kept hb1 x5 hl_x
    replace y0 := cell_kept hb1 y0 hl_y
    replace y1 := cell_kept hb1 y1 hl_y
    replace y2 := cell_kept hb1 y2 hl_y
    replace y3 := cell_kept hb1 y3 hl_y
    replace y4 := cell_kept hb1 y4 hl_y
    replace Hb := Lib.hid (Hb.out.trans (hb1.mono hwl))
    replace hl_x := Nat.lt_of_lt_of_le hl_x hb1.size
    replace hl_y := Nat.lt_of_lt_of_le hl_y hb1.size
    replace hwl := Nat.le_trans hwl hb1.size
    clear hb1
    go_wp2
    go_ret
    exact ⟨ret_bool (by have := H0.out; simp [rtermB, Hm.out, termTy?]; intros; omega), Hb.out⟩
  have d0 : decide ((0 : Int) ≤ t.var) = true := decide_eq_true h0
  by_cases h1 : t.var < fs.length
  case neg =>
    have d1 : decide (t.var < (fs.length : Int)) = false := decide_eq_false h1
    have Hm := Lib.hid hm
    have H1 := Lib.hid h1
    clear hs hf hm h1
    go_enter Try.func77, Try.ntmps77
    go_wp2_with fail
    generalize hw0 : World.alloc _ _ = w0
    obtain ⟨X0, X1, hsz, hb0⟩ := blk2 hw0
    have x0 : w0.cell? ⟨w.heap.size, 0, none⟩ = some (.slice p.a0 s.issuers.length p.k0) := X0.cell 0
    have x1 : w0.cell? ⟨w.heap.size, 1, none⟩ = some (.slice p.a1 s.units.length p.k1) := X0.cell 1
    have x2 : w0.cell? ⟨w.heap.size, 2, none⟩ = some (.slice p.a2 s.schemas.length p.k2) := X0.cell 2
    have x3 : w0.cell? ⟨w.heap.size, 3, none⟩ = some (.slice p.a3 s.rules.length p.k3) := X0.cell 3
    have x4 : w0.cell? ⟨w.heap.size, 4, none⟩ = some (.slice p.a4 s.converts p.k4) := X0.cell 4
    have x5 : w0.cell? ⟨w.heap.size, 5, none⟩ = some (.slice p.a5 s.purposes.length p.k5) := X0.cell 5
    have hl_x : w.heap.size < w0.heap.size := by omega
    have y0 : w0.cell? ⟨w.heap.size + 1, 0, none⟩ = some (.string t.name) := X1.cell 0
    have y1 : w0.cell? ⟨w.heap.size + 1, 1, none⟩ = some (.string t.path) := X1.cell 1
    have y2 : w0.cell? ⟨w.heap.size + 1, 2, none⟩ = some (.int .i64 t.var) := X1.cell 2
    have y3 : w0.cell? ⟨w.heap.size + 1, 3, none⟩ = some (.int .i64 t.field) := X1.cell 3
    have y4 : w0.cell? ⟨w.heap.size + 1, 4, none⟩ = some (.int .i64 t.n) := X1.cell 4
    have hl_y : w.heap.size + 1 < w0.heap.size := by omega
    have hwl : w.heap.size ≤ w0.heap.size := hb0.size
    have Hb := Lib.hid hb0
    clear hw0 hb0 hsz X0 X1
    refine wp_region_grown (by kernel_rfl) (by kernel_rfl) ?_
    repeat (go_big_quiet_step (fail))
    refine wpQuiet_nil ?_
    intro w1 hw0
    have hb1 : Below w0.heap.size w0 w1 := by obtain ⟨n, rfl⟩ := hw0; exact grown_below _ n
    clear hw0
    replace x0 := cell_kept hb1 x0 hl_x
    replace x1 := cell_kept hb1 x1 hl_x
    replace x2 := cell_kept hb1 x2 hl_x
    replace x3 := cell_kept hb1 x3 hl_x
    replace x4 := cell_kept hb1 x4 hl_x
    replace x5 := cell_kept hb1 x5 hl_x
    replace y0 := cell_kept hb1 y0 hl_y
    replace y1 := cell_kept hb1 y1 hl_y
    replace y2 := cell_kept hb1 y2 hl_y
    replace y3 := cell_kept hb1 y3 hl_y
    replace y4 := cell_kept hb1 y4 hl_y
    replace Hb := Lib.hid (Hb.out.trans (hb1.mono hwl))
    replace hl_x := Nat.lt_of_lt_of_le hl_x hb1.size
    replace hl_y := Nat.lt_of_lt_of_le hl_y hb1.size
    replace hwl := Nat.le_trans hwl hb1.size
    clear hb1
    go_wp2
    go_ret
    exact ⟨ret_bool (by have := H1.out; simp [rtermB, Hm.out, termTy?]; intros; omega), Hb.out⟩
  have d1 : decide (t.var < (fs.length : Int)) = true := decide_eq_true h1
  have hlt : t.var.toNat < fs.length := by omega
  obtain ⟨b, off, e1, hl_c, _, c0, c1, c2, c3, c4, c5, c6, c7⟩ := FromD.out hf t.var.toNat hlt
  subst e1
  have hr : rtermB s fs t = (typeOf? s fs[t.var.toNat].schema t.field).isSome := by
    unfold rtermB termTy?
    rw [if_neg hm, if_pos ⟨h0, h1⟩, List.getElem?_eq_getElem hlt]
  generalize fs[t.var.toNat] = f at *
  have Hr := Lib.hid hr
  have Hs := Lib.hid hs
  clear hr hs hf hm
  go_enter Try.func77, Try.ntmps77
  go_wp2_with fail
  generalize hw0 : World.alloc _ _ = w0
  obtain ⟨X0, X1, hsz, hb0⟩ := blk2 hw0
  replace c0 := cell_kept hb0 c0 hl_c
  replace c1 := cell_kept hb0 c1 hl_c
  replace c2 := cell_kept hb0 c2 hl_c
  replace c3 := cell_kept hb0 c3 hl_c
  replace c4 := cell_kept hb0 c4 hl_c
  replace c5 := cell_kept hb0 c5 hl_c
  replace c6 := cell_kept hb0 c6 hl_c
  replace c7 := cell_kept hb0 c7 hl_c
  have hw_c := hl_c
  replace hl_c := Nat.lt_of_lt_of_le hl_c hb0.size
  have x0 : w0.cell? ⟨w.heap.size, 0, none⟩ = some (.slice p.a0 s.issuers.length p.k0) := X0.cell 0
  have x1 : w0.cell? ⟨w.heap.size, 1, none⟩ = some (.slice p.a1 s.units.length p.k1) := X0.cell 1
  have x2 : w0.cell? ⟨w.heap.size, 2, none⟩ = some (.slice p.a2 s.schemas.length p.k2) := X0.cell 2
  have x3 : w0.cell? ⟨w.heap.size, 3, none⟩ = some (.slice p.a3 s.rules.length p.k3) := X0.cell 3
  have x4 : w0.cell? ⟨w.heap.size, 4, none⟩ = some (.slice p.a4 s.converts p.k4) := X0.cell 4
  have x5 : w0.cell? ⟨w.heap.size, 5, none⟩ = some (.slice p.a5 s.purposes.length p.k5) := X0.cell 5
  have hl_x : w.heap.size < w0.heap.size := by omega
  have y0 : w0.cell? ⟨w.heap.size + 1, 0, none⟩ = some (.string t.name) := X1.cell 0
  have y1 : w0.cell? ⟨w.heap.size + 1, 1, none⟩ = some (.string t.path) := X1.cell 1
  have y2 : w0.cell? ⟨w.heap.size + 1, 2, none⟩ = some (.int .i64 t.var) := X1.cell 2
  have y3 : w0.cell? ⟨w.heap.size + 1, 3, none⟩ = some (.int .i64 t.field) := X1.cell 3
  have y4 : w0.cell? ⟨w.heap.size + 1, 4, none⟩ = some (.int .i64 t.n) := X1.cell 4
  have hl_y : w.heap.size + 1 < w0.heap.size := by omega
  have hwl : w.heap.size ≤ w0.heap.size := hb0.size
  have Hb := Lib.hid hb0
  clear hw0 hb0 hsz X0 X1
  refine wp_region_grown (by kernel_rfl) (by kernel_rfl) ?_
  repeat (go_big_quiet_step (first | (go_at_call 36; exact calls_grown (there_eq s p f.schema t.field _ (Hs.out.below (Hb.out.trans ((grown_below _ _).mono hwl))) _ rfl))))
  refine wpQuiet_nil ?_
  intro w1 hw0
  have hb1 : Below w0.heap.size w0 w1 := by obtain ⟨n, rfl⟩ := hw0; exact grown_below _ n
  clear hw0
  replace x0 := cell_kept hb1 x0 hl_x
  replace x1 := cell_kept hb1 x1 hl_x
  replace x2 := cell_kept hb1 x2 hl_x
  replace x3 := cell_kept hb1 x3 hl_x
  replace x4 := cell_kept hb1 x4 hl_x
  replace x5 := cell_kept hb1 x5 hl_x
  replace y0 := cell_kept hb1 y0 hl_y
  replace y1 := cell_kept hb1 y1 hl_y
  replace y2 := cell_kept hb1 y2 hl_y
  replace y3 := cell_kept hb1 y3 hl_y
  replace y4 := cell_kept hb1 y4 hl_y
  replace c0 := cell_kept hb1 c0 hl_c
  replace c1 := cell_kept hb1 c1 hl_c
  replace c2 := cell_kept hb1 c2 hl_c
  replace c3 := cell_kept hb1 c3 hl_c
  replace c4 := cell_kept hb1 c4 hl_c
  replace c5 := cell_kept hb1 c5 hl_c
  replace c6 := cell_kept hb1 c6 hl_c
  replace c7 := cell_kept hb1 c7 hl_c
  replace Hb := Lib.hid (Hb.out.trans (hb1.mono hwl))
  replace hl_x := Nat.lt_of_lt_of_le hl_x hb1.size
  replace hl_y := Nat.lt_of_lt_of_le hl_y hb1.size
  replace hl_c := Nat.lt_of_lt_of_le hl_c hb1.size
  replace hwl := Nat.le_trans hwl hb1.size
  clear hb1
  go_wp2
  go_ret
  exact ⟨ret_bool Hr.out.symm, Hb.out⟩
end Go.Proofs.Ytogenjbabgibbaa
namespace Go.Proofs.Ytogenjbabgibbaa
open Go.RowKit
theorem termTy_short {s : SourceD} (h : Short s) {fs : List FromD} {t : TermD} {n : Int} {y : TyD} (hy : termTy? s fs t n = some y) : y.names.length ≤ 100000 := by
  unfold termTy? at hy
  split at hy
  · split at hy
    · exact h _ _ _ hy
    · cases hy
  · cases hy
def inTy (fd y : TyD) : Bool := decide (y.kind = fd.kind) && decide (y.unit = fd.unit) && decide (y.names = fd.names) && (decide (fd.lo ≤ y.lo) && decide (y.lo ≤ fd.hi) && decide (fd.lo ≤ y.hi) && decide (y.hi ≤ fd.hi))
/-- does a term give values of a type -/
def setB (s : SourceD) (fs : List FromD) (fd : TyD) (t : TermD) : Bool := if isNumB t then decide (fd.lo ≤ t.n) && decide (t.n ≤ fd.hi) else match termTy? s fs t fs.length with | some y => inTy fd y | none => false
set_option maxRecDepth 20000 in
set_option maxHeartbeats 4000000 in
theorem setOK_any (s : SourceD) (p : SrcAt) (r : RuleD) (q : RuleAt) (fd : TyD) (fa : Option Addr) (fk : Nat) (t : TermD) (wb : World) (hs : Src wb s p) (hr : Rul wb r q) (hf : Sl 1 RStr wb fa fd.names) (w : World) (hbb : Below wb.heap.size wb w) (hsh : Short s) :
    Calls Try.prog 55 #[rcVal s p r q, fd.val fa fk, t.val] w fun e w' => e = .returned (.bool (setB s r.froms fd t)) ∧ Below w.heap.size w w' := by
  have Hs := Lib.hid hs
  have Hr := Lib.hid hr
  have Hf := Lib.hid hf
  have Hbb := Lib.hid hbb
  clear hs hr hf hbb
  cases hn : isNumB t with
  | true =>
    go_enter Try.func55, Try.ntmps55
    go_wp2_with fail
    generalize hw0 : World.alloc _ _ = w0
    obtain ⟨X0, X1, X2, hsz, hb0⟩ := blk3 hw0
    have x0 : w0.cell? ⟨w.heap.size, 0, none⟩ = some (.slice p.a0 s.issuers.length p.k0) := X0.cell 0
    have x1 : w0.cell? ⟨w.heap.size, 1, none⟩ = some (.slice p.a1 s.units.length p.k1) := X0.cell 1
    have x2 : w0.cell? ⟨w.heap.size, 2, none⟩ = some (.slice p.a2 s.schemas.length p.k2) := X0.cell 2
    have x3 : w0.cell? ⟨w.heap.size, 3, none⟩ = some (.slice p.a3 s.rules.length p.k3) := X0.cell 3
    have x4 : w0.cell? ⟨w.heap.size, 4, none⟩ = some (.slice p.a4 s.converts p.k4) := X0.cell 4
    have x5 : w0.cell? ⟨w.heap.size, 5, none⟩ = some (.slice p.a5 s.purposes.length p.k5) := X0.cell 5
    have x6 : w0.cell? ⟨w.heap.size, 6, none⟩ = some (.string r.head) := X0.cell 6
    have x7 : w0.cell? ⟨w.heap.size, 7, none⟩ = some (.int .i64 r.schema) := X0.cell 7
    have x8 : w0.cell? ⟨w.heap.size, 8, none⟩ = some (.slice q.a2 r.froms.length q.k2) := X0.cell 8
    have x9 : w0.cell? ⟨w.heap.size, 9, none⟩ = some (.slice q.a3 r.where_.length q.k3) := X0.cell 9
    have x10 : w0.cell? ⟨w.heap.size, 10, none⟩ = some (.slice q.a4 r.sets.length q.k4) := X0.cell 10
    have hl_x : w.heap.size < w0.heap.size := by omega
    have y0 : w0.cell? ⟨w.heap.size + 1, 0, none⟩ = some (.int .i64 fd.kind) := X1.cell 0
    have y1 : w0.cell? ⟨w.heap.size + 1, 1, none⟩ = some (.int .i64 fd.lo) := X1.cell 1
    have y2 : w0.cell? ⟨w.heap.size + 1, 2, none⟩ = some (.int .i64 fd.hi) := X1.cell 2
    have y3 : w0.cell? ⟨w.heap.size + 1, 3, none⟩ = some (.string fd.of_) := X1.cell 3
    have y4 : w0.cell? ⟨w.heap.size + 1, 4, none⟩ = some (.int .i64 fd.unit) := X1.cell 4
    have y5 : w0.cell? ⟨w.heap.size + 1, 5, none⟩ = some (.slice fa fd.names.length fk) := X1.cell 5
    have hl_y : w.heap.size + 1 < w0.heap.size := by omega
    have z0 : w0.cell? ⟨w.heap.size + 1 + 1, 0, none⟩ = some (.string t.name) := X2.cell 0
    have z1 : w0.cell? ⟨w.heap.size + 1 + 1, 1, none⟩ = some (.string t.path) := X2.cell 1
    have z2 : w0.cell? ⟨w.heap.size + 1 + 1, 2, none⟩ = some (.int .i64 t.var) := X2.cell 2
    have z3 : w0.cell? ⟨w.heap.size + 1 + 1, 3, none⟩ = some (.int .i64 t.field) := X2.cell 3
    have z4 : w0.cell? ⟨w.heap.size + 1 + 1, 4, none⟩ = some (.int .i64 t.n) := X2.cell 4
    have hl_z : w.heap.size + 1 + 1 < w0.heap.size := by omega
    have hwl : w.heap.size ≤ w0.heap.size := hb0.size
    have Hb := Lib.hid hb0
    clear hw0 hb0 hsz X0 X1 X2
    refine (isNum_any t _).mono ?_
    rintro e w1 ⟨rfl, hb1⟩
    rw [hn]
    replace x0 := cell_kept hb1 x0 hl_x
    replace x1 := cell_kept hb1 x1 hl_x
    replace x2 := cell_kept hb1 x2 hl_x
    replace x3 := cell_kept hb1 x3 hl_x
    replace x4 := cell_kept hb1 x4 hl_x
    replace x5 := cell_kept hb1 x5 hl_x
    replace x6 := cell_kept hb1 x6 hl_x
    replace x7 := cell_kept hb1 x7 hl_x
    replace x8 := cell_kept hb1 x8 hl_x
    replace x9 := cell_kept hb1 x9 hl_x
    replace x10 := cell_kept hb1 x10 hl_x
    replace y0 := cell_kept hb1 y0 hl_y
    replace y1 := cell_kept hb1 y1 hl_y
    replace y2 := cell_kept hb1 y2 hl_y
    replace y3 := cell_kept hb1 y3 hl_y
    replace y4 := cell_kept hb1 y4 hl_y
    replace y5 := cell_kept hb1 y5 hl_y
    replace z0 := cell_kept hb1 z0 hl_z
    replace z1 := cell_kept hb1 z1 hl_z
    replace z2 := cell_kept hb1 z2 hl_z
    replace z3 := cell_kept hb1 z3 hl_z
    replace z4 := cell_kept hb1 z4 hl_z
    replace Hb := Lib.hid (Hb.out.trans (hb1.mono hwl))
    replace hl_x := Nat.lt_of_lt_of_le hl_x hb1.size
    replace hl_y := Nat.lt_of_lt_of_le hl_y hb1.size
    replace hl_z := Nat.lt_of_lt_of_le hl_z hb1.size
    replace hwl := Nat.le_trans hwl hb1.size
    clear hb1
    go_wp2
    all_goals go_ret
    all_goals exact ⟨ret_bool (by unfold setB; rw [if_pos hn]; symm; simp; omega), Hb.out⟩
  | false =>
    go_enter Try.func55, Try.ntmps55
    go_wp2_with fail
    generalize hw0 : World.alloc _ _ = w0
    obtain ⟨X0, X1, X2, hsz, hb0⟩ := blk3 hw0
    have x0 : w0.cell? ⟨w.heap.size, 0, none⟩ = some (.slice p.a0 s.issuers.length p.k0) := X0.cell 0
    have x1 : w0.cell? ⟨w.heap.size, 1, none⟩ = some (.slice p.a1 s.units.length p.k1) := X0.cell 1
    have x2 : w0.cell? ⟨w.heap.size, 2, none⟩ = some (.slice p.a2 s.schemas.length p.k2) := X0.cell 2
    have x3 : w0.cell? ⟨w.heap.size, 3, none⟩ = some (.slice p.a3 s.rules.length p.k3) := X0.cell 3
    have x4 : w0.cell? ⟨w.heap.size, 4, none⟩ = some (.slice p.a4 s.converts p.k4) := X0.cell 4
    have x5 : w0.cell? ⟨w.heap.size, 5, none⟩ = some (.slice p.a5 s.purposes.length p.k5) := X0.cell 5
    have x6 : w0.cell? ⟨w.heap.size, 6, none⟩ = some (.string r.head) := X0.cell 6
    have x7 : w0.cell? ⟨w.heap.size, 7, none⟩ = some (.int .i64 r.schema) := X0.cell 7
    have x8 : w0.cell? ⟨w.heap.size, 8, none⟩ = some (.slice q.a2 r.froms.length q.k2) := X0.cell 8
    have x9 : w0.cell? ⟨w.heap.size, 9, none⟩ = some (.slice q.a3 r.where_.length q.k3) := X0.cell 9
    have x10 : w0.cell? ⟨w.heap.size, 10, none⟩ = some (.slice q.a4 r.sets.length q.k4) := X0.cell 10
    have hl_x : w.heap.size < w0.heap.size := by omega
    have y0 : w0.cell? ⟨w.heap.size + 1, 0, none⟩ = some (.int .i64 fd.kind) := X1.cell 0
    have y1 : w0.cell? ⟨w.heap.size + 1, 1, none⟩ = some (.int .i64 fd.lo) := X1.cell 1
    have y2 : w0.cell? ⟨w.heap.size + 1, 2, none⟩ = some (.int .i64 fd.hi) := X1.cell 2
    have y3 : w0.cell? ⟨w.heap.size + 1, 3, none⟩ = some (.string fd.of_) := X1.cell 3
    have y4 : w0.cell? ⟨w.heap.size + 1, 4, none⟩ = some (.int .i64 fd.unit) := X1.cell 4
    have y5 : w0.cell? ⟨w.heap.size + 1, 5, none⟩ = some (.slice fa fd.names.length fk) := X1.cell 5
    have hl_y : w.heap.size + 1 < w0.heap.size := by omega
    have z0 : w0.cell? ⟨w.heap.size + 1 + 1, 0, none⟩ = some (.string t.name) := X2.cell 0
    have z1 : w0.cell? ⟨w.heap.size + 1 + 1, 1, none⟩ = some (.string t.path) := X2.cell 1
    have z2 : w0.cell? ⟨w.heap.size + 1 + 1, 2, none⟩ = some (.int .i64 t.var) := X2.cell 2
    have z3 : w0.cell? ⟨w.heap.size + 1 + 1, 3, none⟩ = some (.int .i64 t.field) := X2.cell 3
    have z4 : w0.cell? ⟨w.heap.size + 1 + 1, 4, none⟩ = some (.int .i64 t.n) := X2.cell 4
    have hl_z : w.heap.size + 1 + 1 < w0.heap.size := by omega
    have hwl : w.heap.size ≤ w0.heap.size := hb0.size
    have Hb := Lib.hid hb0
    clear hw0 hb0 hsz X0 X1 X2
    refine (isNum_any t _).mono ?_
    rintro e w1 ⟨rfl, hb1⟩
    rw [hn]
    replace x0 := cell_kept hb1 x0 hl_x
    replace x1 := cell_kept hb1 x1 hl_x
    replace x2 := cell_kept hb1 x2 hl_x
    replace x3 := cell_kept hb1 x3 hl_x
    replace x4 := cell_kept hb1 x4 hl_x
    replace x5 := cell_kept hb1 x5 hl_x
    replace x6 := cell_kept hb1 x6 hl_x
    replace x7 := cell_kept hb1 x7 hl_x
    replace x8 := cell_kept hb1 x8 hl_x
    replace x9 := cell_kept hb1 x9 hl_x
    replace x10 := cell_kept hb1 x10 hl_x
    replace y0 := cell_kept hb1 y0 hl_y
    replace y1 := cell_kept hb1 y1 hl_y
    replace y2 := cell_kept hb1 y2 hl_y
    replace y3 := cell_kept hb1 y3 hl_y
    replace y4 := cell_kept hb1 y4 hl_y
    replace y5 := cell_kept hb1 y5 hl_y
    replace z0 := cell_kept hb1 z0 hl_z
    replace z1 := cell_kept hb1 z1 hl_z
    replace z2 := cell_kept hb1 z2 hl_z
    replace z3 := cell_kept hb1 z3 hl_z
    replace z4 := cell_kept hb1 z4 hl_z
    replace Hb := Lib.hid (Hb.out.trans (hb1.mono hwl))
    replace hl_x := Nat.lt_of_lt_of_le hl_x hb1.size
    replace hl_y := Nat.lt_of_lt_of_le hl_y hb1.size
    replace hl_z := Nat.lt_of_lt_of_le hl_z hb1.size
    replace hwl := Nat.le_trans hwl hb1.size
    clear hb1
    go_wp2_with fail
    refine (termType_any s p r q t r.froms.length wb Hs.out Hr.out _ (Hbb.out.trans (Hb.out.mono Hbb.out.size)) (Int.le_refl _)).mono ?_
    cases htt : termTy? s r.froms t r.froms.length with
    | none =>
      rintro e w2 ⟨⟨ty, an, kn, rfl⟩, hb1⟩
      replace x0 := cell_kept hb1 x0 hl_x
      replace x1 := cell_kept hb1 x1 hl_x
      replace x2 := cell_kept hb1 x2 hl_x
      replace x3 := cell_kept hb1 x3 hl_x
      replace x4 := cell_kept hb1 x4 hl_x
      replace x5 := cell_kept hb1 x5 hl_x
      replace x6 := cell_kept hb1 x6 hl_x
      replace x7 := cell_kept hb1 x7 hl_x
      replace x8 := cell_kept hb1 x8 hl_x
      replace x9 := cell_kept hb1 x9 hl_x
      replace x10 := cell_kept hb1 x10 hl_x
      replace y0 := cell_kept hb1 y0 hl_y
      replace y1 := cell_kept hb1 y1 hl_y
      replace y2 := cell_kept hb1 y2 hl_y
      replace y3 := cell_kept hb1 y3 hl_y
      replace y4 := cell_kept hb1 y4 hl_y
      replace y5 := cell_kept hb1 y5 hl_y
      replace z0 := cell_kept hb1 z0 hl_z
      replace z1 := cell_kept hb1 z1 hl_z
      replace z2 := cell_kept hb1 z2 hl_z
      replace z3 := cell_kept hb1 z3 hl_z
      replace z4 := cell_kept hb1 z4 hl_z
      replace Hb := Lib.hid (Hb.out.trans (hb1.mono hwl))
      replace hl_x := Nat.lt_of_lt_of_le hl_x hb1.size
      replace hl_y := Nat.lt_of_lt_of_le hl_y hb1.size
      replace hl_z := Nat.lt_of_lt_of_le hl_z hb1.size
      replace hwl := Nat.le_trans hwl hb1.size
      clear hb1
      go_wp2
      go_ret
      exact ⟨ret_bool (by unfold setB; rw [if_neg (by simp [hn]), htt]), Hb.out.alloc hwl _⟩
    | some y =>
      have hl := termTy_short hsh htt
      rintro e w2 ⟨⟨an, kn, rfl, hny⟩, hb1⟩
      have Hn := Lib.hid hny
      have Ht := Lib.hid htt
      clear hny htt
      replace x0 := cell_kept hb1 x0 hl_x
      replace x1 := cell_kept hb1 x1 hl_x
      replace x2 := cell_kept hb1 x2 hl_x
      replace x3 := cell_kept hb1 x3 hl_x
      replace x4 := cell_kept hb1 x4 hl_x
      replace x5 := cell_kept hb1 x5 hl_x
      replace x6 := cell_kept hb1 x6 hl_x
      replace x7 := cell_kept hb1 x7 hl_x
      replace x8 := cell_kept hb1 x8 hl_x
      replace x9 := cell_kept hb1 x9 hl_x
      replace x10 := cell_kept hb1 x10 hl_x
      replace y0 := cell_kept hb1 y0 hl_y
      replace y1 := cell_kept hb1 y1 hl_y
      replace y2 := cell_kept hb1 y2 hl_y
      replace y3 := cell_kept hb1 y3 hl_y
      replace y4 := cell_kept hb1 y4 hl_y
      replace y5 := cell_kept hb1 y5 hl_y
      replace z0 := cell_kept hb1 z0 hl_z
      replace z1 := cell_kept hb1 z1 hl_z
      replace z2 := cell_kept hb1 z2 hl_z
      replace z3 := cell_kept hb1 z3 hl_z
      replace z4 := cell_kept hb1 z4 hl_z
      replace Hb := Lib.hid (Hb.out.trans (hb1.mono hwl))
      replace hl_x := Nat.lt_of_lt_of_le hl_x hb1.size
      replace hl_y := Nat.lt_of_lt_of_le hl_y hb1.size
      replace hl_z := Nat.lt_of_lt_of_le hl_z hb1.size
      replace hwl := Nat.le_trans hwl hb1.size
      clear hb1
      by_cases hku : y.kind = fd.kind ∧ y.unit = fd.unit
      case neg =>
        have Hku := Lib.hid hku
        clear hku
        go_wp2_with fail
        all_goals (try (exfalso; have := Hku.out; simp at *; omega))
        all_goals go_ret
        all_goals (refine ⟨ret_bool ?_, Hb.out.alloc hwl _⟩)
        all_goals (unfold setB; rw [if_neg (by simp [hn]), Ht.out]; have := Hku.out; simp [inTy]; intros; omega)
      obtain ⟨h1, h2⟩ := hku
      have d1 : (y.kind == fd.kind) = true := by simpa using h1
      have d2 : (y.unit == fd.unit) = true := by simpa using h2
      have H1 := Lib.hid h1
      have H2 := Lib.hid h2
      clear h1 h2
      go_wp2_with fail
      generalize hw0 : World.alloc _ _ = w3
      obtain ⟨X0, hsz, hb1⟩ := blk1 hw0
      have v0 : w3.cell? ⟨w2.heap.size, 0, none⟩ = some (.int .i64 y.kind) := X0.cell 0
      have v1 : w3.cell? ⟨w2.heap.size, 1, none⟩ = some (.int .i64 y.lo) := X0.cell 1
      have v2 : w3.cell? ⟨w2.heap.size, 2, none⟩ = some (.int .i64 y.hi) := X0.cell 2
      have v3 : w3.cell? ⟨w2.heap.size, 3, none⟩ = some (.string y.of_) := X0.cell 3
      have v4 : w3.cell? ⟨w2.heap.size, 4, none⟩ = some (.int .i64 y.unit) := X0.cell 4
      have v5 : w3.cell? ⟨w2.heap.size, 5, none⟩ = some (.slice an y.names.length kn) := X0.cell 5
      have hl_v : w2.heap.size < w3.heap.size := by omega
      replace x0 := cell_kept hb1 x0 hl_x
      replace x1 := cell_kept hb1 x1 hl_x
      replace x2 := cell_kept hb1 x2 hl_x
      replace x3 := cell_kept hb1 x3 hl_x
      replace x4 := cell_kept hb1 x4 hl_x
      replace x5 := cell_kept hb1 x5 hl_x
      replace x6 := cell_kept hb1 x6 hl_x
      replace x7 := cell_kept hb1 x7 hl_x
      replace x8 := cell_kept hb1 x8 hl_x
      replace x9 := cell_kept hb1 x9 hl_x
      replace x10 := cell_kept hb1 x10 hl_x
      replace y0 := cell_kept hb1 y0 hl_y
      replace y1 := cell_kept hb1 y1 hl_y
      replace y2 := cell_kept hb1 y2 hl_y
      replace y3 := cell_kept hb1 y3 hl_y
      replace y4 := cell_kept hb1 y4 hl_y
      replace y5 := cell_kept hb1 y5 hl_y
      replace z0 := cell_kept hb1 z0 hl_z
      replace z1 := cell_kept hb1 z1 hl_z
      replace z2 := cell_kept hb1 z2 hl_z
      replace z3 := cell_kept hb1 z3 hl_z
      replace z4 := cell_kept hb1 z4 hl_z
      replace Hb := Lib.hid (Hb.out.trans (hb1.mono hwl))
      replace hl_x := Nat.lt_of_lt_of_le hl_x hb1.size
      replace hl_y := Nat.lt_of_lt_of_le hl_y hb1.size
      replace hl_z := Nat.lt_of_lt_of_le hl_z hb1.size
      replace hwl := Nat.le_trans hwl hb1.size
      clear hb1
      clear hw0 hsz X0
      have Hbb3 := Lib.hid (Hbb.out.trans (Hb.out.mono Hbb.out.size))
      refine (equal_any an fa kn fk y.names fd.names _ (Hn.out.below RStr.stab Hbb3.out) (Hf.out.below RStr.stab Hbb3.out) hl).mono ?_
      rintro e w4 ⟨rfl, hb1⟩
      replace x0 := cell_kept hb1 x0 hl_x
      replace x1 := cell_kept hb1 x1 hl_x
      replace x2 := cell_kept hb1 x2 hl_x
      replace x3 := cell_kept hb1 x3 hl_x
      replace x4 := cell_kept hb1 x4 hl_x
      replace x5 := cell_kept hb1 x5 hl_x
      replace x6 := cell_kept hb1 x6 hl_x
      replace x7 := cell_kept hb1 x7 hl_x
      replace x8 := cell_kept hb1 x8 hl_x
      replace x9 := cell_kept hb1 x9 hl_x
      replace x10 := cell_kept hb1 x10 hl_x
      replace y0 := cell_kept hb1 y0 hl_y
      replace y1 := cell_kept hb1 y1 hl_y
      replace y2 := cell_kept hb1 y2 hl_y
      replace y3 := cell_kept hb1 y3 hl_y
      replace y4 := cell_kept hb1 y4 hl_y
      replace y5 := cell_kept hb1 y5 hl_y
      replace z0 := cell_kept hb1 z0 hl_z
      replace z1 := cell_kept hb1 z1 hl_z
      replace z2 := cell_kept hb1 z2 hl_z
      replace z3 := cell_kept hb1 z3 hl_z
      replace z4 := cell_kept hb1 z4 hl_z
      replace v0 := cell_kept hb1 v0 hl_v
      replace v1 := cell_kept hb1 v1 hl_v
      replace v2 := cell_kept hb1 v2 hl_v
      replace v3 := cell_kept hb1 v3 hl_v
      replace v4 := cell_kept hb1 v4 hl_v
      replace v5 := cell_kept hb1 v5 hl_v
      replace Hb := Lib.hid (Hb.out.trans (hb1.mono hwl))
      replace hl_x := Nat.lt_of_lt_of_le hl_x hb1.size
      replace hl_y := Nat.lt_of_lt_of_le hl_y hb1.size
      replace hl_z := Nat.lt_of_lt_of_le hl_z hb1.size
      replace hl_v := Nat.lt_of_lt_of_le hl_v hb1.size
      replace hwl := Nat.le_trans hwl hb1.size
      clear hb1
      by_cases hnm : y.names = fd.names
      · rw [decide_eq_true hnm]
        have Hnm := Lib.hid hnm
        clear hnm
        go_wp2
        all_goals go_ret
        all_goals (refine ⟨ret_bool ?_, Hb.out⟩)
        all_goals (unfold setB; rw [if_neg (by simp [hn]), Ht.out]; simp [inTy, H1.out, H2.out, Hnm.out]; try omega)
      · rw [decide_eq_false hnm]
        go_wp2
        go_ret
        refine ⟨ret_bool ?_, Hb.out⟩
        unfold setB; rw [if_neg (by simp [hn]), Ht.out]; simp [inTy, hnm]
end Go.Proofs.Ytogenjbabgibbaa
namespace Go.Proofs.Ytogenjbabgibbaa
open Go.RowKit
/-- the reference's set -/
def rinTy (fd y : TyD) : Bool := decide (y.kind = fd.kind) && decide (y.unit = fd.unit) && decide (y.names = fd.names) && (decide (fd.lo ≤ y.lo) && decide (y.hi ≤ fd.hi))
def rsetB (s : SourceD) (fs : List FromD) (fd : TyD) (t : TermD) : Bool := if t.var = -1 then numB t && (decide (fd.lo ≤ t.n) && decide (t.n ≤ fd.hi)) else match termTy? s fs t fs.length with | some y => rinTy fd y | none => false
set_option maxRecDepth 20000 in
set_option maxHeartbeats 4000000 in
theorem rset_any (s : SourceD) (p : SrcAt) (fs : List FromD) (fa : Option Addr) (fk : Nat) (t : TermD) (fd : TyD) (ga : Option Addr) (gk : Nat) (w : World) (hs : Src w s p) (hf : Sl 8 RFromD w fa fs) (hg : Sl 1 RStr w ga fd.names) (hsh : Short s) :
    Calls Try.prog 66 #[s.val p, .slice fa fs.length fk, t.val, fd.val ga gk] w fun e w' => e = .returned (.bool (rsetB s fs fd t)) ∧ Below w.heap.size w w' := by
  have Hs := Lib.hid hs
  have Hg := Lib.hid hg
  have Hf := Lib.hid hf
  clear hs hg
  cases htb : rtermB s fs t with
  | false =>
    have Htb := Lib.hid htb
    clear htb hf
    go_enter Try.func66, Try.ntmps66
    go_wp2_with fail
    generalize hw0 : World.alloc _ _ = w0
    obtain ⟨X0, X1, X2, hsz, hb0⟩ := blk3 hw0
    have x0 : w0.cell? ⟨w.heap.size, 0, none⟩ = some (.slice p.a0 s.issuers.length p.k0) := X0.cell 0
    have x1 : w0.cell? ⟨w.heap.size, 1, none⟩ = some (.slice p.a1 s.units.length p.k1) := X0.cell 1
    have x2 : w0.cell? ⟨w.heap.size, 2, none⟩ = some (.slice p.a2 s.schemas.length p.k2) := X0.cell 2
    have x3 : w0.cell? ⟨w.heap.size, 3, none⟩ = some (.slice p.a3 s.rules.length p.k3) := X0.cell 3
    have x4 : w0.cell? ⟨w.heap.size, 4, none⟩ = some (.slice p.a4 s.converts p.k4) := X0.cell 4
    have x5 : w0.cell? ⟨w.heap.size, 5, none⟩ = some (.slice p.a5 s.purposes.length p.k5) := X0.cell 5
    have hl_x : w.heap.size < w0.heap.size := by omega
    have z0 : w0.cell? ⟨w.heap.size + 1, 0, none⟩ = some (.string t.name) := X1.cell 0
    have z1 : w0.cell? ⟨w.heap.size + 1, 1, none⟩ = some (.string t.path) := X1.cell 1
    have z2 : w0.cell? ⟨w.heap.size + 1, 2, none⟩ = some (.int .i64 t.var) := X1.cell 2
    have z3 : w0.cell? ⟨w.heap.size + 1, 3, none⟩ = some (.int .i64 t.field) := X1.cell 3
    have z4 : w0.cell? ⟨w.heap.size + 1, 4, none⟩ = some (.int .i64 t.n) := X1.cell 4
    have hl_z : w.heap.size + 1 < w0.heap.size := by omega
    have y0 : w0.cell? ⟨w.heap.size + 1 + 1, 0, none⟩ = some (.int .i64 fd.kind) := X2.cell 0
    have y1 : w0.cell? ⟨w.heap.size + 1 + 1, 1, none⟩ = some (.int .i64 fd.lo) := X2.cell 1
    have y2 : w0.cell? ⟨w.heap.size + 1 + 1, 2, none⟩ = some (.int .i64 fd.hi) := X2.cell 2
    have y3 : w0.cell? ⟨w.heap.size + 1 + 1, 3, none⟩ = some (.string fd.of_) := X2.cell 3
    have y4 : w0.cell? ⟨w.heap.size + 1 + 1, 4, none⟩ = some (.int .i64 fd.unit) := X2.cell 4
    have y5 : w0.cell? ⟨w.heap.size + 1 + 1, 5, none⟩ = some (.slice ga fd.names.length gk) := X2.cell 5
    have hl_y : w.heap.size + 1 + 1 < w0.heap.size := by omega
    have hwl : w.heap.size ≤ w0.heap.size := hb0.size
    have Hb := Lib.hid hb0
    clear hw0 hb0 hsz X0 X1 X2
    refine (rterm_any s p fs fa fk t _ (Hs.out.below Hb.out) (Hf.out.below RFromD.stab Hb.out)).mono ?_
    rintro e w1 ⟨rfl, hb1⟩
    rw [Htb.out]
    replace x0 := cell_kept hb1 x0 hl_x
    replace x1 := cell_kept hb1 x1 hl_x
    replace x2 := cell_kept hb1 x2 hl_x
    replace x3 := cell_kept hb1 x3 hl_x
    replace x4 := cell_kept hb1 x4 hl_x
    replace x5 := cell_kept hb1 x5 hl_x
    replace z0 := cell_kept hb1 z0 hl_z
    replace z1 := cell_kept hb1 z1 hl_z
    replace z2 := cell_kept hb1 z2 hl_z
    replace z3 := cell_kept hb1 z3 hl_z
    replace z4 := cell_kept hb1 z4 hl_z
    replace y0 := cell_kept hb1 y0 hl_y
    replace y1 := cell_kept hb1 y1 hl_y
    replace y2 := cell_kept hb1 y2 hl_y
    replace y3 := cell_kept hb1 y3 hl_y
    replace y4 := cell_kept hb1 y4 hl_y
    replace y5 := cell_kept hb1 y5 hl_y
    replace Hb := Lib.hid (Hb.out.trans (hb1.mono hwl))
    replace hl_x := Nat.lt_of_lt_of_le hl_x hb1.size
    replace hl_z := Nat.lt_of_lt_of_le hl_z hb1.size
    replace hl_y := Nat.lt_of_lt_of_le hl_y hb1.size
    replace hwl := Nat.le_trans hwl hb1.size
    clear hb1
    go_wp2
    go_ret
    refine ⟨ret_bool ?_, Hb.out⟩
    have := Htb.out
    unfold rtermB at this
    unfold rsetB
    by_cases hm : t.var = -1
    · rw [if_pos hm] at this ⊢; simp [this]
    · rw [if_neg hm] at this ⊢
      cases h : termTy? s fs t fs.length with
      | none => rfl
      | some y => rw [h] at this; cases this
  | true =>
    have Htb := Lib.hid htb
    by_cases hm : t.var = -1
    case pos =>
      clear htb hf
      have Hm := Lib.hid hm
      clear hm
      go_enter Try.func66, Try.ntmps66
      go_wp2_with fail
      generalize hw0 : World.alloc _ _ = w0
      obtain ⟨X0, X1, X2, hsz, hb0⟩ := blk3 hw0
      have x0 : w0.cell? ⟨w.heap.size, 0, none⟩ = some (.slice p.a0 s.issuers.length p.k0) := X0.cell 0
      have x1 : w0.cell? ⟨w.heap.size, 1, none⟩ = some (.slice p.a1 s.units.length p.k1) := X0.cell 1
      have x2 : w0.cell? ⟨w.heap.size, 2, none⟩ = some (.slice p.a2 s.schemas.length p.k2) := X0.cell 2
      have x3 : w0.cell? ⟨w.heap.size, 3, none⟩ = some (.slice p.a3 s.rules.length p.k3) := X0.cell 3
      have x4 : w0.cell? ⟨w.heap.size, 4, none⟩ = some (.slice p.a4 s.converts p.k4) := X0.cell 4
      have x5 : w0.cell? ⟨w.heap.size, 5, none⟩ = some (.slice p.a5 s.purposes.length p.k5) := X0.cell 5
      have hl_x : w.heap.size < w0.heap.size := by omega
      have z0 : w0.cell? ⟨w.heap.size + 1, 0, none⟩ = some (.string t.name) := X1.cell 0
      have z1 : w0.cell? ⟨w.heap.size + 1, 1, none⟩ = some (.string t.path) := X1.cell 1
      have z2 : w0.cell? ⟨w.heap.size + 1, 2, none⟩ = some (.int .i64 t.var) := X1.cell 2
      have z3 : w0.cell? ⟨w.heap.size + 1, 3, none⟩ = some (.int .i64 t.field) := X1.cell 3
      have z4 : w0.cell? ⟨w.heap.size + 1, 4, none⟩ = some (.int .i64 t.n) := X1.cell 4
      have hl_z : w.heap.size + 1 < w0.heap.size := by omega
      have y0 : w0.cell? ⟨w.heap.size + 1 + 1, 0, none⟩ = some (.int .i64 fd.kind) := X2.cell 0
      have y1 : w0.cell? ⟨w.heap.size + 1 + 1, 1, none⟩ = some (.int .i64 fd.lo) := X2.cell 1
      have y2 : w0.cell? ⟨w.heap.size + 1 + 1, 2, none⟩ = some (.int .i64 fd.hi) := X2.cell 2
      have y3 : w0.cell? ⟨w.heap.size + 1 + 1, 3, none⟩ = some (.string fd.of_) := X2.cell 3
      have y4 : w0.cell? ⟨w.heap.size + 1 + 1, 4, none⟩ = some (.int .i64 fd.unit) := X2.cell 4
      have y5 : w0.cell? ⟨w.heap.size + 1 + 1, 5, none⟩ = some (.slice ga fd.names.length gk) := X2.cell 5
      have hl_y : w.heap.size + 1 + 1 < w0.heap.size := by omega
      have hwl : w.heap.size ≤ w0.heap.size := hb0.size
      have Hb := Lib.hid hb0
      clear hw0 hb0 hsz X0 X1 X2
      refine (rterm_any s p fs fa fk t _ (Hs.out.below Hb.out) (Hf.out.below RFromD.stab Hb.out)).mono ?_
      rintro e w1 ⟨rfl, hb1⟩
      rw [Htb.out]
      replace x0 := cell_kept hb1 x0 hl_x
      replace x1 := cell_kept hb1 x1 hl_x
      replace x2 := cell_kept hb1 x2 hl_x
      replace x3 := cell_kept hb1 x3 hl_x
      replace x4 := cell_kept hb1 x4 hl_x
      replace x5 := cell_kept hb1 x5 hl_x
      replace z0 := cell_kept hb1 z0 hl_z
      replace z1 := cell_kept hb1 z1 hl_z
      replace z2 := cell_kept hb1 z2 hl_z
      replace z3 := cell_kept hb1 z3 hl_z
      replace z4 := cell_kept hb1 z4 hl_z
      replace y0 := cell_kept hb1 y0 hl_y
      replace y1 := cell_kept hb1 y1 hl_y
      replace y2 := cell_kept hb1 y2 hl_y
      replace y3 := cell_kept hb1 y3 hl_y
      replace y4 := cell_kept hb1 y4 hl_y
      replace y5 := cell_kept hb1 y5 hl_y
      replace Hb := Lib.hid (Hb.out.trans (hb1.mono hwl))
      replace hl_x := Nat.lt_of_lt_of_le hl_x hb1.size
      replace hl_z := Nat.lt_of_lt_of_le hl_z hb1.size
      replace hl_y := Nat.lt_of_lt_of_le hl_y hb1.size
      replace hwl := Nat.le_trans hwl hb1.size
      clear hb1
      go_wp2
      all_goals (try (exfalso; have := Hm.out; simp at *; omega))
      all_goals go_ret
      all_goals (refine ⟨ret_bool ?_, Hb.out⟩)
      all_goals (have := Htb.out; unfold rtermB at this; rw [if_pos Hm.out] at this; unfold rsetB; rw [if_pos Hm.out, this]; symm; simp; omega)
    have dm : (t.var == -1) = false := by simpa using hm
    obtain ⟨y, hy⟩ : ∃ y, termTy? s fs t fs.length = some y := by
      unfold rtermB at htb; rw [if_neg hm] at htb; exact Option.isSome_iff_exists.1 htb
    have hl := termTy_short hsh hy
    have hv : rsetB s fs fd t = rinTy fd y := by unfold rsetB; rw [if_neg hm, hy]
    have h01 : 0 ≤ t.var ∧ t.var < fs.length := by
      unfold termTy? at hy
      by_cases h : 0 ≤ t.var ∧ t.var < fs.length
      · exact h
      · rw [if_neg h] at hy; cases hy
    obtain ⟨h0, h1⟩ := h01
    have hlt : t.var.toNat < fs.length := by omega
    obtain ⟨b, off, e1, hl_c, _, c0, c1, c2, c3, c4, c5, c6, c7⟩ := FromD.out hf t.var.toNat hlt
    subst e1
    have hty : typeOf? s fs[t.var.toNat].schema t.field = some y := by
      unfold termTy? at hy; rw [if_pos ⟨h0, h1⟩, List.getElem?_eq_getElem hlt] at hy; exact hy
    generalize fs[t.var.toNat] = f at *
    obtain ⟨an, kn, hn, hc⟩ := rtypeOf_fix s p f.schema t.field y hty w Hs.out
    have Hn := Lib.hid hn
    have Hc := Lib.hid hc
    have Hv := Lib.hid hv
    clear hn hc hv hty hy htb hm hf
    go_enter Try.func66, Try.ntmps66
    go_wp2_with fail
    generalize hw0 : World.alloc _ _ = w0
    obtain ⟨X0, X1, X2, hsz, hb0⟩ := blk3 hw0
    replace c0 := cell_kept hb0 c0 hl_c
    replace c1 := cell_kept hb0 c1 hl_c
    replace c2 := cell_kept hb0 c2 hl_c
    replace c3 := cell_kept hb0 c3 hl_c
    replace c4 := cell_kept hb0 c4 hl_c
    replace c5 := cell_kept hb0 c5 hl_c
    replace c6 := cell_kept hb0 c6 hl_c
    replace c7 := cell_kept hb0 c7 hl_c
    have hw_c := hl_c
    replace hl_c := Nat.lt_of_lt_of_le hl_c hb0.size
    have x0 : w0.cell? ⟨w.heap.size, 0, none⟩ = some (.slice p.a0 s.issuers.length p.k0) := X0.cell 0
    have x1 : w0.cell? ⟨w.heap.size, 1, none⟩ = some (.slice p.a1 s.units.length p.k1) := X0.cell 1
    have x2 : w0.cell? ⟨w.heap.size, 2, none⟩ = some (.slice p.a2 s.schemas.length p.k2) := X0.cell 2
    have x3 : w0.cell? ⟨w.heap.size, 3, none⟩ = some (.slice p.a3 s.rules.length p.k3) := X0.cell 3
    have x4 : w0.cell? ⟨w.heap.size, 4, none⟩ = some (.slice p.a4 s.converts p.k4) := X0.cell 4
    have x5 : w0.cell? ⟨w.heap.size, 5, none⟩ = some (.slice p.a5 s.purposes.length p.k5) := X0.cell 5
    have hl_x : w.heap.size < w0.heap.size := by omega
    have z0 : w0.cell? ⟨w.heap.size + 1, 0, none⟩ = some (.string t.name) := X1.cell 0
    have z1 : w0.cell? ⟨w.heap.size + 1, 1, none⟩ = some (.string t.path) := X1.cell 1
    have z2 : w0.cell? ⟨w.heap.size + 1, 2, none⟩ = some (.int .i64 t.var) := X1.cell 2
    have z3 : w0.cell? ⟨w.heap.size + 1, 3, none⟩ = some (.int .i64 t.field) := X1.cell 3
    have z4 : w0.cell? ⟨w.heap.size + 1, 4, none⟩ = some (.int .i64 t.n) := X1.cell 4
    have hl_z : w.heap.size + 1 < w0.heap.size := by omega
    have y0 : w0.cell? ⟨w.heap.size + 1 + 1, 0, none⟩ = some (.int .i64 fd.kind) := X2.cell 0
    have y1 : w0.cell? ⟨w.heap.size + 1 + 1, 1, none⟩ = some (.int .i64 fd.lo) := X2.cell 1
    have y2 : w0.cell? ⟨w.heap.size + 1 + 1, 2, none⟩ = some (.int .i64 fd.hi) := X2.cell 2
    have y3 : w0.cell? ⟨w.heap.size + 1 + 1, 3, none⟩ = some (.string fd.of_) := X2.cell 3
    have y4 : w0.cell? ⟨w.heap.size + 1 + 1, 4, none⟩ = some (.int .i64 fd.unit) := X2.cell 4
    have y5 : w0.cell? ⟨w.heap.size + 1 + 1, 5, none⟩ = some (.slice ga fd.names.length gk) := X2.cell 5
    have hl_y : w.heap.size + 1 + 1 < w0.heap.size := by omega
    have hwl : w.heap.size ≤ w0.heap.size := hb0.size
    have Hb := Lib.hid hb0
    clear hw0 hb0 hsz X0 X1 X2
    refine (rterm_any s p fs _ fk t _ (Hs.out.below Hb.out) (Hf.out.below RFromD.stab Hb.out)).mono ?_
    rintro e w1 ⟨rfl, hb1⟩
    rw [Htb.out]
    replace x0 := cell_kept hb1 x0 hl_x
    replace x1 := cell_kept hb1 x1 hl_x
    replace x2 := cell_kept hb1 x2 hl_x
    replace x3 := cell_kept hb1 x3 hl_x
    replace x4 := cell_kept hb1 x4 hl_x
    replace x5 := cell_kept hb1 x5 hl_x
    replace z0 := cell_kept hb1 z0 hl_z
    replace z1 := cell_kept hb1 z1 hl_z
    replace z2 := cell_kept hb1 z2 hl_z
    replace z3 := cell_kept hb1 z3 hl_z
    replace z4 := cell_kept hb1 z4 hl_z
    replace y0 := cell_kept hb1 y0 hl_y
    replace y1 := cell_kept hb1 y1 hl_y
    replace y2 := cell_kept hb1 y2 hl_y
    replace y3 := cell_kept hb1 y3 hl_y
    replace y4 := cell_kept hb1 y4 hl_y
    replace y5 := cell_kept hb1 y5 hl_y
    replace c0 := cell_kept hb1 c0 hl_c
    replace c1 := cell_kept hb1 c1 hl_c
    replace c2 := cell_kept hb1 c2 hl_c
    replace c3 := cell_kept hb1 c3 hl_c
    replace c4 := cell_kept hb1 c4 hl_c
    replace c5 := cell_kept hb1 c5 hl_c
    replace c6 := cell_kept hb1 c6 hl_c
    replace c7 := cell_kept hb1 c7 hl_c
    replace Hb := Lib.hid (Hb.out.trans (hb1.mono hwl))
    replace hl_x := Nat.lt_of_lt_of_le hl_x hb1.size
    replace hl_z := Nat.lt_of_lt_of_le hl_z hb1.size
    replace hl_y := Nat.lt_of_lt_of_le hl_y hb1.size
    replace hl_c := Nat.lt_of_lt_of_le hl_c hb1.size
    replace hwl := Nat.le_trans hwl hb1.size
    clear hb1
    go_wp2_with fail
    have ne_x : w1.heap.size ≠ w.heap.size := Nat.ne_of_gt hl_x
    have ne_z : w1.heap.size ≠ w.heap.size + 1 := Nat.ne_of_gt hl_z
    have ne_y : w1.heap.size ≠ w.heap.size + 1 + 1 := Nat.ne_of_gt hl_y
    have ne_c : w1.heap.size ≠ b := Nat.ne_of_gt hl_c
    go_region_held3 (fun w' => w'.cell? ⟨w.heap.size, 0, none⟩ = some (.slice p.a0 s.issuers.length p.k0) ∧ w'.cell? ⟨w.heap.size, 1, none⟩ = some (.slice p.a1 s.units.length p.k1) ∧ w'.cell? ⟨w.heap.size, 2, none⟩ = some (.slice p.a2 s.schemas.length p.k2) ∧ w'.cell? ⟨w.heap.size, 3, none⟩ = some (.slice p.a3 s.rules.length p.k3) ∧ w'.cell? ⟨w.heap.size, 4, none⟩ = some (.slice p.a4 s.converts p.k4) ∧ w'.cell? ⟨w.heap.size, 5, none⟩ = some (.slice p.a5 s.purposes.length p.k5) ∧ w'.cell? ⟨w.heap.size + 1, 0, none⟩ = some (.string t.name) ∧ w'.cell? ⟨w.heap.size + 1, 1, none⟩ = some (.string t.path) ∧ w'.cell? ⟨w.heap.size + 1, 2, none⟩ = some (.int .i64 t.var) ∧ w'.cell? ⟨w.heap.size + 1, 3, none⟩ = some (.int .i64 t.field) ∧ w'.cell? ⟨w.heap.size + 1, 4, none⟩ = some (.int .i64 t.n) ∧ w'.cell? ⟨w.heap.size + 1 + 1, 0, none⟩ = some (.int .i64 fd.kind) ∧ w'.cell? ⟨w.heap.size + 1 + 1, 1, none⟩ = some (.int .i64 fd.lo) ∧ w'.cell? ⟨w.heap.size + 1 + 1, 2, none⟩ = some (.int .i64 fd.hi) ∧ w'.cell? ⟨w.heap.size + 1 + 1, 3, none⟩ = some (.string fd.of_) ∧ w'.cell? ⟨w.heap.size + 1 + 1, 4, none⟩ = some (.int .i64 fd.unit) ∧ w'.cell? ⟨w.heap.size + 1 + 1, 5, none⟩ = some (.slice ga fd.names.length gk) ∧ w'.cell? ⟨b, off + t.var.toNat * 8, none⟩ = some (.string f.name) ∧ w'.cell? ⟨b, off + t.var.toNat * 8 + 1, none⟩ = some (.string f.kind) ∧ w'.cell? ⟨b, off + t.var.toNat * 8 + 2, none⟩ = some (.int .i64 f.schema) ∧ w'.cell? ⟨b, off + t.var.toNat * 8 + 3, none⟩ = some (.string f.of_.name) ∧ w'.cell? ⟨b, off + t.var.toNat * 8 + 4, none⟩ = some (.string f.of_.path) ∧ w'.cell? ⟨b, off + t.var.toNat * 8 + 5, none⟩ = some (.int .i64 f.of_.var) ∧ w'.cell? ⟨b, off + t.var.toNat * 8 + 6, none⟩ = some (.int .i64 f.of_.field) ∧ w'.cell? ⟨b, off + t.var.toNat * 8 + 7, none⟩ = some (.int .i64 f.of_.n))
      (first
        | go_keep
        | exact HSx.out
        | (have hSx := HSx.out; simp [hSx, World.cell?_alloc_some, World.cell?_setCell_far, *]))
      ((first
        | (go_at_call 39; refine (Hc.out _ Hb.out.drew).mono ?_; rintro e w2 ⟨rfl, hb1⟩; have Bx := Lib.hid (show Below w1.heap.size w1 w2 from (Below.refl _ _).drew.trans hb1); have HSx := Lib.hid (show w2.cell? ⟨w.heap.size, 0, none⟩ = some (.slice p.a0 s.issuers.length p.k0) ∧ w2.cell? ⟨w.heap.size, 1, none⟩ = some (.slice p.a1 s.units.length p.k1) ∧ w2.cell? ⟨w.heap.size, 2, none⟩ = some (.slice p.a2 s.schemas.length p.k2) ∧ w2.cell? ⟨w.heap.size, 3, none⟩ = some (.slice p.a3 s.rules.length p.k3) ∧ w2.cell? ⟨w.heap.size, 4, none⟩ = some (.slice p.a4 s.converts p.k4) ∧ w2.cell? ⟨w.heap.size, 5, none⟩ = some (.slice p.a5 s.purposes.length p.k5) ∧ w2.cell? ⟨w.heap.size + 1, 0, none⟩ = some (.string t.name) ∧ w2.cell? ⟨w.heap.size + 1, 1, none⟩ = some (.string t.path) ∧ w2.cell? ⟨w.heap.size + 1, 2, none⟩ = some (.int .i64 t.var) ∧ w2.cell? ⟨w.heap.size + 1, 3, none⟩ = some (.int .i64 t.field) ∧ w2.cell? ⟨w.heap.size + 1, 4, none⟩ = some (.int .i64 t.n) ∧ w2.cell? ⟨w.heap.size + 1 + 1, 0, none⟩ = some (.int .i64 fd.kind) ∧ w2.cell? ⟨w.heap.size + 1 + 1, 1, none⟩ = some (.int .i64 fd.lo) ∧ w2.cell? ⟨w.heap.size + 1 + 1, 2, none⟩ = some (.int .i64 fd.hi) ∧ w2.cell? ⟨w.heap.size + 1 + 1, 3, none⟩ = some (.string fd.of_) ∧ w2.cell? ⟨w.heap.size + 1 + 1, 4, none⟩ = some (.int .i64 fd.unit) ∧ w2.cell? ⟨w.heap.size + 1 + 1, 5, none⟩ = some (.slice ga fd.names.length gk) ∧ w2.cell? ⟨b, off + t.var.toNat * 8, none⟩ = some (.string f.name) ∧ w2.cell? ⟨b, off + t.var.toNat * 8 + 1, none⟩ = some (.string f.kind) ∧ w2.cell? ⟨b, off + t.var.toNat * 8 + 2, none⟩ = some (.int .i64 f.schema) ∧ w2.cell? ⟨b, off + t.var.toNat * 8 + 3, none⟩ = some (.string f.of_.name) ∧ w2.cell? ⟨b, off + t.var.toNat * 8 + 4, none⟩ = some (.string f.of_.path) ∧ w2.cell? ⟨b, off + t.var.toNat * 8 + 5, none⟩ = some (.int .i64 f.of_.var) ∧ w2.cell? ⟨b, off + t.var.toNat * 8 + 6, none⟩ = some (.int .i64 f.of_.field) ∧ w2.cell? ⟨b, off + t.var.toNat * 8 + 7, none⟩ = some (.int .i64 f.of_.n) from ⟨cell_kept Bx.out x0 hl_x, cell_kept Bx.out x1 hl_x, cell_kept Bx.out x2 hl_x, cell_kept Bx.out x3 hl_x, cell_kept Bx.out x4 hl_x, cell_kept Bx.out x5 hl_x, cell_kept Bx.out z0 hl_z, cell_kept Bx.out z1 hl_z, cell_kept Bx.out z2 hl_z, cell_kept Bx.out z3 hl_z, cell_kept Bx.out z4 hl_z, cell_kept Bx.out y0 hl_y, cell_kept Bx.out y1 hl_y, cell_kept Bx.out y2 hl_y, cell_kept Bx.out y3 hl_y, cell_kept Bx.out y4 hl_y, cell_kept Bx.out y5 hl_y, cell_kept Bx.out c0 hl_c, cell_kept Bx.out c1 hl_c, cell_kept Bx.out c2 hl_c, cell_kept Bx.out c3 hl_c, cell_kept Bx.out c4 hl_c, cell_kept Bx.out c5 hl_c, cell_kept Bx.out c6 hl_c, cell_kept Bx.out c7 hl_c⟩); clear hb1)
        | (go_at_call 39; refine (Hc.out _ ((Hb.out.alloc hwl _).drew)).mono ?_; rintro e w2 ⟨rfl, hb1⟩; have Bx := Lib.hid (show Below w1.heap.size w1 w2 from (((Below.refl _ _).alloc (Nat.le_refl _) _).drew).trans (hb1.mono (by simp))); have HSx := Lib.hid (show w2.cell? ⟨w.heap.size, 0, none⟩ = some (.slice p.a0 s.issuers.length p.k0) ∧ w2.cell? ⟨w.heap.size, 1, none⟩ = some (.slice p.a1 s.units.length p.k1) ∧ w2.cell? ⟨w.heap.size, 2, none⟩ = some (.slice p.a2 s.schemas.length p.k2) ∧ w2.cell? ⟨w.heap.size, 3, none⟩ = some (.slice p.a3 s.rules.length p.k3) ∧ w2.cell? ⟨w.heap.size, 4, none⟩ = some (.slice p.a4 s.converts p.k4) ∧ w2.cell? ⟨w.heap.size, 5, none⟩ = some (.slice p.a5 s.purposes.length p.k5) ∧ w2.cell? ⟨w.heap.size + 1, 0, none⟩ = some (.string t.name) ∧ w2.cell? ⟨w.heap.size + 1, 1, none⟩ = some (.string t.path) ∧ w2.cell? ⟨w.heap.size + 1, 2, none⟩ = some (.int .i64 t.var) ∧ w2.cell? ⟨w.heap.size + 1, 3, none⟩ = some (.int .i64 t.field) ∧ w2.cell? ⟨w.heap.size + 1, 4, none⟩ = some (.int .i64 t.n) ∧ w2.cell? ⟨w.heap.size + 1 + 1, 0, none⟩ = some (.int .i64 fd.kind) ∧ w2.cell? ⟨w.heap.size + 1 + 1, 1, none⟩ = some (.int .i64 fd.lo) ∧ w2.cell? ⟨w.heap.size + 1 + 1, 2, none⟩ = some (.int .i64 fd.hi) ∧ w2.cell? ⟨w.heap.size + 1 + 1, 3, none⟩ = some (.string fd.of_) ∧ w2.cell? ⟨w.heap.size + 1 + 1, 4, none⟩ = some (.int .i64 fd.unit) ∧ w2.cell? ⟨w.heap.size + 1 + 1, 5, none⟩ = some (.slice ga fd.names.length gk) ∧ w2.cell? ⟨b, off + t.var.toNat * 8, none⟩ = some (.string f.name) ∧ w2.cell? ⟨b, off + t.var.toNat * 8 + 1, none⟩ = some (.string f.kind) ∧ w2.cell? ⟨b, off + t.var.toNat * 8 + 2, none⟩ = some (.int .i64 f.schema) ∧ w2.cell? ⟨b, off + t.var.toNat * 8 + 3, none⟩ = some (.string f.of_.name) ∧ w2.cell? ⟨b, off + t.var.toNat * 8 + 4, none⟩ = some (.string f.of_.path) ∧ w2.cell? ⟨b, off + t.var.toNat * 8 + 5, none⟩ = some (.int .i64 f.of_.var) ∧ w2.cell? ⟨b, off + t.var.toNat * 8 + 6, none⟩ = some (.int .i64 f.of_.field) ∧ w2.cell? ⟨b, off + t.var.toNat * 8 + 7, none⟩ = some (.int .i64 f.of_.n) from ⟨cell_kept Bx.out x0 hl_x, cell_kept Bx.out x1 hl_x, cell_kept Bx.out x2 hl_x, cell_kept Bx.out x3 hl_x, cell_kept Bx.out x4 hl_x, cell_kept Bx.out x5 hl_x, cell_kept Bx.out z0 hl_z, cell_kept Bx.out z1 hl_z, cell_kept Bx.out z2 hl_z, cell_kept Bx.out z3 hl_z, cell_kept Bx.out z4 hl_z, cell_kept Bx.out y0 hl_y, cell_kept Bx.out y1 hl_y, cell_kept Bx.out y2 hl_y, cell_kept Bx.out y3 hl_y, cell_kept Bx.out y4 hl_y, cell_kept Bx.out y5 hl_y, cell_kept Bx.out c0 hl_c, cell_kept Bx.out c1 hl_c, cell_kept Bx.out c2 hl_c, cell_kept Bx.out c3 hl_c, cell_kept Bx.out c4 hl_c, cell_kept Bx.out c5 hl_c, cell_kept Bx.out c6 hl_c, cell_kept Bx.out c7 hl_c⟩); have HBv := Lib.hid ((Blk.new w1 (#[.int .i64 0, .int .i64 0, .int .i64 0, .string ⟨#[]⟩, .int .i64 0, .slice none 0 0]) 71).drew.below hb1 (by simp)); have fz_0 := HBv.out.frozen 0; have vz_0 : w2.cell? ⟨w1.heap.size, 0, none⟩ = some (.int .i64 0) := HBv.out.cell 0; have fz_1 := HBv.out.frozen 1; have vz_1 : w2.cell? ⟨w1.heap.size, 1, none⟩ = some (.int .i64 0) := HBv.out.cell 1; have fz_2 := HBv.out.frozen 2; have vz_2 : w2.cell? ⟨w1.heap.size, 2, none⟩ = some (.int .i64 0) := HBv.out.cell 2; have fz_3 := HBv.out.frozen 3; have vz_3 : w2.cell? ⟨w1.heap.size, 3, none⟩ = some (.string ⟨#[]⟩) := HBv.out.cell 3; have fz_4 := HBv.out.frozen 4; have vz_4 : w2.cell? ⟨w1.heap.size, 4, none⟩ = some (.int .i64 0) := HBv.out.cell 4; have fz_5 := HBv.out.frozen 5; have vz_5 : w2.cell? ⟨w1.heap.size, 5, none⟩ = some (.slice none 0 0) := HBv.out.cell 5; clear hb1)))

    · rename_i hH
      clear hH
      have hb1 := Bx.out
      replace x0 := cell_kept hb1 x0 hl_x
      replace x1 := cell_kept hb1 x1 hl_x
      replace x2 := cell_kept hb1 x2 hl_x
      replace x3 := cell_kept hb1 x3 hl_x
      replace x4 := cell_kept hb1 x4 hl_x
      replace x5 := cell_kept hb1 x5 hl_x
      replace z0 := cell_kept hb1 z0 hl_z
      replace z1 := cell_kept hb1 z1 hl_z
      replace z2 := cell_kept hb1 z2 hl_z
      replace z3 := cell_kept hb1 z3 hl_z
      replace z4 := cell_kept hb1 z4 hl_z
      replace y0 := cell_kept hb1 y0 hl_y
      replace y1 := cell_kept hb1 y1 hl_y
      replace y2 := cell_kept hb1 y2 hl_y
      replace y3 := cell_kept hb1 y3 hl_y
      replace y4 := cell_kept hb1 y4 hl_y
      replace y5 := cell_kept hb1 y5 hl_y
      replace c0 := cell_kept hb1 c0 hl_c
      replace c1 := cell_kept hb1 c1 hl_c
      replace c2 := cell_kept hb1 c2 hl_c
      replace c3 := cell_kept hb1 c3 hl_c
      replace c4 := cell_kept hb1 c4 hl_c
      replace c5 := cell_kept hb1 c5 hl_c
      replace c6 := cell_kept hb1 c6 hl_c
      replace c7 := cell_kept hb1 c7 hl_c
      replace Hb := Lib.hid (Hb.out.trans (hb1.mono hwl))
      replace hl_x := Nat.lt_of_lt_of_le hl_x hb1.size
      replace hl_z := Nat.lt_of_lt_of_le hl_z hb1.size
      replace hl_y := Nat.lt_of_lt_of_le hl_y hb1.size
      replace hl_c := Nat.lt_of_lt_of_le hl_c hb1.size
      replace hwl := Nat.le_trans hwl hb1.size
      clear hb1
      generalize hw0 : World.alloc _ _ = w3
      obtain ⟨X0, hsz, hb1⟩ := blk1 hw0
      have v0 : w3.cell? ⟨w2.heap.size, 0, none⟩ = some (.int .i64 y.kind) := X0.cell 0
      have v1 : w3.cell? ⟨w2.heap.size, 1, none⟩ = some (.int .i64 y.lo) := X0.cell 1
      have v2 : w3.cell? ⟨w2.heap.size, 2, none⟩ = some (.int .i64 y.hi) := X0.cell 2
      have v3 : w3.cell? ⟨w2.heap.size, 3, none⟩ = some (.string y.of_) := X0.cell 3
      have v4 : w3.cell? ⟨w2.heap.size, 4, none⟩ = some (.int .i64 y.unit) := X0.cell 4
      have v5 : w3.cell? ⟨w2.heap.size, 5, none⟩ = some (.slice an y.names.length kn) := X0.cell 5
      have hl_v : w2.heap.size < w3.heap.size := by omega
      replace x0 := cell_kept hb1 x0 hl_x
      replace x1 := cell_kept hb1 x1 hl_x
      replace x2 := cell_kept hb1 x2 hl_x
      replace x3 := cell_kept hb1 x3 hl_x
      replace x4 := cell_kept hb1 x4 hl_x
      replace x5 := cell_kept hb1 x5 hl_x
      replace z0 := cell_kept hb1 z0 hl_z
      replace z1 := cell_kept hb1 z1 hl_z
      replace z2 := cell_kept hb1 z2 hl_z
      replace z3 := cell_kept hb1 z3 hl_z
      replace z4 := cell_kept hb1 z4 hl_z
      replace y0 := cell_kept hb1 y0 hl_y
      replace y1 := cell_kept hb1 y1 hl_y
      replace y2 := cell_kept hb1 y2 hl_y
      replace y3 := cell_kept hb1 y3 hl_y
      replace y4 := cell_kept hb1 y4 hl_y
      replace y5 := cell_kept hb1 y5 hl_y
      replace c0 := cell_kept hb1 c0 hl_c
      replace c1 := cell_kept hb1 c1 hl_c
      replace c2 := cell_kept hb1 c2 hl_c
      replace c3 := cell_kept hb1 c3 hl_c
      replace c4 := cell_kept hb1 c4 hl_c
      replace c5 := cell_kept hb1 c5 hl_c
      replace c6 := cell_kept hb1 c6 hl_c
      replace c7 := cell_kept hb1 c7 hl_c
      replace Hb := Lib.hid (Hb.out.trans (hb1.mono hwl))
      replace hl_x := Nat.lt_of_lt_of_le hl_x hb1.size
      replace hl_z := Nat.lt_of_lt_of_le hl_z hb1.size
      replace hl_y := Nat.lt_of_lt_of_le hl_y hb1.size
      replace hl_c := Nat.lt_of_lt_of_le hl_c hb1.size
      replace hwl := Nat.le_trans hwl hb1.size
      clear hb1
      clear hw0 hsz X0
      by_cases hku : y.kind = fd.kind ∧ y.unit = fd.unit
      case neg =>
        have Hku := Lib.hid hku
        clear hku
        go_wp2_with fail
        all_goals (try (exfalso; have := Hku.out; simp at *; omega))
        all_goals go_ret
        all_goals (refine ⟨ret_bool ?_, Hb.out⟩)
        all_goals (rw [Hv.out]; have := Hku.out; simp [rinTy]; intros; omega)
      obtain ⟨q1, q2⟩ := hku
      have p1 : (y.kind == fd.kind) = true := by simpa using q1
      have p2 : (y.unit == fd.unit) = true := by simpa using q2
      have Q1 := Lib.hid q1
      have Q2 := Lib.hid q2
      clear q1 q2
      go_wp2_with fail
      refine (same_any an ga kn gk y.names fd.names _ (Hn.out.below RStr.stab Hb.out) (Hg.out.below RStr.stab Hb.out) hl).mono ?_
      rintro e w4 ⟨rfl, hb1⟩
      replace x0 := cell_kept hb1 x0 hl_x
      replace x1 := cell_kept hb1 x1 hl_x
      replace x2 := cell_kept hb1 x2 hl_x
      replace x3 := cell_kept hb1 x3 hl_x
      replace x4 := cell_kept hb1 x4 hl_x
      replace x5 := cell_kept hb1 x5 hl_x
      replace z0 := cell_kept hb1 z0 hl_z
      replace z1 := cell_kept hb1 z1 hl_z
      replace z2 := cell_kept hb1 z2 hl_z
      replace z3 := cell_kept hb1 z3 hl_z
      replace z4 := cell_kept hb1 z4 hl_z
      replace y0 := cell_kept hb1 y0 hl_y
      replace y1 := cell_kept hb1 y1 hl_y
      replace y2 := cell_kept hb1 y2 hl_y
      replace y3 := cell_kept hb1 y3 hl_y
      replace y4 := cell_kept hb1 y4 hl_y
      replace y5 := cell_kept hb1 y5 hl_y
      replace c0 := cell_kept hb1 c0 hl_c
      replace c1 := cell_kept hb1 c1 hl_c
      replace c2 := cell_kept hb1 c2 hl_c
      replace c3 := cell_kept hb1 c3 hl_c
      replace c4 := cell_kept hb1 c4 hl_c
      replace c5 := cell_kept hb1 c5 hl_c
      replace c6 := cell_kept hb1 c6 hl_c
      replace c7 := cell_kept hb1 c7 hl_c
      replace v0 := cell_kept hb1 v0 hl_v
      replace v1 := cell_kept hb1 v1 hl_v
      replace v2 := cell_kept hb1 v2 hl_v
      replace v3 := cell_kept hb1 v3 hl_v
      replace v4 := cell_kept hb1 v4 hl_v
      replace v5 := cell_kept hb1 v5 hl_v
      replace Hb := Lib.hid (Hb.out.trans (hb1.mono hwl))
      replace hl_x := Nat.lt_of_lt_of_le hl_x hb1.size
      replace hl_z := Nat.lt_of_lt_of_le hl_z hb1.size
      replace hl_y := Nat.lt_of_lt_of_le hl_y hb1.size
      replace hl_c := Nat.lt_of_lt_of_le hl_c hb1.size
      replace hl_v := Nat.lt_of_lt_of_le hl_v hb1.size
      replace hwl := Nat.le_trans hwl hb1.size
      clear hb1
      by_cases hnm : y.names = fd.names
      · rw [decide_eq_true hnm]
        have Hnm := Lib.hid hnm
        clear hnm
        go_wp2
        all_goals go_ret
        all_goals (refine ⟨ret_bool ?_, Hb.out⟩)
        all_goals (rw [Hv.out]; simp [rinTy, Q1.out, Q2.out, Hnm.out]; try omega)
      · rw [decide_eq_false hnm]
        go_wp2
        go_ret
        refine ⟨ret_bool ?_, Hb.out⟩
        rw [Hv.out]; simp [rinTy, hnm]
    · rename_i hH
      clear hH
      have hb1 := Bx.out
      have hw1 := hwl
      replace x0 := cell_kept hb1 x0 hl_x
      replace x1 := cell_kept hb1 x1 hl_x
      replace x2 := cell_kept hb1 x2 hl_x
      replace x3 := cell_kept hb1 x3 hl_x
      replace x4 := cell_kept hb1 x4 hl_x
      replace x5 := cell_kept hb1 x5 hl_x
      replace z0 := cell_kept hb1 z0 hl_z
      replace z1 := cell_kept hb1 z1 hl_z
      replace z2 := cell_kept hb1 z2 hl_z
      replace z3 := cell_kept hb1 z3 hl_z
      replace z4 := cell_kept hb1 z4 hl_z
      replace y0 := cell_kept hb1 y0 hl_y
      replace y1 := cell_kept hb1 y1 hl_y
      replace y2 := cell_kept hb1 y2 hl_y
      replace y3 := cell_kept hb1 y3 hl_y
      replace y4 := cell_kept hb1 y4 hl_y
      replace y5 := cell_kept hb1 y5 hl_y
      replace c0 := cell_kept hb1 c0 hl_c
      replace c1 := cell_kept hb1 c1 hl_c
      replace c2 := cell_kept hb1 c2 hl_c
      replace c3 := cell_kept hb1 c3 hl_c
      replace c4 := cell_kept hb1 c4 hl_c
      replace c5 := cell_kept hb1 c5 hl_c
      replace c6 := cell_kept hb1 c6 hl_c
      replace c7 := cell_kept hb1 c7 hl_c
      replace Hb := Lib.hid (Hb.out.trans (hb1.mono hwl))
      replace hl_x := Nat.lt_of_lt_of_le hl_x hb1.size
      replace hl_z := Nat.lt_of_lt_of_le hl_z hb1.size
      replace hl_y := Nat.lt_of_lt_of_le hl_y hb1.size
      replace hl_c := Nat.lt_of_lt_of_le hl_c hb1.size
      replace hwl := Nat.le_trans hwl hb1.size
      clear hb1
      clear fz_0 fz_1 fz_2 fz_3 fz_4 fz_5 vz_0 vz_1 vz_2 vz_3 vz_4 vz_5
      generalize hw0 : World.setCell _ _ _ = w3
      obtain ⟨X0, hoth, hsz, hbel, hblk⟩ := stored (vs := [.int .i64 y.kind, .int .i64 y.lo, .int .i64 y.hi, .string y.of_, .int .i64 y.unit, .slice an y.names.length kn]) HBv.out rfl hw0
      replace x0 := hoth x0 (by omega)
      replace x1 := hoth x1 (by omega)
      replace x2 := hoth x2 (by omega)
      replace x3 := hoth x3 (by omega)
      replace x4 := hoth x4 (by omega)
      replace x5 := hoth x5 (by omega)
      replace z0 := hoth z0 (by omega)
      replace z1 := hoth z1 (by omega)
      replace z2 := hoth z2 (by omega)
      replace z3 := hoth z3 (by omega)
      replace z4 := hoth z4 (by omega)
      replace y0 := hoth y0 (by omega)
      replace y1 := hoth y1 (by omega)
      replace y2 := hoth y2 (by omega)
      replace y3 := hoth y3 (by omega)
      replace y4 := hoth y4 (by omega)
      replace y5 := hoth y5 (by omega)
      replace c0 := hoth c0 (by omega)
      replace c1 := hoth c1 (by omega)
      replace c2 := hoth c2 (by omega)
      replace c3 := hoth c3 (by omega)
      replace c4 := hoth c4 (by omega)
      replace c5 := hoth c5 (by omega)
      replace c6 := hoth c6 (by omega)
      replace c7 := hoth c7 (by omega)
      have v0 : w3.cell? ⟨w1.heap.size, 0, none⟩ = some (.int .i64 y.kind) := X0.cell 0
      have v1 : w3.cell? ⟨w1.heap.size, 1, none⟩ = some (.int .i64 y.lo) := X0.cell 1
      have v2 : w3.cell? ⟨w1.heap.size, 2, none⟩ = some (.int .i64 y.hi) := X0.cell 2
      have v3 : w3.cell? ⟨w1.heap.size, 3, none⟩ = some (.string y.of_) := X0.cell 3
      have v4 : w3.cell? ⟨w1.heap.size, 4, none⟩ = some (.int .i64 y.unit) := X0.cell 4
      have v5 : w3.cell? ⟨w1.heap.size, 5, none⟩ = some (.slice an y.names.length kn) := X0.cell 5
      replace HBv := Lib.hid X0
      replace Hb := Lib.hid (Hb.out.trans (hbel w.heap.size (by omega)))
      replace hl_x : w.heap.size < w3.heap.size := by omega
      replace hl_z : w.heap.size + 1 < w3.heap.size := by omega
      replace hl_y : w.heap.size + 1 + 1 < w3.heap.size := by omega
      replace hl_c : b < w3.heap.size := by omega
      replace hwl : w.heap.size ≤ w3.heap.size := by omega
      clear hw0 hoth hsz hbel hblk X0
      have hl_v : w1.heap.size < w3.heap.size := HBv.out.lt
      by_cases hku : y.kind = fd.kind ∧ y.unit = fd.unit
      case neg =>
        have Hku := Lib.hid hku
        clear hku
        go_wp2_with fail
        all_goals (try (exfalso; have := Hku.out; simp at *; omega))
        all_goals go_ret
        all_goals (refine ⟨ret_bool ?_, Hb.out⟩)
        all_goals (rw [Hv.out]; have := Hku.out; simp [rinTy]; intros; omega)
      obtain ⟨q1, q2⟩ := hku
      have p1 : (y.kind == fd.kind) = true := by simpa using q1
      have p2 : (y.unit == fd.unit) = true := by simpa using q2
      have Q1 := Lib.hid q1
      have Q2 := Lib.hid q2
      clear q1 q2
      go_wp2_with fail
      refine (same_any an ga kn gk y.names fd.names _ (Hn.out.below RStr.stab Hb.out) (Hg.out.below RStr.stab Hb.out) hl).mono ?_
      rintro e w4 ⟨rfl, hb1⟩
      replace x0 := cell_kept hb1 x0 hl_x
      replace x1 := cell_kept hb1 x1 hl_x
      replace x2 := cell_kept hb1 x2 hl_x
      replace x3 := cell_kept hb1 x3 hl_x
      replace x4 := cell_kept hb1 x4 hl_x
      replace x5 := cell_kept hb1 x5 hl_x
      replace z0 := cell_kept hb1 z0 hl_z
      replace z1 := cell_kept hb1 z1 hl_z
      replace z2 := cell_kept hb1 z2 hl_z
      replace z3 := cell_kept hb1 z3 hl_z
      replace z4 := cell_kept hb1 z4 hl_z
      replace y0 := cell_kept hb1 y0 hl_y
      replace y1 := cell_kept hb1 y1 hl_y
      replace y2 := cell_kept hb1 y2 hl_y
      replace y3 := cell_kept hb1 y3 hl_y
      replace y4 := cell_kept hb1 y4 hl_y
      replace y5 := cell_kept hb1 y5 hl_y
      replace c0 := cell_kept hb1 c0 hl_c
      replace c1 := cell_kept hb1 c1 hl_c
      replace c2 := cell_kept hb1 c2 hl_c
      replace c3 := cell_kept hb1 c3 hl_c
      replace c4 := cell_kept hb1 c4 hl_c
      replace c5 := cell_kept hb1 c5 hl_c
      replace c6 := cell_kept hb1 c6 hl_c
      replace c7 := cell_kept hb1 c7 hl_c
      replace v0 := cell_kept hb1 v0 hl_v
      replace v1 := cell_kept hb1 v1 hl_v
      replace v2 := cell_kept hb1 v2 hl_v
      replace v3 := cell_kept hb1 v3 hl_v
      replace v4 := cell_kept hb1 v4 hl_v
      replace v5 := cell_kept hb1 v5 hl_v
      replace Hb := Lib.hid (Hb.out.trans (hb1.mono hwl))
      replace hl_x := Nat.lt_of_lt_of_le hl_x hb1.size
      replace hl_z := Nat.lt_of_lt_of_le hl_z hb1.size
      replace hl_y := Nat.lt_of_lt_of_le hl_y hb1.size
      replace hl_c := Nat.lt_of_lt_of_le hl_c hb1.size
      replace hl_v := Nat.lt_of_lt_of_le hl_v hb1.size
      replace hwl := Nat.le_trans hwl hb1.size
      clear hb1
      by_cases hnm : y.names = fd.names
      · rw [decide_eq_true hnm]
        have Hnm := Lib.hid hnm
        clear hnm
        go_wp2
        all_goals go_ret
        all_goals (refine ⟨ret_bool ?_, Hb.out⟩)
        all_goals (rw [Hv.out]; simp [rinTy, Q1.out, Q2.out, Hnm.out]; try omega)
      · rw [decide_eq_false hnm]
        go_wp2
        go_ret
        refine ⟨ret_bool ?_, Hb.out⟩
        rw [Hv.out]; simp [rinTy, hnm]
end Go.Proofs.Ytogenjbabgibbaa
namespace Go.Proofs.Ytogenjbabgibbaa
open Go.RowKit

/-! A slice that the call itself appends to, as a list of data. -/
structure OwnL {α : Type} (n : Nat) (enc : α → List Value) (e : TypeId) (w : World) (B : Nat) (v : Value) (L : List α) : Prop where
  row : w.ownsRow B e n v L.length (L.flatMap enc)
section
variable {α : Type} {n : Nat} {enc : α → List Value} {e : TypeId} {w w' : World} {B : Nat} {v : Value} {L : List α}
theorem flatMap_get (henc : ∀ x, (enc x).length = n) : ∀ (L : List α) (i : Nat) (h : i < L.length) (j : Nat), j < n → (L.flatMap enc)[i * n + j]? = (enc L[i])[j]?
  | [], i, h, _, _ => by simp at h
  | x :: L, 0, _, j, hj => by
    simp only [List.flatMap_cons, Nat.zero_mul, Nat.zero_add, List.getElem_cons_zero]
    rw [List.getElem?_append_left (by rw [henc]; exact hj)]
  | x :: L, i + 1, h, j, hj => by
    have := flatMap_get henc L i (by simpa using h) j hj
    simp only [List.flatMap_cons, List.getElem_cons_succ]
    rw [List.getElem?_append_right (by rw [henc, Nat.add_mul]; omega), henc, ← this, Nat.add_mul, show i * n + 1 * n + j - n = i * n + j by omega]
theorem OwnL.nil (w : World) (B : Nat) : OwnL n enc e w B (.slice none 0 0) ([] : List α) := ⟨⟨by simp, .inl ⟨rfl, rfl⟩⟩⟩
theorem OwnL.ge (h : OwnL n enc e w B v L) : ∀ k, v.ownBlock = some k → B ≤ k := fun k hk => by
  rcases h.row.2 with ⟨hv, _⟩ | ⟨g, cap, cur, hv, hg, _⟩
  · rw [hv] at hk; cases hk
  · rw [hv] at hk; cases hk; exact hg
theorem OwnL.below (h : OwnL n enc e w B v L) (hb : Below w.heap.size w w') : OwnL n enc e w' B v L := by
  refine ⟨h.row.1, ?_⟩
  rcases h.row.2 with hn | ⟨g, cap, cur, hv, hg, hh, rest⟩
  · exact .inl hn
  · exact .inr ⟨g, cap, cur, hv, hg, (hb.block g (Array.getElem?_eq_some_iff.1 hh).1).trans hh, rest⟩
theorem OwnL.alloc (h : OwnL n enc e w B v L) (o : Obj) : OwnL n enc e (w.alloc o) B v L := ⟨h.row.alloc o⟩
theorem OwnL.snoc {x : α} (h : w.ownsRow B e n v (L.length + 1) (L.flatMap enc ++ enc x)) : OwnL n enc e w B v (L ++ [x]) := ⟨by simpa using h⟩
theorem OwnL.out (henc : ∀ x, (enc x).length = n) (h : OwnL n enc e w B v L) : ∃ a cap, v = .slice a L.length cap ∧
    ∀ i (_ : i < L.length), ∃ g, a = some ⟨g, 0, none⟩ ∧ B ≤ g ∧ g < w.heap.size ∧ ∀ j, j < n → w.cell? ⟨g, i * n + j, none⟩ = (enc L[i])[j]? := by
  rcases h.row.2 with ⟨hv, hn⟩ | ⟨g, cap, cur, hv, hg, hh, hn, hc, hs, ht⟩
  · exact ⟨none, 0, by rw [hv, hn], fun i hi => by omega⟩
  · refine ⟨_, _, hv, fun i hi => ⟨g, rfl, hg, (Array.getElem?_eq_some_iff.1 hh).1, fun j hj => ?_⟩⟩
    have hb : Blk w g cur e := hh
    rw [hb.cell, ← flatMap_get henc L i hi j hj, ← ht, List.getElem?_take, if_pos (by
      have : (i + 1) * n ≤ L.length * n := Nat.mul_le_mul_right n hi
      rw [Nat.add_mul] at this; omega)]
    simp
theorem OwnL.at {g m cap : Nat} (henc : ∀ x, (enc x).length = n) (h : OwnL n enc e w B (.slice (some ⟨g, 0, none⟩) m cap) L) : B ≤ g ∧ g < w.heap.size ∧ ∀ i (_ : i < L.length), ∀ j, j < n → w.cell? ⟨g, i * n + j, none⟩ = (enc L[i])[j]? := by
  obtain ⟨a, cap', hv, hc⟩ := h.out henc
  rcases h.row.2 with ⟨hv2, _⟩ | ⟨g2, cap2, cur, hv2, hg, hh, _⟩
  · cases hv2
  · cases hv2
    refine ⟨hg, (Array.getElem?_eq_some_iff.1 hh).1, fun i hi j hj => ?_⟩
    obtain ⟨g3, ha, _, _, h3⟩ := hc i hi
    rw [ha] at hv
    cases hv
    exact h3 j hj
/-- an own slice reads as a list -/
theorem OwnL.sl {R : Rep α} (henc : ∀ x, (enc x).length = n) (h : OwnL n enc e w B v L) (hR : ∀ x ∈ L, R w (enc x) x) : ∃ a cap, v = .slice a L.length cap ∧ Sl n R w a L := by
  obtain ⟨a, cap, hv, hc⟩ := h.out henc
  refine ⟨a, cap, hv, fun i hi => ?_⟩
  obtain ⟨g, ha, _, hg, hcell⟩ := hc i hi
  exact ⟨g, 0, ha, hg, enc L[i], hR _ (List.getElem_mem hi), fun j hj => by simpa using hcell j hj⟩
end
/-- 'append(s, x)' lays x in a new block first -/
theorem cells_new (w : World) (l : List Value) (t : TypeId) : ∀ j u, l[j]? = some u → (w.alloc (.cells l.toArray t)).cell? ((⟨w.heap.size, 0, none⟩ : Addr).add j) = some u := fun j u hj => by
  rw [add_none, (Blk.new w l.toArray t).cell]
  simpa using hj
theorem cells_new' (w : World) (l : List Value) (t : TypeId) (b : Nat) (hb : w.heap.size = b) : ∀ j u, l[j]? = some u → (w.alloc (.cells l.toArray t)).cell? ((⟨b, 0, none⟩ : Addr).add j) = some u := by
  subst hb; exact cells_new w l t
theorem info_split {P : Program} {t : TypeId} {z : Value} {s b : Nat} (h : (P.info? t).map (fun i => (i.zero, i.size, i.bytes)) = some (some z, s, b)) : ∃ i, P.info? t = some i ∧ i.zero = some z ∧ i.size = s ∧ i.bytes = b := by
  cases hi : P.info? t with
  | none => rw [hi] at h; cases h
  | some i => rw [hi] at h; simp at h; exact ⟨i, rfl, h.1, h.2.1, h.2.2⟩
end Go.Proofs.Ytogenjbabgibbaa
namespace Go.Proofs.Ytogenjbabgibbaa
open Go.RowKit
abbrev AtomD.val (m : AtomD) : Value := .agg #[.int .i64 m.op, .string m.a.name, .string m.a.path, .int .i64 m.a.var, .int .i64 m.a.field, .int .i64 m.a.n, .string m.b.name, .string m.b.path, .int .i64 m.b.var, .int .i64 m.b.field, .int .i64 m.b.n]
def ordOK (op : Int) (y : TyD) : Bool := !(decide (op = 2) || decide (op = 3)) || ordB y
def atomTys (s : SourceD) (fs : List FromD) (m : AtomD) : List TyD := [m.a, m.b].filterMap fun t => termTy? s fs t fs.length
def okT (s : SourceD) (fs : List FromD) (t : TermD) : Bool := (termTy? s fs t fs.length).isSome || isNumB t
def pairOK (us : List UnitD) : List TyD → Bool
  | [] => false
  | [y, z] => cmpB us y z
  | _ => true
def atomB (s : SourceD) (fs : List FromD) (m : AtomD) : Bool :=
  decide (1 ≤ m.op) && decide (m.op ≤ 4) && ([m.a, m.b].all (okT s fs) && (pairOK s.units (atomTys s fs m) && (atomTys s fs m).all (ordOK m.op)))
/-- all types of fields are valid -/
def Good (s : SourceD) : Prop := ∀ i j t, typeOf? s i j = some t → kindB t s.units.length = true
theorem kindB_in {us : List UnitD} {t : TyD} (h : kindB t us.length = true) : unitIn us t := fun _ => kindB_unit h
theorem atomTys_mem {s : SourceD} {fs : List FromD} {m : AtomD} {y : TyD} (h : y ∈ atomTys s fs m) : ∃ t, termTy? s fs t fs.length = some y := by
  unfold atomTys at h
  rw [List.mem_filterMap] at h
  obtain ⟨t, _, ht⟩ := h
  exact ⟨t, ht⟩
theorem termTy_good {s : SourceD} (h : Good s) {fs : List FromD} {t : TermD} {n : Int} {y : TyD} (hy : termTy? s fs t n = some y) : unitIn s.units y := by
  unfold termTy? at hy
  split at hy
  · split at hy
    · exact kindB_in (h _ _ _ hy)
    · cases hy
  · cases hy
abbrev TX := TyD × Option Addr × Nat
def encT (x : TX) : List Value := [.int .i64 x.1.kind, .int .i64 x.1.lo, .int .i64 x.1.hi, .string x.1.of_, .int .i64 x.1.unit, .slice x.2.1 x.1.names.length x.2.2]
theorem encT_len (x : TX) : (encT x).length = 6 := rfl
theorem info71 : (Try.prog.info? 71).map (fun i => (i.zero, i.size, i.bytes)) = some (some (.agg #[.int .i64 0, .int .i64 0, .int .i64 0, .string ⟨#[]⟩, .int .i64 0, .slice none 0 0]), 6, 72) := by kernel_rfl
theorem cmp_eq (s : SourceD) (p : SrcAt) (a b : TyD) (aa ab : Option Addr) (ka kb : Nat) (w : World) (hs : Src w s p) (ha : Sl 1 RStr w aa a.names) (hb : Sl 1 RStr w ab b.names) (hl : a.names.length ≤ 100000)
    (ua : unitIn s.units a) (ub : unitIn s.units b) (r : Bool) (hr : cmpB s.units a b = r) :
    Calls Try.prog 43 #[s.val p, a.val aa ka, b.val ab kb] w fun e w' => e = .returned (.bool r) ∧ Below w.heap.size w w' := by
  subst hr
  exact cmp_any s p a b aa ab ka kb w hs ha hb hl ua ub
set_option maxRecDepth 20000 in
set_option maxHeartbeats 8000000 in
theorem atomOK_any (s : SourceD) (p : SrcAt) (r : RuleD) (q : RuleAt) (m : AtomD) (wb : World) (hs : Src wb s p) (hr : Rul wb r q) (w : World) (hbb : Below wb.heap.size wb w) (hsh : Short s) (hgd : Good s) :
    Calls Try.prog 54 #[rcVal s p r q, m.val] w fun e w' => e = .returned (.bool (atomB s r.froms m)) ∧ Below w.heap.size w w' := by
  have Hs := Lib.hid hs
  have Hr := Lib.hid hr
  have Hbb := Lib.hid hbb
  clear hs hr hbb
  by_cases hop : 1 ≤ m.op ∧ m.op ≤ 4
  case neg =>
    have Hop := Lib.hid hop
    clear hop
    go_enter Try.func54, Try.ntmps54
    go_wp2_with fail
    all_goals (try (exfalso; have := Hop.out; omega))
    all_goals go_ret
    all_goals exact ⟨ret_bool (by have := Hop.out; simp [atomB]; intros; omega), by (repeat (first | exact Below.refl _ _ | refine Below.alloc ?_ (by first | (simp; done) | (simp; omega)) _ | refine Below.setCell ?_ (by first | (simp; done) | (simp; omega)) _ | refine below_drewN ?_ _))⟩
  obtain ⟨hop1, hop2⟩ := hop
  have hab : atomB s r.froms m = ([m.a, m.b].all (okT s r.froms) && (pairOK s.units (atomTys s r.froms m) && (atomTys s r.froms m).all (ordOK m.op))) := by unfold atomB; simp [hop1, hop2]
  have Hab := Lib.hid hab
  clear hab
  obtain ⟨i0, hi, hz0, hz1, hz2⟩ := info_split info71
  go_enter Try.func54, Try.ntmps54
  go_wp2_with fail
  all_goals (try (exfalso; omega))
  generalize hw0 : World.alloc _ _ = w0
  obtain ⟨X0, X1, X2, hsz, hb0⟩ := blk3 hw0
  have x0 : w0.cell? ⟨w.heap.size, 0, none⟩ = some (.slice p.a0 s.issuers.length p.k0) := X0.cell 0
  have x1 : w0.cell? ⟨w.heap.size, 1, none⟩ = some (.slice p.a1 s.units.length p.k1) := X0.cell 1
  have x2 : w0.cell? ⟨w.heap.size, 2, none⟩ = some (.slice p.a2 s.schemas.length p.k2) := X0.cell 2
  have x3 : w0.cell? ⟨w.heap.size, 3, none⟩ = some (.slice p.a3 s.rules.length p.k3) := X0.cell 3
  have x4 : w0.cell? ⟨w.heap.size, 4, none⟩ = some (.slice p.a4 s.converts p.k4) := X0.cell 4
  have x5 : w0.cell? ⟨w.heap.size, 5, none⟩ = some (.slice p.a5 s.purposes.length p.k5) := X0.cell 5
  have x6 : w0.cell? ⟨w.heap.size, 6, none⟩ = some (.string r.head) := X0.cell 6
  have x7 : w0.cell? ⟨w.heap.size, 7, none⟩ = some (.int .i64 r.schema) := X0.cell 7
  have x8 : w0.cell? ⟨w.heap.size, 8, none⟩ = some (.slice q.a2 r.froms.length q.k2) := X0.cell 8
  have x9 : w0.cell? ⟨w.heap.size, 9, none⟩ = some (.slice q.a3 r.where_.length q.k3) := X0.cell 9
  have x10 : w0.cell? ⟨w.heap.size, 10, none⟩ = some (.slice q.a4 r.sets.length q.k4) := X0.cell 10
  have hl_x : w.heap.size < w0.heap.size := by omega
  have y0 : w0.cell? ⟨w.heap.size + 1, 0, none⟩ = some (.int .i64 m.op) := X1.cell 0
  have y1 : w0.cell? ⟨w.heap.size + 1, 1, none⟩ = some (.string m.a.name) := X1.cell 1
  have y2 : w0.cell? ⟨w.heap.size + 1, 2, none⟩ = some (.string m.a.path) := X1.cell 2
  have y3 : w0.cell? ⟨w.heap.size + 1, 3, none⟩ = some (.int .i64 m.a.var) := X1.cell 3
  have y4 : w0.cell? ⟨w.heap.size + 1, 4, none⟩ = some (.int .i64 m.a.field) := X1.cell 4
  have y5 : w0.cell? ⟨w.heap.size + 1, 5, none⟩ = some (.int .i64 m.a.n) := X1.cell 5
  have y6 : w0.cell? ⟨w.heap.size + 1, 6, none⟩ = some (.string m.b.name) := X1.cell 6
  have y7 : w0.cell? ⟨w.heap.size + 1, 7, none⟩ = some (.string m.b.path) := X1.cell 7
  have y8 : w0.cell? ⟨w.heap.size + 1, 8, none⟩ = some (.int .i64 m.b.var) := X1.cell 8
  have y9 : w0.cell? ⟨w.heap.size + 1, 9, none⟩ = some (.int .i64 m.b.field) := X1.cell 9
  have y10 : w0.cell? ⟨w.heap.size + 1, 10, none⟩ = some (.int .i64 m.b.n) := X1.cell 10
  have hl_y : w.heap.size + 1 < w0.heap.size := by omega
  have z0 : w0.cell? ⟨w.heap.size + 1 + 1, 0, none⟩ = some (.string m.a.name) := X2.cell 0
  have z1 : w0.cell? ⟨w.heap.size + 1 + 1, 1, none⟩ = some (.string m.a.path) := X2.cell 1
  have z2 : w0.cell? ⟨w.heap.size + 1 + 1, 2, none⟩ = some (.int .i64 m.a.var) := X2.cell 2
  have z3 : w0.cell? ⟨w.heap.size + 1 + 1, 3, none⟩ = some (.int .i64 m.a.field) := X2.cell 3
  have z4 : w0.cell? ⟨w.heap.size + 1 + 1, 4, none⟩ = some (.int .i64 m.a.n) := X2.cell 4
  have z5 : w0.cell? ⟨w.heap.size + 1 + 1, 5, none⟩ = some (.string m.b.name) := X2.cell 5
  have z6 : w0.cell? ⟨w.heap.size + 1 + 1, 6, none⟩ = some (.string m.b.path) := X2.cell 6
  have z7 : w0.cell? ⟨w.heap.size + 1 + 1, 7, none⟩ = some (.int .i64 m.b.var) := X2.cell 7
  have z8 : w0.cell? ⟨w.heap.size + 1 + 1, 8, none⟩ = some (.int .i64 m.b.field) := X2.cell 8
  have z9 : w0.cell? ⟨w.heap.size + 1 + 1, 9, none⟩ = some (.int .i64 m.b.n) := X2.cell 9
  have hl_z : w.heap.size + 1 + 1 < w0.heap.size := by omega
  have hwl : w.heap.size ≤ w0.heap.size := hb0.size
  have Hb := Lib.hid hb0
  clear hw0 hb0 hsz X0 X1 X2
  go_loopw [5, 27] (fun v i wr => ∃ (k : Nat) (L : List TX), k ≤ 2 ∧ i = .int .i64 k ∧ Hid (OwnL 6 encT 71 wr w0.heap.size v L) ∧ Hid (L.map (·.1) = ([m.a, m.b].take k).filterMap fun t => termTy? s r.froms t r.froms.length) ∧ Hid (∀ x ∈ L, Sl 1 RStr wb x.2.1 x.1.names) ∧ Hid (∀ t ∈ [m.a, m.b].take k, okT s r.froms t = true) ∧ Below w0.heap.size w0 wr) (fun _ i _ => 2 - (intOf i).toNat)
  case atStart => exact ⟨0, [], Nat.zero_le _, rfl, Lib.hid (OwnL.nil _ _), Lib.hid rfl, Lib.hid (fun x hx => by simp at hx), Lib.hid (fun x hx => by simp at hx), Below.refl _ _⟩
  case round =>
    obtain ⟨k, L, hk, rfl, HO, HL, HN, HK, hb1⟩ := hrel
    have Hb1 := Lib.hid hb1
    have hwl1 := hb1.size
    replace x0 := cell_kept hb1 x0 hl_x
    replace x1 := cell_kept hb1 x1 hl_x
    replace x2 := cell_kept hb1 x2 hl_x
    replace x3 := cell_kept hb1 x3 hl_x
    replace x4 := cell_kept hb1 x4 hl_x
    replace x5 := cell_kept hb1 x5 hl_x
    replace x6 := cell_kept hb1 x6 hl_x
    replace x7 := cell_kept hb1 x7 hl_x
    replace x8 := cell_kept hb1 x8 hl_x
    replace x9 := cell_kept hb1 x9 hl_x
    replace x10 := cell_kept hb1 x10 hl_x
    replace y0 := cell_kept hb1 y0 hl_y
    replace y1 := cell_kept hb1 y1 hl_y
    replace y2 := cell_kept hb1 y2 hl_y
    replace y3 := cell_kept hb1 y3 hl_y
    replace y4 := cell_kept hb1 y4 hl_y
    replace y5 := cell_kept hb1 y5 hl_y
    replace y6 := cell_kept hb1 y6 hl_y
    replace y7 := cell_kept hb1 y7 hl_y
    replace y8 := cell_kept hb1 y8 hl_y
    replace y9 := cell_kept hb1 y9 hl_y
    replace y10 := cell_kept hb1 y10 hl_y
    replace z0 := cell_kept hb1 z0 hl_z
    replace z1 := cell_kept hb1 z1 hl_z
    replace z2 := cell_kept hb1 z2 hl_z
    replace z3 := cell_kept hb1 z3 hl_z
    replace z4 := cell_kept hb1 z4 hl_z
    replace z5 := cell_kept hb1 z5 hl_z
    replace z6 := cell_kept hb1 z6 hl_z
    replace z7 := cell_kept hb1 z7 hl_z
    replace z8 := cell_kept hb1 z8 hl_z
    replace z9 := cell_kept hb1 z9 hl_z
    replace Hb := Lib.hid (Hb.out.trans (hb1.mono hwl))
    replace hl_x := Nat.lt_of_lt_of_le hl_x hb1.size
    replace hl_y := Nat.lt_of_lt_of_le hl_y hb1.size
    replace hl_z := Nat.lt_of_lt_of_le hl_z hb1.size
    replace hwl := Nat.le_trans hwl hb1.size
    clear hb1
    by_cases hlt : k < 2
    case pos =>
      obtain ⟨t, htk, c0, c1, c2, c3, c4⟩ : ∃ t : TermD, [m.a, m.b][k]? = some t ∧ wr.cell? ⟨w.heap.size + 1 + 1, k * 5, none⟩ = some (.string t.name) ∧ wr.cell? ⟨w.heap.size + 1 + 1, k * 5 + 1, none⟩ = some (.string t.path) ∧ wr.cell? ⟨w.heap.size + 1 + 1, k * 5 + 2, none⟩ = some (.int .i64 t.var) ∧ wr.cell? ⟨w.heap.size + 1 + 1, k * 5 + 3, none⟩ = some (.int .i64 t.field) ∧ wr.cell? ⟨w.heap.size + 1 + 1, k * 5 + 4, none⟩ = some (.int .i64 t.n) := by
        rcases (show k = 0 ∨ k = 1 by omega) with rfl | rfl
        · exact ⟨m.a, rfl, z0, z1, z2, z3, z4⟩
        · exact ⟨m.b, rfl, z5, z6, z7, z8, z9⟩
      have htake : [m.a, m.b].take (k + 1) = [m.a, m.b].take k ++ [t] := by rw [List.take_add_one, htk]; rfl
      have hLk : L.length ≤ k := by
        have h1 := congrArg List.length HL.out
        have h2 := List.length_filterMap_le (fun t => termTy? s r.froms t r.froms.length) ([m.a, m.b].take k)
        simp only [List.length_map] at h1
        rw [List.length_take] at h2
        omega
      have Htake := Lib.hid htake
      have Htk := Lib.hid htk
      clear htake htk
      have hlt' : (k : Int) < 2 := by omega
      go_wp2_with fail
      clear c0 c1 c2 c3 c4
      generalize hw0 : World.alloc _ _ = w2
      obtain ⟨X0, hsz, hb1⟩ := blk1 hw0
      have v0 : w2.cell? ⟨wr.heap.size, 0, none⟩ = some (.string t.name) := X0.cell 0
      have v1 : w2.cell? ⟨wr.heap.size, 1, none⟩ = some (.string t.path) := X0.cell 1
      have v2 : w2.cell? ⟨wr.heap.size, 2, none⟩ = some (.int .i64 t.var) := X0.cell 2
      have v3 : w2.cell? ⟨wr.heap.size, 3, none⟩ = some (.int .i64 t.field) := X0.cell 3
      have v4 : w2.cell? ⟨wr.heap.size, 4, none⟩ = some (.int .i64 t.n) := X0.cell 4
      have hl_v : wr.heap.size < w2.heap.size := by omega
      replace x0 := cell_kept hb1 x0 hl_x
      replace x1 := cell_kept hb1 x1 hl_x
      replace x2 := cell_kept hb1 x2 hl_x
      replace x3 := cell_kept hb1 x3 hl_x
      replace x4 := cell_kept hb1 x4 hl_x
      replace x5 := cell_kept hb1 x5 hl_x
      replace x6 := cell_kept hb1 x6 hl_x
      replace x7 := cell_kept hb1 x7 hl_x
      replace x8 := cell_kept hb1 x8 hl_x
      replace x9 := cell_kept hb1 x9 hl_x
      replace x10 := cell_kept hb1 x10 hl_x
      replace y0 := cell_kept hb1 y0 hl_y
      replace y1 := cell_kept hb1 y1 hl_y
      replace y2 := cell_kept hb1 y2 hl_y
      replace y3 := cell_kept hb1 y3 hl_y
      replace y4 := cell_kept hb1 y4 hl_y
      replace y5 := cell_kept hb1 y5 hl_y
      replace y6 := cell_kept hb1 y6 hl_y
      replace y7 := cell_kept hb1 y7 hl_y
      replace y8 := cell_kept hb1 y8 hl_y
      replace y9 := cell_kept hb1 y9 hl_y
      replace y10 := cell_kept hb1 y10 hl_y
      replace z0 := cell_kept hb1 z0 hl_z
      replace z1 := cell_kept hb1 z1 hl_z
      replace z2 := cell_kept hb1 z2 hl_z
      replace z3 := cell_kept hb1 z3 hl_z
      replace z4 := cell_kept hb1 z4 hl_z
      replace z5 := cell_kept hb1 z5 hl_z
      replace z6 := cell_kept hb1 z6 hl_z
      replace z7 := cell_kept hb1 z7 hl_z
      replace z8 := cell_kept hb1 z8 hl_z
      replace z9 := cell_kept hb1 z9 hl_z
      replace Hb := Lib.hid (Hb.out.trans (hb1.mono hwl))
      replace Hb1 := Lib.hid (Hb1.out.trans (hb1.mono hwl1))
      replace hl_x := Nat.lt_of_lt_of_le hl_x hb1.size
      replace hl_y := Nat.lt_of_lt_of_le hl_y hb1.size
      replace hl_z := Nat.lt_of_lt_of_le hl_z hb1.size
      replace hwl := Nat.le_trans hwl hb1.size
      replace hwl1 := Nat.le_trans hwl1 hb1.size
      replace HO := Lib.hid (HO.out.below hb1)
      clear hb1
      clear hw0 hsz X0
      refine (termType_any s p r q t r.froms.length wb Hs.out Hr.out _ (Hbb.out.trans (Hb.out.mono Hbb.out.size)) (Int.le_refl _)).mono ?_
      cases htt : termTy? s r.froms t r.froms.length with
      | none =>
        rintro e w3 ⟨⟨ty, an, kn, rfl⟩, hb1⟩
        replace x0 := cell_kept hb1 x0 hl_x
        replace x1 := cell_kept hb1 x1 hl_x
        replace x2 := cell_kept hb1 x2 hl_x
        replace x3 := cell_kept hb1 x3 hl_x
        replace x4 := cell_kept hb1 x4 hl_x
        replace x5 := cell_kept hb1 x5 hl_x
        replace x6 := cell_kept hb1 x6 hl_x
        replace x7 := cell_kept hb1 x7 hl_x
        replace x8 := cell_kept hb1 x8 hl_x
        replace x9 := cell_kept hb1 x9 hl_x
        replace x10 := cell_kept hb1 x10 hl_x
        replace y0 := cell_kept hb1 y0 hl_y
        replace y1 := cell_kept hb1 y1 hl_y
        replace y2 := cell_kept hb1 y2 hl_y
        replace y3 := cell_kept hb1 y3 hl_y
        replace y4 := cell_kept hb1 y4 hl_y
        replace y5 := cell_kept hb1 y5 hl_y
        replace y6 := cell_kept hb1 y6 hl_y
        replace y7 := cell_kept hb1 y7 hl_y
        replace y8 := cell_kept hb1 y8 hl_y
        replace y9 := cell_kept hb1 y9 hl_y
        replace y10 := cell_kept hb1 y10 hl_y
        replace z0 := cell_kept hb1 z0 hl_z
        replace z1 := cell_kept hb1 z1 hl_z
        replace z2 := cell_kept hb1 z2 hl_z
        replace z3 := cell_kept hb1 z3 hl_z
        replace z4 := cell_kept hb1 z4 hl_z
        replace z5 := cell_kept hb1 z5 hl_z
        replace z6 := cell_kept hb1 z6 hl_z
        replace z7 := cell_kept hb1 z7 hl_z
        replace z8 := cell_kept hb1 z8 hl_z
        replace z9 := cell_kept hb1 z9 hl_z
        replace v0 := cell_kept hb1 v0 hl_v
        replace v1 := cell_kept hb1 v1 hl_v
        replace v2 := cell_kept hb1 v2 hl_v
        replace v3 := cell_kept hb1 v3 hl_v
        replace v4 := cell_kept hb1 v4 hl_v
        replace Hb := Lib.hid (Hb.out.trans (hb1.mono hwl))
        replace Hb1 := Lib.hid (Hb1.out.trans (hb1.mono hwl1))
        replace hl_x := Nat.lt_of_lt_of_le hl_x hb1.size
        replace hl_y := Nat.lt_of_lt_of_le hl_y hb1.size
        replace hl_z := Nat.lt_of_lt_of_le hl_z hb1.size
        replace hl_v := Nat.lt_of_lt_of_le hl_v hb1.size
        replace hwl := Nat.le_trans hwl hb1.size
        replace hwl1 := Nat.le_trans hwl1 hb1.size
        replace HO := Lib.hid (HO.out.below hb1)
        clear hb1
        go_wp2_with fail
        generalize hw0 : World.alloc _ _ = w4
        obtain ⟨X0, hsz, hb1⟩ := blk1 hw0
        have u0 : w4.cell? ⟨w3.heap.size, 0, none⟩ = some (.int .i64 ty.kind) := X0.cell 0
        have u1 : w4.cell? ⟨w3.heap.size, 1, none⟩ = some (.int .i64 ty.lo) := X0.cell 1
        have u2 : w4.cell? ⟨w3.heap.size, 2, none⟩ = some (.int .i64 ty.hi) := X0.cell 2
        have u3 : w4.cell? ⟨w3.heap.size, 3, none⟩ = some (.string ty.of_) := X0.cell 3
        have u4 : w4.cell? ⟨w3.heap.size, 4, none⟩ = some (.int .i64 ty.unit) := X0.cell 4
        have u5 : w4.cell? ⟨w3.heap.size, 5, none⟩ = some (.slice an ty.names.length kn) := X0.cell 5
        have hl_u : w3.heap.size < w4.heap.size := by omega
        replace x0 := cell_kept hb1 x0 hl_x
        replace x1 := cell_kept hb1 x1 hl_x
        replace x2 := cell_kept hb1 x2 hl_x
        replace x3 := cell_kept hb1 x3 hl_x
        replace x4 := cell_kept hb1 x4 hl_x
        replace x5 := cell_kept hb1 x5 hl_x
        replace x6 := cell_kept hb1 x6 hl_x
        replace x7 := cell_kept hb1 x7 hl_x
        replace x8 := cell_kept hb1 x8 hl_x
        replace x9 := cell_kept hb1 x9 hl_x
        replace x10 := cell_kept hb1 x10 hl_x
        replace y0 := cell_kept hb1 y0 hl_y
        replace y1 := cell_kept hb1 y1 hl_y
        replace y2 := cell_kept hb1 y2 hl_y
        replace y3 := cell_kept hb1 y3 hl_y
        replace y4 := cell_kept hb1 y4 hl_y
        replace y5 := cell_kept hb1 y5 hl_y
        replace y6 := cell_kept hb1 y6 hl_y
        replace y7 := cell_kept hb1 y7 hl_y
        replace y8 := cell_kept hb1 y8 hl_y
        replace y9 := cell_kept hb1 y9 hl_y
        replace y10 := cell_kept hb1 y10 hl_y
        replace z0 := cell_kept hb1 z0 hl_z
        replace z1 := cell_kept hb1 z1 hl_z
        replace z2 := cell_kept hb1 z2 hl_z
        replace z3 := cell_kept hb1 z3 hl_z
        replace z4 := cell_kept hb1 z4 hl_z
        replace z5 := cell_kept hb1 z5 hl_z
        replace z6 := cell_kept hb1 z6 hl_z
        replace z7 := cell_kept hb1 z7 hl_z
        replace z8 := cell_kept hb1 z8 hl_z
        replace z9 := cell_kept hb1 z9 hl_z
        replace v0 := cell_kept hb1 v0 hl_v
        replace v1 := cell_kept hb1 v1 hl_v
        replace v2 := cell_kept hb1 v2 hl_v
        replace v3 := cell_kept hb1 v3 hl_v
        replace v4 := cell_kept hb1 v4 hl_v
        replace Hb := Lib.hid (Hb.out.trans (hb1.mono hwl))
        replace Hb1 := Lib.hid (Hb1.out.trans (hb1.mono hwl1))
        replace hl_x := Nat.lt_of_lt_of_le hl_x hb1.size
        replace hl_y := Nat.lt_of_lt_of_le hl_y hb1.size
        replace hl_z := Nat.lt_of_lt_of_le hl_z hb1.size
        replace hl_v := Nat.lt_of_lt_of_le hl_v hb1.size
        replace hwl := Nat.le_trans hwl hb1.size
        replace hwl1 := Nat.le_trans hwl1 hb1.size
        replace HO := Lib.hid (HO.out.below hb1)
        clear hb1
        clear hw0 hsz X0
        refine (isNum_any t _).mono ?_
        rintro e w5 ⟨rfl, hb1⟩
        replace x0 := cell_kept hb1 x0 hl_x
        replace x1 := cell_kept hb1 x1 hl_x
        replace x2 := cell_kept hb1 x2 hl_x
        replace x3 := cell_kept hb1 x3 hl_x
        replace x4 := cell_kept hb1 x4 hl_x
        replace x5 := cell_kept hb1 x5 hl_x
        replace x6 := cell_kept hb1 x6 hl_x
        replace x7 := cell_kept hb1 x7 hl_x
        replace x8 := cell_kept hb1 x8 hl_x
        replace x9 := cell_kept hb1 x9 hl_x
        replace x10 := cell_kept hb1 x10 hl_x
        replace y0 := cell_kept hb1 y0 hl_y
        replace y1 := cell_kept hb1 y1 hl_y
        replace y2 := cell_kept hb1 y2 hl_y
        replace y3 := cell_kept hb1 y3 hl_y
        replace y4 := cell_kept hb1 y4 hl_y
        replace y5 := cell_kept hb1 y5 hl_y
        replace y6 := cell_kept hb1 y6 hl_y
        replace y7 := cell_kept hb1 y7 hl_y
        replace y8 := cell_kept hb1 y8 hl_y
        replace y9 := cell_kept hb1 y9 hl_y
        replace y10 := cell_kept hb1 y10 hl_y
        replace z0 := cell_kept hb1 z0 hl_z
        replace z1 := cell_kept hb1 z1 hl_z
        replace z2 := cell_kept hb1 z2 hl_z
        replace z3 := cell_kept hb1 z3 hl_z
        replace z4 := cell_kept hb1 z4 hl_z
        replace z5 := cell_kept hb1 z5 hl_z
        replace z6 := cell_kept hb1 z6 hl_z
        replace z7 := cell_kept hb1 z7 hl_z
        replace z8 := cell_kept hb1 z8 hl_z
        replace z9 := cell_kept hb1 z9 hl_z
        replace v0 := cell_kept hb1 v0 hl_v
        replace v1 := cell_kept hb1 v1 hl_v
        replace v2 := cell_kept hb1 v2 hl_v
        replace v3 := cell_kept hb1 v3 hl_v
        replace v4 := cell_kept hb1 v4 hl_v
        replace u0 := cell_kept hb1 u0 hl_u
        replace u1 := cell_kept hb1 u1 hl_u
        replace u2 := cell_kept hb1 u2 hl_u
        replace u3 := cell_kept hb1 u3 hl_u
        replace u4 := cell_kept hb1 u4 hl_u
        replace u5 := cell_kept hb1 u5 hl_u
        replace Hb := Lib.hid (Hb.out.trans (hb1.mono hwl))
        replace Hb1 := Lib.hid (Hb1.out.trans (hb1.mono hwl1))
        replace hl_x := Nat.lt_of_lt_of_le hl_x hb1.size
        replace hl_y := Nat.lt_of_lt_of_le hl_y hb1.size
        replace hl_z := Nat.lt_of_lt_of_le hl_z hb1.size
        replace hl_v := Nat.lt_of_lt_of_le hl_v hb1.size
        replace hl_u := Nat.lt_of_lt_of_le hl_u hb1.size
        replace hwl := Nat.le_trans hwl hb1.size
        replace hwl1 := Nat.le_trans hwl1 hb1.size
        replace HO := Lib.hid (HO.out.below hb1)
        clear hb1
        cases hnum : isNumB t with
        | false =>
          go_wp2
          go_ret
          refine ⟨ret_bool ?_, Hb.out⟩
          have : [m.a, m.b].all (okT s r.froms) = false := by
            rw [List.all_eq_false]
            exact ⟨t, List.mem_of_getElem? Htk.out, by simp [okT, htt, hnum]⟩
          rw [Hab.out, this]; rfl
        | true =>
          go_wp2_with fail
          go_roundw
          case rel => exact ⟨k + 1, L, by omega, by go_num, HO, Lib.hid (by rw [HL.out, Htake.out, List.filterMap_append]; simp [htt]), HN, Lib.hid (fun x hx => by
            rw [Htake.out] at hx
            simp only [List.mem_append, List.mem_singleton] at hx
            rcases hx with hx | rfl
            · exact HK.out x hx
            · simp [okT, hnum]), Hb1.out⟩
          case measure => simp [intOf]; omega
      | some y =>
        rintro e w3 ⟨⟨an, kn, rfl, hny⟩, hb1⟩
        have Hny := Lib.hid hny
        have Htt := Lib.hid htt
        clear hny htt
        replace x0 := cell_kept hb1 x0 hl_x
        replace x1 := cell_kept hb1 x1 hl_x
        replace x2 := cell_kept hb1 x2 hl_x
        replace x3 := cell_kept hb1 x3 hl_x
        replace x4 := cell_kept hb1 x4 hl_x
        replace x5 := cell_kept hb1 x5 hl_x
        replace x6 := cell_kept hb1 x6 hl_x
        replace x7 := cell_kept hb1 x7 hl_x
        replace x8 := cell_kept hb1 x8 hl_x
        replace x9 := cell_kept hb1 x9 hl_x
        replace x10 := cell_kept hb1 x10 hl_x
        replace y0 := cell_kept hb1 y0 hl_y
        replace y1 := cell_kept hb1 y1 hl_y
        replace y2 := cell_kept hb1 y2 hl_y
        replace y3 := cell_kept hb1 y3 hl_y
        replace y4 := cell_kept hb1 y4 hl_y
        replace y5 := cell_kept hb1 y5 hl_y
        replace y6 := cell_kept hb1 y6 hl_y
        replace y7 := cell_kept hb1 y7 hl_y
        replace y8 := cell_kept hb1 y8 hl_y
        replace y9 := cell_kept hb1 y9 hl_y
        replace y10 := cell_kept hb1 y10 hl_y
        replace z0 := cell_kept hb1 z0 hl_z
        replace z1 := cell_kept hb1 z1 hl_z
        replace z2 := cell_kept hb1 z2 hl_z
        replace z3 := cell_kept hb1 z3 hl_z
        replace z4 := cell_kept hb1 z4 hl_z
        replace z5 := cell_kept hb1 z5 hl_z
        replace z6 := cell_kept hb1 z6 hl_z
        replace z7 := cell_kept hb1 z7 hl_z
        replace z8 := cell_kept hb1 z8 hl_z
        replace z9 := cell_kept hb1 z9 hl_z
        replace v0 := cell_kept hb1 v0 hl_v
        replace v1 := cell_kept hb1 v1 hl_v
        replace v2 := cell_kept hb1 v2 hl_v
        replace v3 := cell_kept hb1 v3 hl_v
        replace v4 := cell_kept hb1 v4 hl_v
        replace Hb := Lib.hid (Hb.out.trans (hb1.mono hwl))
        replace Hb1 := Lib.hid (Hb1.out.trans (hb1.mono hwl1))
        replace hl_x := Nat.lt_of_lt_of_le hl_x hb1.size
        replace hl_y := Nat.lt_of_lt_of_le hl_y hb1.size
        replace hl_z := Nat.lt_of_lt_of_le hl_z hb1.size
        replace hl_v := Nat.lt_of_lt_of_le hl_v hb1.size
        replace hwl := Nat.le_trans hwl hb1.size
        replace hwl1 := Nat.le_trans hwl1 hb1.size
        replace HO := Lib.hid (HO.out.below hb1)
        clear hb1
        have hmax : L.length + 1 ≤ maxLen := by unfold maxLen; omega
        go_wp2_with (at_builtin; refine wpList_append_own _ rfl _ _ 122 rfl w0.heap.size 71 i0 (.agg #[.int .i64 0, .int .i64 0, .int .i64 0, .string ⟨#[]⟩, .int .i64 0, .slice none 0 0]) 6 72 Try.underlying122 hi hz0 hz1 hz2 rfl (by decide) _ _ _ rfl (((HO.out.alloc _).alloc _).row) ⟨w3.heap.size + 1, 0, none⟩ 1 1 (encT (y, an, kn)) rfl rfl (cells_new' _ _ _ _ (by simp)) (by simp [encT, Value.oneCell']) hmax (by omega) (by simp; omega) ?_; intro v' w4 hown hgrow hnil)
        go_roundw
        case rel => exact ⟨k + 1, L ++ [(y, an, kn)], by omega, by go_num, Lib.hid (OwnL.snoc hown), Lib.hid (by rw [List.map_append, HL.out, Htake.out, List.filterMap_append]; simp [Htt.out]), Lib.hid (fun x hx => by
            simp only [List.mem_append, List.mem_singleton] at hx
            rcases hx with hx | rfl
            · exact HN.out x hx
            · exact Hny.out), Lib.hid (fun x hx => by
            rw [Htake.out] at hx
            simp only [List.mem_append, List.mem_singleton] at hx
            rcases hx with hx | rfl
            · exact HK.out x hx
            · simp [okT, Htt.out]), ((Hb1.out.alloc hwl1 _).alloc (by simp; omega) _).grown hgrow (by simp; omega) HO.out.ge⟩
        case measure => simp [intOf]; omega
    case neg =>
      obtain rfl : k = 2 := by omega
      have hLt : L.map (·.1) = atomTys s r.froms m := HL.out
      have hok : [m.a, m.b].all (okT s r.froms) = true := List.all_eq_true.2 HK.out
      have Hv := Lib.hid (show atomB s r.froms m = (pairOK s.units (L.map (·.1)) && (L.map (·.1)).all (ordOK m.op)) by rw [Hab.out, hok, hLt]; rfl)
      have HLt := Lib.hid hLt
      have hl2 : L.length ≤ 2 := by
        have h1 := congrArg List.length hLt
        have h2 := List.length_filterMap_le (fun t => termTy? s r.froms t r.froms.length) [m.a, m.b]
        simp only [List.length_map] at h1
        simp only [List.length_cons, List.length_nil] at h2
        unfold atomTys at h1
        omega
      clear hLt hok HL HK
      obtain ⟨a, cap, hv, hc⟩ := HO.out.out encT_len
      subst hv
      rcases (show L.length = 0 ∨ L.length = 1 ∨ L.length = 2 by omega) with hn | hn | hn
      · obtain rfl := List.length_eq_zero_iff.1 hn
        clear hc hn
        simp only [List.length_nil]
        go_wp2_with fail
        refine wp_region_grown (by kernel_rfl) (by kernel_rfl) ?_
        repeat (go_big_quiet_step (fail))
        refine wpQuiet_nil ?_
        intro w5 hw0
        have hb1 : Below wr.heap.size wr w5 := by obtain ⟨n, rfl⟩ := hw0; exact grown_below _ n
        clear hw0
        replace x0 := cell_kept hb1 x0 hl_x
        replace x1 := cell_kept hb1 x1 hl_x
        replace x2 := cell_kept hb1 x2 hl_x
        replace x3 := cell_kept hb1 x3 hl_x
        replace x4 := cell_kept hb1 x4 hl_x
        replace x5 := cell_kept hb1 x5 hl_x
        replace x6 := cell_kept hb1 x6 hl_x
        replace x7 := cell_kept hb1 x7 hl_x
        replace x8 := cell_kept hb1 x8 hl_x
        replace x9 := cell_kept hb1 x9 hl_x
        replace x10 := cell_kept hb1 x10 hl_x
        replace y0 := cell_kept hb1 y0 hl_y
        replace y1 := cell_kept hb1 y1 hl_y
        replace y2 := cell_kept hb1 y2 hl_y
        replace y3 := cell_kept hb1 y3 hl_y
        replace y4 := cell_kept hb1 y4 hl_y
        replace y5 := cell_kept hb1 y5 hl_y
        replace y6 := cell_kept hb1 y6 hl_y
        replace y7 := cell_kept hb1 y7 hl_y
        replace y8 := cell_kept hb1 y8 hl_y
        replace y9 := cell_kept hb1 y9 hl_y
        replace y10 := cell_kept hb1 y10 hl_y
        replace z0 := cell_kept hb1 z0 hl_z
        replace z1 := cell_kept hb1 z1 hl_z
        replace z2 := cell_kept hb1 z2 hl_z
        replace z3 := cell_kept hb1 z3 hl_z
        replace z4 := cell_kept hb1 z4 hl_z
        replace z5 := cell_kept hb1 z5 hl_z
        replace z6 := cell_kept hb1 z6 hl_z
        replace z7 := cell_kept hb1 z7 hl_z
        replace z8 := cell_kept hb1 z8 hl_z
        replace z9 := cell_kept hb1 z9 hl_z
        replace Hb := Lib.hid (Hb.out.trans (hb1.mono hwl))
        replace Hb1 := Lib.hid (Hb1.out.trans (hb1.mono hwl1))
        replace hl_x := Nat.lt_of_lt_of_le hl_x hb1.size
        replace hl_y := Nat.lt_of_lt_of_le hl_y hb1.size
        replace hl_z := Nat.lt_of_lt_of_le hl_z hb1.size
        replace hwl := Nat.le_trans hwl hb1.size
        replace hwl1 := Nat.le_trans hwl1 hb1.size
        clear hb1
        go_wp2
        go_ret
        exact ⟨ret_bool (by rw [Hv.out]; rfl), Hb.out⟩
      · obtain ⟨⟨tA, aA, kA⟩, rfl⟩ := List.length_eq_one_iff.1 hn
        obtain ⟨g, rfl, -⟩ := hc 0 (by simp)
        clear hc hn
        simp only [List.length_cons, List.length_nil, Nat.zero_add] at HO ⊢
        go_wp2_with fail
        refine wp_region_grown (by kernel_rfl) (by kernel_rfl) ?_
        repeat (go_big_quiet_step (fail))
        refine wpQuiet_nil ?_
        intro w5 hw0
        have hb1 : Below wr.heap.size wr w5 := by obtain ⟨n, rfl⟩ := hw0; exact grown_below _ n
        clear hw0
        replace x0 := cell_kept hb1 x0 hl_x
        replace x1 := cell_kept hb1 x1 hl_x
        replace x2 := cell_kept hb1 x2 hl_x
        replace x3 := cell_kept hb1 x3 hl_x
        replace x4 := cell_kept hb1 x4 hl_x
        replace x5 := cell_kept hb1 x5 hl_x
        replace x6 := cell_kept hb1 x6 hl_x
        replace x7 := cell_kept hb1 x7 hl_x
        replace x8 := cell_kept hb1 x8 hl_x
        replace x9 := cell_kept hb1 x9 hl_x
        replace x10 := cell_kept hb1 x10 hl_x
        replace y0 := cell_kept hb1 y0 hl_y
        replace y1 := cell_kept hb1 y1 hl_y
        replace y2 := cell_kept hb1 y2 hl_y
        replace y3 := cell_kept hb1 y3 hl_y
        replace y4 := cell_kept hb1 y4 hl_y
        replace y5 := cell_kept hb1 y5 hl_y
        replace y6 := cell_kept hb1 y6 hl_y
        replace y7 := cell_kept hb1 y7 hl_y
        replace y8 := cell_kept hb1 y8 hl_y
        replace y9 := cell_kept hb1 y9 hl_y
        replace y10 := cell_kept hb1 y10 hl_y
        replace z0 := cell_kept hb1 z0 hl_z
        replace z1 := cell_kept hb1 z1 hl_z
        replace z2 := cell_kept hb1 z2 hl_z
        replace z3 := cell_kept hb1 z3 hl_z
        replace z4 := cell_kept hb1 z4 hl_z
        replace z5 := cell_kept hb1 z5 hl_z
        replace z6 := cell_kept hb1 z6 hl_z
        replace z7 := cell_kept hb1 z7 hl_z
        replace z8 := cell_kept hb1 z8 hl_z
        replace z9 := cell_kept hb1 z9 hl_z
        replace Hb := Lib.hid (Hb.out.trans (hb1.mono hwl))
        replace Hb1 := Lib.hid (Hb1.out.trans (hb1.mono hwl1))
        replace hl_x := Nat.lt_of_lt_of_le hl_x hb1.size
        replace hl_y := Nat.lt_of_lt_of_le hl_y hb1.size
        replace hl_z := Nat.lt_of_lt_of_le hl_z hb1.size
        replace hwl := Nat.le_trans hwl hb1.size
        replace hwl1 := Nat.le_trans hwl1 hb1.size
        replace HO := Lib.hid (HO.out.below hb1)
        clear hb1
        obtain ⟨hBg, hl_e, hcell⟩ := HO.out.at encT_len
        have e0 : w5.cell? ⟨g, 0, none⟩ = some (.int .i64 tA.kind) := hcell 0 (by simp) 0 (by omega)
        have e1 : w5.cell? ⟨g, 1, none⟩ = some (.int .i64 tA.lo) := hcell 0 (by simp) 1 (by omega)
        have e2 : w5.cell? ⟨g, 2, none⟩ = some (.int .i64 tA.hi) := hcell 0 (by simp) 2 (by omega)
        have e3 : w5.cell? ⟨g, 3, none⟩ = some (.string tA.of_) := hcell 0 (by simp) 3 (by omega)
        have e4 : w5.cell? ⟨g, 4, none⟩ = some (.int .i64 tA.unit) := hcell 0 (by simp) 4 (by omega)
        have e5 : w5.cell? ⟨g, 5, none⟩ = some (.slice aA tA.names.length kA) := hcell 0 (by simp) 5 (by omega)
        clear hcell
        go_wp2_with fail
        go_loopw [76] (fun i wr => ∃ j : Nat, j ≤ 1 ∧ i = .int .i64 j ∧ Hid (([tA].take j).all (ordOK m.op) = true) ∧ Below w5.heap.size w5 wr) (fun i _ => 1 - (intOf i).toNat)
        case atStart => exact ⟨0, Nat.zero_le _, rfl, Lib.hid rfl, Below.refl _ _⟩
        case round =>
          obtain ⟨j, hj, rfl, HQ, hb1⟩ := hrel
          have Hb2 := Lib.hid hb1
          have hwl2 := hb1.size
          replace x0 := cell_kept hb1 x0 hl_x
          replace x1 := cell_kept hb1 x1 hl_x
          replace x2 := cell_kept hb1 x2 hl_x
          replace x3 := cell_kept hb1 x3 hl_x
          replace x4 := cell_kept hb1 x4 hl_x
          replace x5 := cell_kept hb1 x5 hl_x
          replace x6 := cell_kept hb1 x6 hl_x
          replace x7 := cell_kept hb1 x7 hl_x
          replace x8 := cell_kept hb1 x8 hl_x
          replace x9 := cell_kept hb1 x9 hl_x
          replace x10 := cell_kept hb1 x10 hl_x
          replace y0 := cell_kept hb1 y0 hl_y
          replace y1 := cell_kept hb1 y1 hl_y
          replace y2 := cell_kept hb1 y2 hl_y
          replace y3 := cell_kept hb1 y3 hl_y
          replace y4 := cell_kept hb1 y4 hl_y
          replace y5 := cell_kept hb1 y5 hl_y
          replace y6 := cell_kept hb1 y6 hl_y
          replace y7 := cell_kept hb1 y7 hl_y
          replace y8 := cell_kept hb1 y8 hl_y
          replace y9 := cell_kept hb1 y9 hl_y
          replace y10 := cell_kept hb1 y10 hl_y
          replace z0 := cell_kept hb1 z0 hl_z
          replace z1 := cell_kept hb1 z1 hl_z
          replace z2 := cell_kept hb1 z2 hl_z
          replace z3 := cell_kept hb1 z3 hl_z
          replace z4 := cell_kept hb1 z4 hl_z
          replace z5 := cell_kept hb1 z5 hl_z
          replace z6 := cell_kept hb1 z6 hl_z
          replace z7 := cell_kept hb1 z7 hl_z
          replace z8 := cell_kept hb1 z8 hl_z
          replace z9 := cell_kept hb1 z9 hl_z
          replace e0 := cell_kept hb1 e0 hl_e
          replace e1 := cell_kept hb1 e1 hl_e
          replace e2 := cell_kept hb1 e2 hl_e
          replace e3 := cell_kept hb1 e3 hl_e
          replace e4 := cell_kept hb1 e4 hl_e
          replace e5 := cell_kept hb1 e5 hl_e
          replace Hb := Lib.hid (Hb.out.trans (hb1.mono hwl))
          replace Hb1 := Lib.hid (Hb1.out.trans (hb1.mono hwl1))
          replace hl_x := Nat.lt_of_lt_of_le hl_x hb1.size
          replace hl_y := Nat.lt_of_lt_of_le hl_y hb1.size
          replace hl_z := Nat.lt_of_lt_of_le hl_z hb1.size
          replace hl_e := Nat.lt_of_lt_of_le hl_e hb1.size
          replace hwl := Nat.le_trans hwl hb1.size
          replace hwl1 := Nat.le_trans hwl1 hb1.size
          clear hb1
          by_cases hjn : j < 1
          case neg =>
            go_wp2
            go_ret
            obtain rfl : j = 1 := by omega
            have hq : [tA].all (ordOK m.op) = true := HQ.out
            exact ⟨ret_bool (by rw [Hv.out]; simp only [List.map_cons, List.map_nil]; rw [hq]; simp [pairOK]), Hb.out⟩
          obtain ⟨ty, tn, tk, hty, d0, d1, d2, d3, d4, d5⟩ : ∃ (ty : TyD) (tn : Option Addr) (tk : Nat), [tA][j]? = some ty ∧ wr.cell? ⟨g, j * 6, none⟩ = some (.int .i64 ty.kind) ∧ wr.cell? ⟨g, j * 6 + 1, none⟩ = some (.int .i64 ty.lo) ∧ wr.cell? ⟨g, j * 6 + 2, none⟩ = some (.int .i64 ty.hi) ∧ wr.cell? ⟨g, j * 6 + 3, none⟩ = some (.string ty.of_) ∧ wr.cell? ⟨g, j * 6 + 4, none⟩ = some (.int .i64 ty.unit) ∧ wr.cell? ⟨g, j * 6 + 5, none⟩ = some (.slice tn ty.names.length tk) := by
            obtain rfl : j = 0 := by omega
            exact ⟨tA, aA, kA, rfl, e0, e1, e2, e3, e4, e5⟩
          have htake : [tA].take (j + 1) = [tA].take j ++ [ty] := by rw [List.take_add_one, hty]; rfl
          have Htake2 := Lib.hid htake
          have Hty := Lib.hid hty
          clear htake hty
          have hjn' : (j : Int) < 1 := by omega
          have hK : ((ty.kind == 1) = true) ∨ ((ty.kind == 1) = false ∧ (ty.kind == 2) = true) ∨ ((ty.kind == 1) = false ∧ (ty.kind == 2) = false) := by cases (ty.kind == 1) <;> cases (ty.kind == 2) <;> simp
          have hO : ((m.op == 2) = true) ∨ ((m.op == 2) = false ∧ (m.op == 3) = true) ∨ ((m.op == 2) = false ∧ (m.op == 3) = false) := by cases (m.op == 2) <;> cases (m.op == 3) <;> simp
          rcases hK with k1 | ⟨k1, k2⟩ | ⟨k1, k2⟩
          · rcases hO with o2 | ⟨o2, o3⟩ | ⟨o2, o3⟩
            · have Ho := Lib.hid (show ordOK m.op ty = true by simp at k1 o2; simp [ordOK, ordB, *])
              go_wp2_with fail
              go_roundw
              case rel => exact ⟨j + 1, by omega, by go_num, Lib.hid (by rw [Htake2.out, List.all_append, HQ.out]; simp [Ho.out]), Hb2.out.alloc hwl2 _⟩
              case measure => simp [intOf]; omega
            · have Ho := Lib.hid (show ordOK m.op ty = true by simp at k1 o2 o3; simp [ordOK, ordB, *])
              go_wp2_with fail
              go_roundw
              case rel => exact ⟨j + 1, by omega, by go_num, Lib.hid (by rw [Htake2.out, List.all_append, HQ.out]; simp [Ho.out]), Hb2.out.alloc hwl2 _⟩
              case measure => simp [intOf]; omega
            · have Ho := Lib.hid (show ordOK m.op ty = true by simp at k1 o2 o3; simp [ordOK, ordB, *])
              go_wp2_with fail
              go_roundw
              case rel => exact ⟨j + 1, by omega, by go_num, Lib.hid (by rw [Htake2.out, List.all_append, HQ.out]; simp [Ho.out]), Hb2.out.alloc hwl2 _⟩
              case measure => simp [intOf]; omega
          · rcases hO with o2 | ⟨o2, o3⟩ | ⟨o2, o3⟩
            · have Ho := Lib.hid (show ordOK m.op ty = true by simp at k1 k2 o2; simp [ordOK, ordB, *])
              go_wp2_with fail
              go_roundw
              case rel => exact ⟨j + 1, by omega, by go_num, Lib.hid (by rw [Htake2.out, List.all_append, HQ.out]; simp [Ho.out]), Hb2.out.alloc hwl2 _⟩
              case measure => simp [intOf]; omega
            · have Ho := Lib.hid (show ordOK m.op ty = true by simp at k1 k2 o2 o3; simp [ordOK, ordB, *])
              go_wp2_with fail
              go_roundw
              case rel => exact ⟨j + 1, by omega, by go_num, Lib.hid (by rw [Htake2.out, List.all_append, HQ.out]; simp [Ho.out]), Hb2.out.alloc hwl2 _⟩
              case measure => simp [intOf]; omega
            · have Ho := Lib.hid (show ordOK m.op ty = true by simp at k1 k2 o2 o3; simp [ordOK, ordB, *])
              go_wp2_with fail
              go_roundw
              case rel => exact ⟨j + 1, by omega, by go_num, Lib.hid (by rw [Htake2.out, List.all_append, HQ.out]; simp [Ho.out]), Hb2.out.alloc hwl2 _⟩
              case measure => simp [intOf]; omega
          · rcases hO with o2 | ⟨o2, o3⟩ | ⟨o2, o3⟩
            · have Ho := Lib.hid (show ordOK m.op ty = false by simp at k1 k2 o2; simp [ordOK, ordB, *])
              go_wp2_with fail
              go_ret
              refine ⟨ret_bool ?_, Hb.out.alloc hwl _⟩
              have hno : [tA].all (ordOK m.op) = false := List.all_eq_false.2 ⟨ty, List.mem_of_getElem? Hty.out, by simp [Ho.out]⟩
              rw [Hv.out]; simp only [List.map_cons, List.map_nil]; rw [hno]; simp
            · have Ho := Lib.hid (show ordOK m.op ty = false by simp at k1 k2 o2 o3; simp [ordOK, ordB, *])
              go_wp2_with fail
              go_ret
              refine ⟨ret_bool ?_, Hb.out.alloc hwl _⟩
              have hno : [tA].all (ordOK m.op) = false := List.all_eq_false.2 ⟨ty, List.mem_of_getElem? Hty.out, by simp [Ho.out]⟩
              rw [Hv.out]; simp only [List.map_cons, List.map_nil]; rw [hno]; simp
            · have Ho := Lib.hid (show ordOK m.op ty = true by simp at k1 k2 o2 o3; simp [ordOK, ordB, *])
              go_wp2_with fail
              go_roundw
              case rel => exact ⟨j + 1, by omega, by go_num, Lib.hid (by rw [Htake2.out, List.all_append, HQ.out]; simp [Ho.out]), Hb2.out.alloc hwl2 _⟩
              case measure => simp [intOf]; omega
      · obtain ⟨⟨tA, aA, kA⟩, ⟨tB, aB, kB⟩, rfl⟩ : ∃ x1 x2, L = [x1, x2] := by
          rcases L with _ | ⟨x1, _ | ⟨x2, _ | ⟨x3, L⟩⟩⟩ <;> simp at hn
          exact ⟨x1, x2, rfl⟩
        obtain ⟨g, rfl, -⟩ := hc 0 (by simp)
        clear hc hn
        obtain ⟨uA, huA⟩ := atomTys_mem (s := s) (fs := r.froms) (m := m) (y := tA) (by rw [← HLt.out]; simp)
        obtain ⟨uB, huB⟩ := atomTys_mem (s := s) (fs := r.froms) (m := m) (y := tB) (by rw [← HLt.out]; simp)
        have hlA := termTy_short hsh huA
        have HuA := Lib.hid (termTy_good hgd huA)
        have HuB := Lib.hid (termTy_good hgd huB)
        clear huA huB
        simp only [List.length_cons, List.length_nil, Nat.zero_add, Nat.reduceAdd] at HO ⊢
        go_wp2_with fail
        obtain ⟨hBg, hl_e, hcell⟩ := HO.out.at encT_len
        have hl_f := hl_e
        have e0 : wr.cell? ⟨g, 0, none⟩ = some (.int .i64 tA.kind) := hcell 0 (by simp) 0 (by omega)
        have e1 : wr.cell? ⟨g, 1, none⟩ = some (.int .i64 tA.lo) := hcell 0 (by simp) 1 (by omega)
        have e2 : wr.cell? ⟨g, 2, none⟩ = some (.int .i64 tA.hi) := hcell 0 (by simp) 2 (by omega)
        have e3 : wr.cell? ⟨g, 3, none⟩ = some (.string tA.of_) := hcell 0 (by simp) 3 (by omega)
        have e4 : wr.cell? ⟨g, 4, none⟩ = some (.int .i64 tA.unit) := hcell 0 (by simp) 4 (by omega)
        have e5 : wr.cell? ⟨g, 5, none⟩ = some (.slice aA tA.names.length kA) := hcell 0 (by simp) 5 (by omega)
        have f0 : wr.cell? ⟨g, 6, none⟩ = some (.int .i64 tB.kind) := hcell 1 (by simp) 0 (by omega)
        have f1 : wr.cell? ⟨g, 7, none⟩ = some (.int .i64 tB.lo) := hcell 1 (by simp) 1 (by omega)
        have f2 : wr.cell? ⟨g, 8, none⟩ = some (.int .i64 tB.hi) := hcell 1 (by simp) 2 (by omega)
        have f3 : wr.cell? ⟨g, 9, none⟩ = some (.string tB.of_) := hcell 1 (by simp) 3 (by omega)
        have f4 : wr.cell? ⟨g, 10, none⟩ = some (.int .i64 tB.unit) := hcell 1 (by simp) 4 (by omega)
        have f5 : wr.cell? ⟨g, 11, none⟩ = some (.slice aB tB.names.length kB) := hcell 1 (by simp) 5 (by omega)
        clear hcell
        cases hcm : cmpB s.units tA tB with
        | false =>
          refine wp_region_grown (by kernel_rfl) (by kernel_rfl) ?_
          repeat (go_big_quiet_step (first | (go_at_call 43; exact calls_grown (cmp_eq s p tA tB aA aB kA kB _ (Hs.out.below (Hbb.out.trans (Below.mono (Hb.out.trans ((grown_below _ _).mono hwl)) Hbb.out.size))) ((HN.out (tA, aA, kA) (by simp)).below RStr.stab (Hbb.out.trans (Below.mono (Hb.out.trans ((grown_below _ _).mono hwl)) Hbb.out.size))) ((HN.out (tB, aB, kB) (by simp)).below RStr.stab (Hbb.out.trans (Below.mono (Hb.out.trans ((grown_below _ _).mono hwl)) Hbb.out.size))) hlA HuA.out HuB.out false hcm))))
          refine wpQuiet_nil ?_
          intro w5 hw0
          have hb1 : Below wr.heap.size wr w5 := by obtain ⟨n, rfl⟩ := hw0; exact grown_below _ n
          clear hw0
          replace x0 := cell_kept hb1 x0 hl_x
          replace x1 := cell_kept hb1 x1 hl_x
          replace x2 := cell_kept hb1 x2 hl_x
          replace x3 := cell_kept hb1 x3 hl_x
          replace x4 := cell_kept hb1 x4 hl_x
          replace x5 := cell_kept hb1 x5 hl_x
          replace x6 := cell_kept hb1 x6 hl_x
          replace x7 := cell_kept hb1 x7 hl_x
          replace x8 := cell_kept hb1 x8 hl_x
          replace x9 := cell_kept hb1 x9 hl_x
          replace x10 := cell_kept hb1 x10 hl_x
          replace y0 := cell_kept hb1 y0 hl_y
          replace y1 := cell_kept hb1 y1 hl_y
          replace y2 := cell_kept hb1 y2 hl_y
          replace y3 := cell_kept hb1 y3 hl_y
          replace y4 := cell_kept hb1 y4 hl_y
          replace y5 := cell_kept hb1 y5 hl_y
          replace y6 := cell_kept hb1 y6 hl_y
          replace y7 := cell_kept hb1 y7 hl_y
          replace y8 := cell_kept hb1 y8 hl_y
          replace y9 := cell_kept hb1 y9 hl_y
          replace y10 := cell_kept hb1 y10 hl_y
          replace z0 := cell_kept hb1 z0 hl_z
          replace z1 := cell_kept hb1 z1 hl_z
          replace z2 := cell_kept hb1 z2 hl_z
          replace z3 := cell_kept hb1 z3 hl_z
          replace z4 := cell_kept hb1 z4 hl_z
          replace z5 := cell_kept hb1 z5 hl_z
          replace z6 := cell_kept hb1 z6 hl_z
          replace z7 := cell_kept hb1 z7 hl_z
          replace z8 := cell_kept hb1 z8 hl_z
          replace z9 := cell_kept hb1 z9 hl_z
          replace e0 := cell_kept hb1 e0 hl_e
          replace e1 := cell_kept hb1 e1 hl_e
          replace e2 := cell_kept hb1 e2 hl_e
          replace e3 := cell_kept hb1 e3 hl_e
          replace e4 := cell_kept hb1 e4 hl_e
          replace e5 := cell_kept hb1 e5 hl_e
          replace f0 := cell_kept hb1 f0 hl_f
          replace f1 := cell_kept hb1 f1 hl_f
          replace f2 := cell_kept hb1 f2 hl_f
          replace f3 := cell_kept hb1 f3 hl_f
          replace f4 := cell_kept hb1 f4 hl_f
          replace f5 := cell_kept hb1 f5 hl_f
          replace Hb := Lib.hid (Hb.out.trans (hb1.mono hwl))
          replace Hb1 := Lib.hid (Hb1.out.trans (hb1.mono hwl1))
          replace hl_x := Nat.lt_of_lt_of_le hl_x hb1.size
          replace hl_y := Nat.lt_of_lt_of_le hl_y hb1.size
          replace hl_z := Nat.lt_of_lt_of_le hl_z hb1.size
          replace hl_e := Nat.lt_of_lt_of_le hl_e hb1.size
          replace hl_f := Nat.lt_of_lt_of_le hl_f hb1.size
          replace hwl := Nat.le_trans hwl hb1.size
          replace hwl1 := Nat.le_trans hwl1 hb1.size
          clear hb1
          go_wp2
          go_ret
          exact ⟨ret_bool (by rw [Hv.out]; simp [pairOK, hcm]), Hb.out⟩
        | true =>
          have Hcm := Lib.hid hcm
          refine wp_region_grown (by kernel_rfl) (by kernel_rfl) ?_
          repeat (go_big_quiet_step (first | (go_at_call 43; exact calls_grown (cmp_eq s p tA tB aA aB kA kB _ (Hs.out.below (Hbb.out.trans (Below.mono (Hb.out.trans ((grown_below _ _).mono hwl)) Hbb.out.size))) ((HN.out (tA, aA, kA) (by simp)).below RStr.stab (Hbb.out.trans (Below.mono (Hb.out.trans ((grown_below _ _).mono hwl)) Hbb.out.size))) ((HN.out (tB, aB, kB) (by simp)).below RStr.stab (Hbb.out.trans (Below.mono (Hb.out.trans ((grown_below _ _).mono hwl)) Hbb.out.size))) hlA HuA.out HuB.out true hcm))))
          refine wpQuiet_nil ?_
          intro w5 hw0
          have hb1 : Below wr.heap.size wr w5 := by obtain ⟨n, rfl⟩ := hw0; exact grown_below _ n
          clear hw0
          replace x0 := cell_kept hb1 x0 hl_x
          replace x1 := cell_kept hb1 x1 hl_x
          replace x2 := cell_kept hb1 x2 hl_x
          replace x3 := cell_kept hb1 x3 hl_x
          replace x4 := cell_kept hb1 x4 hl_x
          replace x5 := cell_kept hb1 x5 hl_x
          replace x6 := cell_kept hb1 x6 hl_x
          replace x7 := cell_kept hb1 x7 hl_x
          replace x8 := cell_kept hb1 x8 hl_x
          replace x9 := cell_kept hb1 x9 hl_x
          replace x10 := cell_kept hb1 x10 hl_x
          replace y0 := cell_kept hb1 y0 hl_y
          replace y1 := cell_kept hb1 y1 hl_y
          replace y2 := cell_kept hb1 y2 hl_y
          replace y3 := cell_kept hb1 y3 hl_y
          replace y4 := cell_kept hb1 y4 hl_y
          replace y5 := cell_kept hb1 y5 hl_y
          replace y6 := cell_kept hb1 y6 hl_y
          replace y7 := cell_kept hb1 y7 hl_y
          replace y8 := cell_kept hb1 y8 hl_y
          replace y9 := cell_kept hb1 y9 hl_y
          replace y10 := cell_kept hb1 y10 hl_y
          replace z0 := cell_kept hb1 z0 hl_z
          replace z1 := cell_kept hb1 z1 hl_z
          replace z2 := cell_kept hb1 z2 hl_z
          replace z3 := cell_kept hb1 z3 hl_z
          replace z4 := cell_kept hb1 z4 hl_z
          replace z5 := cell_kept hb1 z5 hl_z
          replace z6 := cell_kept hb1 z6 hl_z
          replace z7 := cell_kept hb1 z7 hl_z
          replace z8 := cell_kept hb1 z8 hl_z
          replace z9 := cell_kept hb1 z9 hl_z
          replace e0 := cell_kept hb1 e0 hl_e
          replace e1 := cell_kept hb1 e1 hl_e
          replace e2 := cell_kept hb1 e2 hl_e
          replace e3 := cell_kept hb1 e3 hl_e
          replace e4 := cell_kept hb1 e4 hl_e
          replace e5 := cell_kept hb1 e5 hl_e
          replace f0 := cell_kept hb1 f0 hl_f
          replace f1 := cell_kept hb1 f1 hl_f
          replace f2 := cell_kept hb1 f2 hl_f
          replace f3 := cell_kept hb1 f3 hl_f
          replace f4 := cell_kept hb1 f4 hl_f
          replace f5 := cell_kept hb1 f5 hl_f
          replace Hb := Lib.hid (Hb.out.trans (hb1.mono hwl))
          replace Hb1 := Lib.hid (Hb1.out.trans (hb1.mono hwl1))
          replace hl_x := Nat.lt_of_lt_of_le hl_x hb1.size
          replace hl_y := Nat.lt_of_lt_of_le hl_y hb1.size
          replace hl_z := Nat.lt_of_lt_of_le hl_z hb1.size
          replace hl_e := Nat.lt_of_lt_of_le hl_e hb1.size
          replace hl_f := Nat.lt_of_lt_of_le hl_f hb1.size
          replace hwl := Nat.le_trans hwl hb1.size
          replace hwl1 := Nat.le_trans hwl1 hb1.size
          clear hb1
          go_wp2_with fail
          go_loopw [76] (fun i wr => ∃ j : Nat, j ≤ 2 ∧ i = .int .i64 j ∧ Hid (([tA, tB].take j).all (ordOK m.op) = true) ∧ Below w5.heap.size w5 wr) (fun i _ => 2 - (intOf i).toNat)
          case atStart => exact ⟨0, Nat.zero_le _, rfl, Lib.hid rfl, Below.refl _ _⟩
          case round =>
            obtain ⟨j, hj, rfl, HQ, hb1⟩ := hrel
            have Hb2 := Lib.hid hb1
            have hwl2 := hb1.size
            replace x0 := cell_kept hb1 x0 hl_x
            replace x1 := cell_kept hb1 x1 hl_x
            replace x2 := cell_kept hb1 x2 hl_x
            replace x3 := cell_kept hb1 x3 hl_x
            replace x4 := cell_kept hb1 x4 hl_x
            replace x5 := cell_kept hb1 x5 hl_x
            replace x6 := cell_kept hb1 x6 hl_x
            replace x7 := cell_kept hb1 x7 hl_x
            replace x8 := cell_kept hb1 x8 hl_x
            replace x9 := cell_kept hb1 x9 hl_x
            replace x10 := cell_kept hb1 x10 hl_x
            replace y0 := cell_kept hb1 y0 hl_y
            replace y1 := cell_kept hb1 y1 hl_y
            replace y2 := cell_kept hb1 y2 hl_y
            replace y3 := cell_kept hb1 y3 hl_y
            replace y4 := cell_kept hb1 y4 hl_y
            replace y5 := cell_kept hb1 y5 hl_y
            replace y6 := cell_kept hb1 y6 hl_y
            replace y7 := cell_kept hb1 y7 hl_y
            replace y8 := cell_kept hb1 y8 hl_y
            replace y9 := cell_kept hb1 y9 hl_y
            replace y10 := cell_kept hb1 y10 hl_y
            replace z0 := cell_kept hb1 z0 hl_z
            replace z1 := cell_kept hb1 z1 hl_z
            replace z2 := cell_kept hb1 z2 hl_z
            replace z3 := cell_kept hb1 z3 hl_z
            replace z4 := cell_kept hb1 z4 hl_z
            replace z5 := cell_kept hb1 z5 hl_z
            replace z6 := cell_kept hb1 z6 hl_z
            replace z7 := cell_kept hb1 z7 hl_z
            replace z8 := cell_kept hb1 z8 hl_z
            replace z9 := cell_kept hb1 z9 hl_z
            replace e0 := cell_kept hb1 e0 hl_e
            replace e1 := cell_kept hb1 e1 hl_e
            replace e2 := cell_kept hb1 e2 hl_e
            replace e3 := cell_kept hb1 e3 hl_e
            replace e4 := cell_kept hb1 e4 hl_e
            replace e5 := cell_kept hb1 e5 hl_e
            replace f0 := cell_kept hb1 f0 hl_f
            replace f1 := cell_kept hb1 f1 hl_f
            replace f2 := cell_kept hb1 f2 hl_f
            replace f3 := cell_kept hb1 f3 hl_f
            replace f4 := cell_kept hb1 f4 hl_f
            replace f5 := cell_kept hb1 f5 hl_f
            replace Hb := Lib.hid (Hb.out.trans (hb1.mono hwl))
            replace Hb1 := Lib.hid (Hb1.out.trans (hb1.mono hwl1))
            replace hl_x := Nat.lt_of_lt_of_le hl_x hb1.size
            replace hl_y := Nat.lt_of_lt_of_le hl_y hb1.size
            replace hl_z := Nat.lt_of_lt_of_le hl_z hb1.size
            replace hl_e := Nat.lt_of_lt_of_le hl_e hb1.size
            replace hl_f := Nat.lt_of_lt_of_le hl_f hb1.size
            replace hwl := Nat.le_trans hwl hb1.size
            replace hwl1 := Nat.le_trans hwl1 hb1.size
            clear hb1
            by_cases hjn : j < 2
            case neg =>
              go_wp2
              go_ret
              obtain rfl : j = 2 := by omega
              have hq : [tA, tB].all (ordOK m.op) = true := HQ.out
              exact ⟨ret_bool (by rw [Hv.out]; simp only [List.map_cons, List.map_nil]; rw [hq]; simp [pairOK, Hcm.out]), Hb.out⟩
            obtain ⟨ty, tn, tk, hty, d0, d1, d2, d3, d4, d5⟩ : ∃ (ty : TyD) (tn : Option Addr) (tk : Nat), [tA, tB][j]? = some ty ∧ wr.cell? ⟨g, j * 6, none⟩ = some (.int .i64 ty.kind) ∧ wr.cell? ⟨g, j * 6 + 1, none⟩ = some (.int .i64 ty.lo) ∧ wr.cell? ⟨g, j * 6 + 2, none⟩ = some (.int .i64 ty.hi) ∧ wr.cell? ⟨g, j * 6 + 3, none⟩ = some (.string ty.of_) ∧ wr.cell? ⟨g, j * 6 + 4, none⟩ = some (.int .i64 ty.unit) ∧ wr.cell? ⟨g, j * 6 + 5, none⟩ = some (.slice tn ty.names.length tk) := by
              rcases (show j = 0 ∨ j = 1 by omega) with rfl | rfl
              · exact ⟨tA, aA, kA, rfl, e0, e1, e2, e3, e4, e5⟩
              · exact ⟨tB, aB, kB, rfl, f0, f1, f2, f3, f4, f5⟩
            have htake : [tA, tB].take (j + 1) = [tA, tB].take j ++ [ty] := by rw [List.take_add_one, hty]; rfl
            have Htake2 := Lib.hid htake
            have Hty := Lib.hid hty
            clear htake hty
            have hjn' : (j : Int) < 2 := by omega
            have hK : ((ty.kind == 1) = true) ∨ ((ty.kind == 1) = false ∧ (ty.kind == 2) = true) ∨ ((ty.kind == 1) = false ∧ (ty.kind == 2) = false) := by cases (ty.kind == 1) <;> cases (ty.kind == 2) <;> simp
            have hO : ((m.op == 2) = true) ∨ ((m.op == 2) = false ∧ (m.op == 3) = true) ∨ ((m.op == 2) = false ∧ (m.op == 3) = false) := by cases (m.op == 2) <;> cases (m.op == 3) <;> simp
            rcases hK with k1 | ⟨k1, k2⟩ | ⟨k1, k2⟩
            · rcases hO with o2 | ⟨o2, o3⟩ | ⟨o2, o3⟩
              · have Ho := Lib.hid (show ordOK m.op ty = true by simp at k1 o2; simp [ordOK, ordB, *])
                go_wp2_with fail
                go_roundw
                case rel => exact ⟨j + 1, by omega, by go_num, Lib.hid (by rw [Htake2.out, List.all_append, HQ.out]; simp [Ho.out]), Hb2.out.alloc hwl2 _⟩
                case measure => simp [intOf]; omega
              · have Ho := Lib.hid (show ordOK m.op ty = true by simp at k1 o2 o3; simp [ordOK, ordB, *])
                go_wp2_with fail
                go_roundw
                case rel => exact ⟨j + 1, by omega, by go_num, Lib.hid (by rw [Htake2.out, List.all_append, HQ.out]; simp [Ho.out]), Hb2.out.alloc hwl2 _⟩
                case measure => simp [intOf]; omega
              · have Ho := Lib.hid (show ordOK m.op ty = true by simp at k1 o2 o3; simp [ordOK, ordB, *])
                go_wp2_with fail
                go_roundw
                case rel => exact ⟨j + 1, by omega, by go_num, Lib.hid (by rw [Htake2.out, List.all_append, HQ.out]; simp [Ho.out]), Hb2.out.alloc hwl2 _⟩
                case measure => simp [intOf]; omega
            · rcases hO with o2 | ⟨o2, o3⟩ | ⟨o2, o3⟩
              · have Ho := Lib.hid (show ordOK m.op ty = true by simp at k1 k2 o2; simp [ordOK, ordB, *])
                go_wp2_with fail
                go_roundw
                case rel => exact ⟨j + 1, by omega, by go_num, Lib.hid (by rw [Htake2.out, List.all_append, HQ.out]; simp [Ho.out]), Hb2.out.alloc hwl2 _⟩
                case measure => simp [intOf]; omega
              · have Ho := Lib.hid (show ordOK m.op ty = true by simp at k1 k2 o2 o3; simp [ordOK, ordB, *])
                go_wp2_with fail
                go_roundw
                case rel => exact ⟨j + 1, by omega, by go_num, Lib.hid (by rw [Htake2.out, List.all_append, HQ.out]; simp [Ho.out]), Hb2.out.alloc hwl2 _⟩
                case measure => simp [intOf]; omega
              · have Ho := Lib.hid (show ordOK m.op ty = true by simp at k1 k2 o2 o3; simp [ordOK, ordB, *])
                go_wp2_with fail
                go_roundw
                case rel => exact ⟨j + 1, by omega, by go_num, Lib.hid (by rw [Htake2.out, List.all_append, HQ.out]; simp [Ho.out]), Hb2.out.alloc hwl2 _⟩
                case measure => simp [intOf]; omega
            · rcases hO with o2 | ⟨o2, o3⟩ | ⟨o2, o3⟩
              · have Ho := Lib.hid (show ordOK m.op ty = false by simp at k1 k2 o2; simp [ordOK, ordB, *])
                go_wp2_with fail
                go_ret
                refine ⟨ret_bool ?_, Hb.out.alloc hwl _⟩
                have hno : [tA, tB].all (ordOK m.op) = false := List.all_eq_false.2 ⟨ty, List.mem_of_getElem? Hty.out, by simp [Ho.out]⟩
                rw [Hv.out]; simp only [List.map_cons, List.map_nil]; rw [hno]; simp
              · have Ho := Lib.hid (show ordOK m.op ty = false by simp at k1 k2 o2 o3; simp [ordOK, ordB, *])
                go_wp2_with fail
                go_ret
                refine ⟨ret_bool ?_, Hb.out.alloc hwl _⟩
                have hno : [tA, tB].all (ordOK m.op) = false := List.all_eq_false.2 ⟨ty, List.mem_of_getElem? Hty.out, by simp [Ho.out]⟩
                rw [Hv.out]; simp only [List.map_cons, List.map_nil]; rw [hno]; simp
              · have Ho := Lib.hid (show ordOK m.op ty = true by simp at k1 k2 o2 o3; simp [ordOK, ordB, *])
                go_wp2_with fail
                go_roundw
                case rel => exact ⟨j + 1, by omega, by go_num, Lib.hid (by rw [Htake2.out, List.all_append, HQ.out]; simp [Ho.out]), Hb2.out.alloc hwl2 _⟩
                case measure => simp [intOf]; omega
end Go.Proofs.Ytogenjbabgibbaa
