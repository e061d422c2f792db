import Derived.Test.YtogenjbabgibbaaKP
namespace Go.Proofs.Ytogenjbabgibbaa
open Go.RowKit
/-- the reference's set -/
def rinTy (fd y : TyD) : Bool := decide (y.kind = fd.kind) && decide (y.unit = fd.unit) && decide (y.names = fd.names) && (decide (fd.lo ≤ y.lo) && decide (y.hi ≤ fd.hi))
def rsetB (s : SourceD) (fs : List FromD) (fd : TyD) (t : TermD) : Bool := if t.var = -1 then numB t && (decide (fd.lo ≤ t.n) && decide (t.n ≤ fd.hi)) else match termTy? s fs t fs.length with | some y => rinTy fd y | none => false
set_option maxRecDepth 20000 in
set_option maxHeartbeats 4000000 in
theorem rset_any (s : SourceD) (p : SrcAt) (fs : List FromD) (fa : Option Addr) (fk : Nat) (t : TermD) (fd : TyD) (ga : Option Addr) (gk : Nat) (w : World) (hs : Src w s p) (hf : Sl 8 RFromD w fa fs) (hg : Sl 1 RStr w ga fd.names) (hsh : Short s) :
    Calls Try.prog 66 #[s.val p, .slice fa fs.length fk, t.val, fd.val ga gk] w fun e w' => e = .returned (.bool (rsetB s fs fd t)) ∧ Below w.heap.size w w' := by
  have Hs := Lib.hid hs
  have Hg := Lib.hid hg
  have Hf := Lib.hid hf
  clear hs hg
  cases htb : rtermB s fs t with
  | false =>
    have Htb := Lib.hid htb
    clear htb hf
    go_enter Try.func66, Try.ntmps66
    go_wp2_with fail
    generalize hw0 : World.alloc _ _ = w0
    obtain ⟨X0, X1, X2, hsz, hb0⟩ := blk3 hw0
    have x0 : w0.cell? ⟨w.heap.size, 0, none⟩ = some (.slice p.a0 s.issuers.length p.k0) := X0.cell 0
    have x1 : w0.cell? ⟨w.heap.size, 1, none⟩ = some (.slice p.a1 s.units.length p.k1) := X0.cell 1
    have x2 : w0.cell? ⟨w.heap.size, 2, none⟩ = some (.slice p.a2 s.schemas.length p.k2) := X0.cell 2
    have x3 : w0.cell? ⟨w.heap.size, 3, none⟩ = some (.slice p.a3 s.rules.length p.k3) := X0.cell 3
    have x4 : w0.cell? ⟨w.heap.size, 4, none⟩ = some (.slice p.a4 s.converts p.k4) := X0.cell 4
    have x5 : w0.cell? ⟨w.heap.size, 5, none⟩ = some (.slice p.a5 s.purposes.length p.k5) := X0.cell 5
    have hl_x : w.heap.size < w0.heap.size := by omega
    have z0 : w0.cell? ⟨w.heap.size + 1, 0, none⟩ = some (.string t.name) := X1.cell 0
    have z1 : w0.cell? ⟨w.heap.size + 1, 1, none⟩ = some (.string t.path) := X1.cell 1
    have z2 : w0.cell? ⟨w.heap.size + 1, 2, none⟩ = some (.int .i64 t.var) := X1.cell 2
    have z3 : w0.cell? ⟨w.heap.size + 1, 3, none⟩ = some (.int .i64 t.field) := X1.cell 3
    have z4 : w0.cell? ⟨w.heap.size + 1, 4, none⟩ = some (.int .i64 t.n) := X1.cell 4
    have hl_z : w.heap.size + 1 < w0.heap.size := by omega
    have y0 : w0.cell? ⟨w.heap.size + 1 + 1, 0, none⟩ = some (.int .i64 fd.kind) := X2.cell 0
    have y1 : w0.cell? ⟨w.heap.size + 1 + 1, 1, none⟩ = some (.int .i64 fd.lo) := X2.cell 1
    have y2 : w0.cell? ⟨w.heap.size + 1 + 1, 2, none⟩ = some (.int .i64 fd.hi) := X2.cell 2
    have y3 : w0.cell? ⟨w.heap.size + 1 + 1, 3, none⟩ = some (.string fd.of_) := X2.cell 3
    have y4 : w0.cell? ⟨w.heap.size + 1 + 1, 4, none⟩ = some (.int .i64 fd.unit) := X2.cell 4
    have y5 : w0.cell? ⟨w.heap.size + 1 + 1, 5, none⟩ = some (.slice ga fd.names.length gk) := X2.cell 5
    have hl_y : w.heap.size + 1 + 1 < w0.heap.size := by omega
    have hwl : w.heap.size ≤ w0.heap.size := hb0.size
    have Hb := Lib.hid hb0
    clear hw0 hb0 hsz X0 X1 X2
    refine (rterm_any s p fs fa fk t _ (Hs.out.below Hb.out) (Hf.out.below RFromD.stab Hb.out)).mono ?_
    rintro e w1 ⟨rfl, hb1⟩
    rw [Htb.out]
    replace x0 := cell_kept hb1 x0 hl_x
    replace x1 := cell_kept hb1 x1 hl_x
    replace x2 := cell_kept hb1 x2 hl_x
    replace x3 := cell_kept hb1 x3 hl_x
    replace x4 := cell_kept hb1 x4 hl_x
    replace x5 := cell_kept hb1 x5 hl_x
    replace z0 := cell_kept hb1 z0 hl_z
    replace z1 := cell_kept hb1 z1 hl_z
    replace z2 := cell_kept hb1 z2 hl_z
    replace z3 := cell_kept hb1 z3 hl_z
    replace z4 := cell_kept hb1 z4 hl_z
    replace y0 := cell_kept hb1 y0 hl_y
    replace y1 := cell_kept hb1 y1 hl_y
    replace y2 := cell_kept hb1 y2 hl_y
    replace y3 := cell_kept hb1 y3 hl_y
    replace y4 := cell_kept hb1 y4 hl_y
    replace y5 := cell_kept hb1 y5 hl_y
    replace Hb := Lib.hid (Hb.out.trans (hb1.mono hwl))
    replace hl_x := Nat.lt_of_lt_of_le hl_x hb1.size
    replace hl_z := Nat.lt_of_lt_of_le hl_z hb1.size
    replace hl_y := Nat.lt_of_lt_of_le hl_y hb1.size
    replace hwl := Nat.le_trans hwl hb1.size
    clear hb1
    go_wp2
    go_ret
    refine ⟨ret_bool ?_, Hb.out⟩
    have := Htb.out
    unfold rtermB at this
    unfold rsetB
    by_cases hm : t.var = -1
    · rw [if_pos hm] at this ⊢; simp [this]
    · rw [if_neg hm] at this ⊢
      cases h : termTy? s fs t fs.length with
      | none => rfl
      | some y => rw [h] at this; cases this
  | true =>
    have Htb := Lib.hid htb
    by_cases hm : t.var = -1
    case pos =>
      clear htb hf
      have Hm := Lib.hid hm
      clear hm
      go_enter Try.func66, Try.ntmps66
      go_wp2_with fail
      generalize hw0 : World.alloc _ _ = w0
      obtain ⟨X0, X1, X2, hsz, hb0⟩ := blk3 hw0
      have x0 : w0.cell? ⟨w.heap.size, 0, none⟩ = some (.slice p.a0 s.issuers.length p.k0) := X0.cell 0
      have x1 : w0.cell? ⟨w.heap.size, 1, none⟩ = some (.slice p.a1 s.units.length p.k1) := X0.cell 1
      have x2 : w0.cell? ⟨w.heap.size, 2, none⟩ = some (.slice p.a2 s.schemas.length p.k2) := X0.cell 2
      have x3 : w0.cell? ⟨w.heap.size, 3, none⟩ = some (.slice p.a3 s.rules.length p.k3) := X0.cell 3
      have x4 : w0.cell? ⟨w.heap.size, 4, none⟩ = some (.slice p.a4 s.converts p.k4) := X0.cell 4
      have x5 : w0.cell? ⟨w.heap.size, 5, none⟩ = some (.slice p.a5 s.purposes.length p.k5) := X0.cell 5
      have hl_x : w.heap.size < w0.heap.size := by omega
      have z0 : w0.cell? ⟨w.heap.size + 1, 0, none⟩ = some (.string t.name) := X1.cell 0
      have z1 : w0.cell? ⟨w.heap.size + 1, 1, none⟩ = some (.string t.path) := X1.cell 1
      have z2 : w0.cell? ⟨w.heap.size + 1, 2, none⟩ = some (.int .i64 t.var) := X1.cell 2
      have z3 : w0.cell? ⟨w.heap.size + 1, 3, none⟩ = some (.int .i64 t.field) := X1.cell 3
      have z4 : w0.cell? ⟨w.heap.size + 1, 4, none⟩ = some (.int .i64 t.n) := X1.cell 4
      have hl_z : w.heap.size + 1 < w0.heap.size := by omega
      have y0 : w0.cell? ⟨w.heap.size + 1 + 1, 0, none⟩ = some (.int .i64 fd.kind) := X2.cell 0
      have y1 : w0.cell? ⟨w.heap.size + 1 + 1, 1, none⟩ = some (.int .i64 fd.lo) := X2.cell 1
      have y2 : w0.cell? ⟨w.heap.size + 1 + 1, 2, none⟩ = some (.int .i64 fd.hi) := X2.cell 2
      have y3 : w0.cell? ⟨w.heap.size + 1 + 1, 3, none⟩ = some (.string fd.of_) := X2.cell 3
      have y4 : w0.cell? ⟨w.heap.size + 1 + 1, 4, none⟩ = some (.int .i64 fd.unit) := X2.cell 4
      have y5 : w0.cell? ⟨w.heap.size + 1 + 1, 5, none⟩ = some (.slice ga fd.names.length gk) := X2.cell 5
      have hl_y : w.heap.size + 1 + 1 < w0.heap.size := by omega
      have hwl : w.heap.size ≤ w0.heap.size := hb0.size
      have Hb := Lib.hid hb0
      clear hw0 hb0 hsz X0 X1 X2
      refine (rterm_any s p fs fa fk t _ (Hs.out.below Hb.out) (Hf.out.below RFromD.stab Hb.out)).mono ?_
      rintro e w1 ⟨rfl, hb1⟩
      rw [Htb.out]
      replace x0 := cell_kept hb1 x0 hl_x
      replace x1 := cell_kept hb1 x1 hl_x
      replace x2 := cell_kept hb1 x2 hl_x
      replace x3 := cell_kept hb1 x3 hl_x
      replace x4 := cell_kept hb1 x4 hl_x
      replace x5 := cell_kept hb1 x5 hl_x
      replace z0 := cell_kept hb1 z0 hl_z
      replace z1 := cell_kept hb1 z1 hl_z
      replace z2 := cell_kept hb1 z2 hl_z
      replace z3 := cell_kept hb1 z3 hl_z
      replace z4 := cell_kept hb1 z4 hl_z
      replace y0 := cell_kept hb1 y0 hl_y
      replace y1 := cell_kept hb1 y1 hl_y
      replace y2 := cell_kept hb1 y2 hl_y
      replace y3 := cell_kept hb1 y3 hl_y
      replace y4 := cell_kept hb1 y4 hl_y
      replace y5 := cell_kept hb1 y5 hl_y
      replace Hb := Lib.hid (Hb.out.trans (hb1.mono hwl))
      replace hl_x := Nat.lt_of_lt_of_le hl_x hb1.size
      replace hl_z := Nat.lt_of_lt_of_le hl_z hb1.size
      replace hl_y := Nat.lt_of_lt_of_le hl_y hb1.size
      replace hwl := Nat.le_trans hwl hb1.size
      clear hb1
      go_wp2
      all_goals (try (exfalso; have := Hm.out; simp at *; omega))
      all_goals go_ret
      all_goals (refine ⟨ret_bool ?_, Hb.out⟩)
      all_goals (have := Htb.out; unfold rtermB at this; rw [if_pos Hm.out] at this; unfold rsetB; rw [if_pos Hm.out, this]; symm; simp; omega)
    have dm : (t.var == -1) = false := by simpa using hm
    obtain ⟨y, hy⟩ : ∃ y, termTy? s fs t fs.length = some y := by
      unfold rtermB at htb; rw [if_neg hm] at htb; exact Option.isSome_iff_exists.1 htb
    have hl := termTy_short hsh hy
    have hv : rsetB s fs fd t = rinTy fd y := by unfold rsetB; rw [if_neg hm, hy]
    have h01 : 0 ≤ t.var ∧ t.var < fs.length := by
      unfold termTy? at hy
      by_cases h : 0 ≤ t.var ∧ t.var < fs.length
      · exact h
      · rw [if_neg h] at hy; cases hy
    obtain ⟨h0, h1⟩ := h01
    have hlt : t.var.toNat < fs.length := by omega
    obtain ⟨b, off, e1, hl_c, _, c0, c1, c2, c3, c4, c5, c6, c7⟩ := FromD.out hf t.var.toNat hlt
    subst e1
    have hty : typeOf? s fs[t.var.toNat].schema t.field = some y := by
      unfold termTy? at hy; rw [if_pos ⟨h0, h1⟩, List.getElem?_eq_getElem hlt] at hy; exact hy
    generalize fs[t.var.toNat] = f at *
    obtain ⟨an, kn, hn, hc⟩ := rtypeOf_fix s p f.schema t.field y hty w Hs.out
    have Hn := Lib.hid hn
    have Hc := Lib.hid hc
    have Hv := Lib.hid hv
    clear hn hc hv hty hy htb hm hf
    go_enter Try.func66, Try.ntmps66
    go_wp2_with fail
    generalize hw0 : World.alloc _ _ = w0
    obtain ⟨X0, X1, X2, hsz, hb0⟩ := blk3 hw0
    replace c0 := cell_kept hb0 c0 hl_c
    replace c1 := cell_kept hb0 c1 hl_c
    replace c2 := cell_kept hb0 c2 hl_c
    replace c3 := cell_kept hb0 c3 hl_c
    replace c4 := cell_kept hb0 c4 hl_c
    replace c5 := cell_kept hb0 c5 hl_c
    replace c6 := cell_kept hb0 c6 hl_c
    replace c7 := cell_kept hb0 c7 hl_c
    have hw_c := hl_c
    replace hl_c := Nat.lt_of_lt_of_le hl_c hb0.size
    have x0 : w0.cell? ⟨w.heap.size, 0, none⟩ = some (.slice p.a0 s.issuers.length p.k0) := X0.cell 0
    have x1 : w0.cell? ⟨w.heap.size, 1, none⟩ = some (.slice p.a1 s.units.length p.k1) := X0.cell 1
    have x2 : w0.cell? ⟨w.heap.size, 2, none⟩ = some (.slice p.a2 s.schemas.length p.k2) := X0.cell 2
    have x3 : w0.cell? ⟨w.heap.size, 3, none⟩ = some (.slice p.a3 s.rules.length p.k3) := X0.cell 3
    have x4 : w0.cell? ⟨w.heap.size, 4, none⟩ = some (.slice p.a4 s.converts p.k4) := X0.cell 4
    have x5 : w0.cell? ⟨w.heap.size, 5, none⟩ = some (.slice p.a5 s.purposes.length p.k5) := X0.cell 5
    have hl_x : w.heap.size < w0.heap.size := by omega
    have z0 : w0.cell? ⟨w.heap.size + 1, 0, none⟩ = some (.string t.name) := X1.cell 0
    have z1 : w0.cell? ⟨w.heap.size + 1, 1, none⟩ = some (.string t.path) := X1.cell 1
    have z2 : w0.cell? ⟨w.heap.size + 1, 2, none⟩ = some (.int .i64 t.var) := X1.cell 2
    have z3 : w0.cell? ⟨w.heap.size + 1, 3, none⟩ = some (.int .i64 t.field) := X1.cell 3
    have z4 : w0.cell? ⟨w.heap.size + 1, 4, none⟩ = some (.int .i64 t.n) := X1.cell 4
    have hl_z : w.heap.size + 1 < w0.heap.size := by omega
    have y0 : w0.cell? ⟨w.heap.size + 1 + 1, 0, none⟩ = some (.int .i64 fd.kind) := X2.cell 0
    have y1 : w0.cell? ⟨w.heap.size + 1 + 1, 1, none⟩ = some (.int .i64 fd.lo) := X2.cell 1
    have y2 : w0.cell? ⟨w.heap.size + 1 + 1, 2, none⟩ = some (.int .i64 fd.hi) := X2.cell 2
    have y3 : w0.cell? ⟨w.heap.size + 1 + 1, 3, none⟩ = some (.string fd.of_) := X2.cell 3
    have y4 : w0.cell? ⟨w.heap.size + 1 + 1, 4, none⟩ = some (.int .i64 fd.unit) := X2.cell 4
    have y5 : w0.cell? ⟨w.heap.size + 1 + 1, 5, none⟩ = some (.slice ga fd.names.length gk) := X2.cell 5
    have hl_y : w.heap.size + 1 + 1 < w0.heap.size := by omega
    have hwl : w.heap.size ≤ w0.heap.size := hb0.size
    have Hb := Lib.hid hb0
    clear hw0 hb0 hsz X0 X1 X2
    refine (rterm_any s p fs _ fk t _ (Hs.out.below Hb.out) (Hf.out.below RFromD.stab Hb.out)).mono ?_
    rintro e w1 ⟨rfl, hb1⟩
    rw [Htb.out]
    replace x0 := cell_kept hb1 x0 hl_x
    replace x1 := cell_kept hb1 x1 hl_x
    replace x2 := cell_kept hb1 x2 hl_x
    replace x3 := cell_kept hb1 x3 hl_x
    replace x4 := cell_kept hb1 x4 hl_x
    replace x5 := cell_kept hb1 x5 hl_x
    replace z0 := cell_kept hb1 z0 hl_z
    replace z1 := cell_kept hb1 z1 hl_z
    replace z2 := cell_kept hb1 z2 hl_z
    replace z3 := cell_kept hb1 z3 hl_z
    replace z4 := cell_kept hb1 z4 hl_z
    replace y0 := cell_kept hb1 y0 hl_y
    replace y1 := cell_kept hb1 y1 hl_y
    replace y2 := cell_kept hb1 y2 hl_y
    replace y3 := cell_kept hb1 y3 hl_y
    replace y4 := cell_kept hb1 y4 hl_y
    replace y5 := cell_kept hb1 y5 hl_y
    replace c0 := cell_kept hb1 c0 hl_c
    replace c1 := cell_kept hb1 c1 hl_c
    replace c2 := cell_kept hb1 c2 hl_c
    replace c3 := cell_kept hb1 c3 hl_c
    replace c4 := cell_kept hb1 c4 hl_c
    replace c5 := cell_kept hb1 c5 hl_c
    replace c6 := cell_kept hb1 c6 hl_c
    replace c7 := cell_kept hb1 c7 hl_c
    replace Hb := Lib.hid (Hb.out.trans (hb1.mono hwl))
    replace hl_x := Nat.lt_of_lt_of_le hl_x hb1.size
    replace hl_z := Nat.lt_of_lt_of_le hl_z hb1.size
    replace hl_y := Nat.lt_of_lt_of_le hl_y hb1.size
    replace hl_c := Nat.lt_of_lt_of_le hl_c hb1.size
    replace hwl := Nat.le_trans hwl hb1.size
    clear hb1
    go_wp2_with fail
    have ne_x : w1.heap.size ≠ w.heap.size := Nat.ne_of_gt hl_x
    have ne_z : w1.heap.size ≠ w.heap.size + 1 := Nat.ne_of_gt hl_z
    have ne_y : w1.heap.size ≠ w.heap.size + 1 + 1 := Nat.ne_of_gt hl_y
    have ne_c : w1.heap.size ≠ b := Nat.ne_of_gt hl_c
    go_region_held3 (fun w' => w'.cell? ⟨w.heap.size, 0, none⟩ = some (.slice p.a0 s.issuers.length p.k0) ∧ w'.cell? ⟨w.heap.size, 1, none⟩ = some (.slice p.a1 s.units.length p.k1) ∧ w'.cell? ⟨w.heap.size, 2, none⟩ = some (.slice p.a2 s.schemas.length p.k2) ∧ w'.cell? ⟨w.heap.size, 3, none⟩ = some (.slice p.a3 s.rules.length p.k3) ∧ w'.cell? ⟨w.heap.size, 4, none⟩ = some (.slice p.a4 s.converts p.k4) ∧ w'.cell? ⟨w.heap.size, 5, none⟩ = some (.slice p.a5 s.purposes.length p.k5) ∧ w'.cell? ⟨w.heap.size + 1, 0, none⟩ = some (.string t.name) ∧ w'.cell? ⟨w.heap.size + 1, 1, none⟩ = some (.string t.path) ∧ w'.cell? ⟨w.heap.size + 1, 2, none⟩ = some (.int .i64 t.var) ∧ w'.cell? ⟨w.heap.size + 1, 3, none⟩ = some (.int .i64 t.field) ∧ w'.cell? ⟨w.heap.size + 1, 4, none⟩ = some (.int .i64 t.n) ∧ w'.cell? ⟨w.heap.size + 1 + 1, 0, none⟩ = some (.int .i64 fd.kind) ∧ w'.cell? ⟨w.heap.size + 1 + 1, 1, none⟩ = some (.int .i64 fd.lo) ∧ w'.cell? ⟨w.heap.size + 1 + 1, 2, none⟩ = some (.int .i64 fd.hi) ∧ w'.cell? ⟨w.heap.size + 1 + 1, 3, none⟩ = some (.string fd.of_) ∧ w'.cell? ⟨w.heap.size + 1 + 1, 4, none⟩ = some (.int .i64 fd.unit) ∧ w'.cell? ⟨w.heap.size + 1 + 1, 5, none⟩ = some (.slice ga fd.names.length gk) ∧ w'.cell? ⟨b, off + t.var.toNat * 8, none⟩ = some (.string f.name) ∧ w'.cell? ⟨b, off + t.var.toNat * 8 + 1, none⟩ = some (.string f.kind) ∧ w'.cell? ⟨b, off + t.var.toNat * 8 + 2, none⟩ = some (.int .i64 f.schema) ∧ w'.cell? ⟨b, off + t.var.toNat * 8 + 3, none⟩ = some (.string f.of_.name) ∧ w'.cell? ⟨b, off + t.var.toNat * 8 + 4, none⟩ = some (.string f.of_.path) ∧ w'.cell? ⟨b, off + t.var.toNat * 8 + 5, none⟩ = some (.int .i64 f.of_.var) ∧ w'.cell? ⟨b, off + t.var.toNat * 8 + 6, none⟩ = some (.int .i64 f.of_.field) ∧ w'.cell? ⟨b, off + t.var.toNat * 8 + 7, none⟩ = some (.int .i64 f.of_.n))
      (first
        | go_keep
        | exact HSx.out
        | (have hSx := HSx.out; simp [hSx, World.cell?_alloc_some, World.cell?_setCell_far, *]))
      ((first
        | (go_at_call 39; refine (Hc.out _ Hb.out.drew).mono ?_; rintro e w2 ⟨rfl, hb1⟩; have Bx := Lib.hid (show Below w1.heap.size w1 w2 from (Below.refl _ _).drew.trans hb1); have HSx := Lib.hid (show w2.cell? ⟨w.heap.size, 0, none⟩ = some (.slice p.a0 s.issuers.length p.k0) ∧ w2.cell? ⟨w.heap.size, 1, none⟩ = some (.slice p.a1 s.units.length p.k1) ∧ w2.cell? ⟨w.heap.size, 2, none⟩ = some (.slice p.a2 s.schemas.length p.k2) ∧ w2.cell? ⟨w.heap.size, 3, none⟩ = some (.slice p.a3 s.rules.length p.k3) ∧ w2.cell? ⟨w.heap.size, 4, none⟩ = some (.slice p.a4 s.converts p.k4) ∧ w2.cell? ⟨w.heap.size, 5, none⟩ = some (.slice p.a5 s.purposes.length p.k5) ∧ w2.cell? ⟨w.heap.size + 1, 0, none⟩ = some (.string t.name) ∧ w2.cell? ⟨w.heap.size + 1, 1, none⟩ = some (.string t.path) ∧ w2.cell? ⟨w.heap.size + 1, 2, none⟩ = some (.int .i64 t.var) ∧ w2.cell? ⟨w.heap.size + 1, 3, none⟩ = some (.int .i64 t.field) ∧ w2.cell? ⟨w.heap.size + 1, 4, none⟩ = some (.int .i64 t.n) ∧ w2.cell? ⟨w.heap.size + 1 + 1, 0, none⟩ = some (.int .i64 fd.kind) ∧ w2.cell? ⟨w.heap.size + 1 + 1, 1, none⟩ = some (.int .i64 fd.lo) ∧ w2.cell? ⟨w.heap.size + 1 + 1, 2, none⟩ = some (.int .i64 fd.hi) ∧ w2.cell? ⟨w.heap.size + 1 + 1, 3, none⟩ = some (.string fd.of_) ∧ w2.cell? ⟨w.heap.size + 1 + 1, 4, none⟩ = some (.int .i64 fd.unit) ∧ w2.cell? ⟨w.heap.size + 1 + 1, 5, none⟩ = some (.slice ga fd.names.length gk) ∧ w2.cell? ⟨b, off + t.var.toNat * 8, none⟩ = some (.string f.name) ∧ w2.cell? ⟨b, off + t.var.toNat * 8 + 1, none⟩ = some (.string f.kind) ∧ w2.cell? ⟨b, off + t.var.toNat * 8 + 2, none⟩ = some (.int .i64 f.schema) ∧ w2.cell? ⟨b, off + t.var.toNat * 8 + 3, none⟩ = some (.string f.of_.name) ∧ w2.cell? ⟨b, off + t.var.toNat * 8 + 4, none⟩ = some (.string f.of_.path) ∧ w2.cell? ⟨b, off + t.var.toNat * 8 + 5, none⟩ = some (.int .i64 f.of_.var) ∧ w2.cell? ⟨b, off + t.var.toNat * 8 + 6, none⟩ = some (.int .i64 f.of_.field) ∧ w2.cell? ⟨b, off + t.var.toNat * 8 + 7, none⟩ = some (.int .i64 f.of_.n) from ⟨cell_kept Bx.out x0 hl_x, cell_kept Bx.out x1 hl_x, cell_kept Bx.out x2 hl_x, cell_kept Bx.out x3 hl_x, cell_kept Bx.out x4 hl_x, cell_kept Bx.out x5 hl_x, cell_kept Bx.out z0 hl_z, cell_kept Bx.out z1 hl_z, cell_kept Bx.out z2 hl_z, cell_kept Bx.out z3 hl_z, cell_kept Bx.out z4 hl_z, cell_kept Bx.out y0 hl_y, cell_kept Bx.out y1 hl_y, cell_kept Bx.out y2 hl_y, cell_kept Bx.out y3 hl_y, cell_kept Bx.out y4 hl_y, cell_kept Bx.out y5 hl_y, cell_kept Bx.out c0 hl_c, cell_kept Bx.out c1 hl_c, cell_kept Bx.out c2 hl_c, cell_kept Bx.out c3 hl_c, cell_kept Bx.out c4 hl_c, cell_kept Bx.out c5 hl_c, cell_kept Bx.out c6 hl_c, cell_kept Bx.out c7 hl_c⟩); clear hb1)
        | (go_at_call 39; refine (Hc.out _ ((Hb.out.alloc hwl _).drew)).mono ?_; rintro e w2 ⟨rfl, hb1⟩; have Bx := Lib.hid (show Below w1.heap.size w1 w2 from (((Below.refl _ _).alloc (Nat.le_refl _) _).drew).trans (hb1.mono (by simp))); have HSx := Lib.hid (show w2.cell? ⟨w.heap.size, 0, none⟩ = some (.slice p.a0 s.issuers.length p.k0) ∧ w2.cell? ⟨w.heap.size, 1, none⟩ = some (.slice p.a1 s.units.length p.k1) ∧ w2.cell? ⟨w.heap.size, 2, none⟩ = some (.slice p.a2 s.schemas.length p.k2) ∧ w2.cell? ⟨w.heap.size, 3, none⟩ = some (.slice p.a3 s.rules.length p.k3) ∧ w2.cell? ⟨w.heap.size, 4, none⟩ = some (.slice p.a4 s.converts p.k4) ∧ w2.cell? ⟨w.heap.size, 5, none⟩ = some (.slice p.a5 s.purposes.length p.k5) ∧ w2.cell? ⟨w.heap.size + 1, 0, none⟩ = some (.string t.name) ∧ w2.cell? ⟨w.heap.size + 1, 1, none⟩ = some (.string t.path) ∧ w2.cell? ⟨w.heap.size + 1, 2, none⟩ = some (.int .i64 t.var) ∧ w2.cell? ⟨w.heap.size + 1, 3, none⟩ = some (.int .i64 t.field) ∧ w2.cell? ⟨w.heap.size + 1, 4, none⟩ = some (.int .i64 t.n) ∧ w2.cell? ⟨w.heap.size + 1 + 1, 0, none⟩ = some (.int .i64 fd.kind) ∧ w2.cell? ⟨w.heap.size + 1 + 1, 1, none⟩ = some (.int .i64 fd.lo) ∧ w2.cell? ⟨w.heap.size + 1 + 1, 2, none⟩ = some (.int .i64 fd.hi) ∧ w2.cell? ⟨w.heap.size + 1 + 1, 3, none⟩ = some (.string fd.of_) ∧ w2.cell? ⟨w.heap.size + 1 + 1, 4, none⟩ = some (.int .i64 fd.unit) ∧ w2.cell? ⟨w.heap.size + 1 + 1, 5, none⟩ = some (.slice ga fd.names.length gk) ∧ w2.cell? ⟨b, off + t.var.toNat * 8, none⟩ = some (.string f.name) ∧ w2.cell? ⟨b, off + t.var.toNat * 8 + 1, none⟩ = some (.string f.kind) ∧ w2.cell? ⟨b, off + t.var.toNat * 8 + 2, none⟩ = some (.int .i64 f.schema) ∧ w2.cell? ⟨b, off + t.var.toNat * 8 + 3, none⟩ = some (.string f.of_.name) ∧ w2.cell? ⟨b, off + t.var.toNat * 8 + 4, none⟩ = some (.string f.of_.path) ∧ w2.cell? ⟨b, off + t.var.toNat * 8 + 5, none⟩ = some (.int .i64 f.of_.var) ∧ w2.cell? ⟨b, off + t.var.toNat * 8 + 6, none⟩ = some (.int .i64 f.of_.field) ∧ w2.cell? ⟨b, off + t.var.toNat * 8 + 7, none⟩ = some (.int .i64 f.of_.n) from ⟨cell_kept Bx.out x0 hl_x, cell_kept Bx.out x1 hl_x, cell_kept Bx.out x2 hl_x, cell_kept Bx.out x3 hl_x, cell_kept Bx.out x4 hl_x, cell_kept Bx.out x5 hl_x, cell_kept Bx.out z0 hl_z, cell_kept Bx.out z1 hl_z, cell_kept Bx.out z2 hl_z, cell_kept Bx.out z3 hl_z, cell_kept Bx.out z4 hl_z, cell_kept Bx.out y0 hl_y, cell_kept Bx.out y1 hl_y, cell_kept Bx.out y2 hl_y, cell_kept Bx.out y3 hl_y, cell_kept Bx.out y4 hl_y, cell_kept Bx.out y5 hl_y, cell_kept Bx.out c0 hl_c, cell_kept Bx.out c1 hl_c, cell_kept Bx.out c2 hl_c, cell_kept Bx.out c3 hl_c, cell_kept Bx.out c4 hl_c, cell_kept Bx.out c5 hl_c, cell_kept Bx.out c6 hl_c, cell_kept Bx.out c7 hl_c⟩); have HBv := Lib.hid ((Blk.new w1 (#[.int .i64 0, .int .i64 0, .int .i64 0, .string ⟨#[]⟩, .int .i64 0, .slice none 0 0]) 71).drew.below hb1 (by simp)); have fz_0 := HBv.out.frozen 0; have vz_0 : w2.cell? ⟨w1.heap.size, 0, none⟩ = some (.int .i64 0) := HBv.out.cell 0; have fz_1 := HBv.out.frozen 1; have vz_1 : w2.cell? ⟨w1.heap.size, 1, none⟩ = some (.int .i64 0) := HBv.out.cell 1; have fz_2 := HBv.out.frozen 2; have vz_2 : w2.cell? ⟨w1.heap.size, 2, none⟩ = some (.int .i64 0) := HBv.out.cell 2; have fz_3 := HBv.out.frozen 3; have vz_3 : w2.cell? ⟨w1.heap.size, 3, none⟩ = some (.string ⟨#[]⟩) := HBv.out.cell 3; have fz_4 := HBv.out.frozen 4; have vz_4 : w2.cell? ⟨w1.heap.size, 4, none⟩ = some (.int .i64 0) := HBv.out.cell 4; have fz_5 := HBv.out.frozen 5; have vz_5 : w2.cell? ⟨w1.heap.size, 5, none⟩ = some (.slice none 0 0) := HBv.out.cell 5; clear hb1)))

    · rename_i hH
      clear hH
      have hb1 := Bx.out
      replace x0 := cell_kept hb1 x0 hl_x
      replace x1 := cell_kept hb1 x1 hl_x
      replace x2 := cell_kept hb1 x2 hl_x
      replace x3 := cell_kept hb1 x3 hl_x
      replace x4 := cell_kept hb1 x4 hl_x
      replace x5 := cell_kept hb1 x5 hl_x
      replace z0 := cell_kept hb1 z0 hl_z
      replace z1 := cell_kept hb1 z1 hl_z
      replace z2 := cell_kept hb1 z2 hl_z
      replace z3 := cell_kept hb1 z3 hl_z
      replace z4 := cell_kept hb1 z4 hl_z
      replace y0 := cell_kept hb1 y0 hl_y
      replace y1 := cell_kept hb1 y1 hl_y
      replace y2 := cell_kept hb1 y2 hl_y
      replace y3 := cell_kept hb1 y3 hl_y
      replace y4 := cell_kept hb1 y4 hl_y
      replace y5 := cell_kept hb1 y5 hl_y
      replace c0 := cell_kept hb1 c0 hl_c
      replace c1 := cell_kept hb1 c1 hl_c
      replace c2 := cell_kept hb1 c2 hl_c
      replace c3 := cell_kept hb1 c3 hl_c
      replace c4 := cell_kept hb1 c4 hl_c
      replace c5 := cell_kept hb1 c5 hl_c
      replace c6 := cell_kept hb1 c6 hl_c
      replace c7 := cell_kept hb1 c7 hl_c
      replace Hb := Lib.hid (Hb.out.trans (hb1.mono hwl))
      replace hl_x := Nat.lt_of_lt_of_le hl_x hb1.size
      replace hl_z := Nat.lt_of_lt_of_le hl_z hb1.size
      replace hl_y := Nat.lt_of_lt_of_le hl_y hb1.size
      replace hl_c := Nat.lt_of_lt_of_le hl_c hb1.size
      replace hwl := Nat.le_trans hwl hb1.size
      clear hb1
      generalize hw0 : World.alloc _ _ = w3
      obtain ⟨X0, hsz, hb1⟩ := blk1 hw0
      have v0 : w3.cell? ⟨w2.heap.size, 0, none⟩ = some (.int .i64 y.kind) := X0.cell 0
      have v1 : w3.cell? ⟨w2.heap.size, 1, none⟩ = some (.int .i64 y.lo) := X0.cell 1
      have v2 : w3.cell? ⟨w2.heap.size, 2, none⟩ = some (.int .i64 y.hi) := X0.cell 2
      have v3 : w3.cell? ⟨w2.heap.size, 3, none⟩ = some (.string y.of_) := X0.cell 3
      have v4 : w3.cell? ⟨w2.heap.size, 4, none⟩ = some (.int .i64 y.unit) := X0.cell 4
      have v5 : w3.cell? ⟨w2.heap.size, 5, none⟩ = some (.slice an y.names.length kn) := X0.cell 5
      have hl_v : w2.heap.size < w3.heap.size := by omega
      replace x0 := cell_kept hb1 x0 hl_x
      replace x1 := cell_kept hb1 x1 hl_x
      replace x2 := cell_kept hb1 x2 hl_x
      replace x3 := cell_kept hb1 x3 hl_x
      replace x4 := cell_kept hb1 x4 hl_x
      replace x5 := cell_kept hb1 x5 hl_x
      replace z0 := cell_kept hb1 z0 hl_z
      replace z1 := cell_kept hb1 z1 hl_z
      replace z2 := cell_kept hb1 z2 hl_z
      replace z3 := cell_kept hb1 z3 hl_z
      replace z4 := cell_kept hb1 z4 hl_z
      replace y0 := cell_kept hb1 y0 hl_y
      replace y1 := cell_kept hb1 y1 hl_y
      replace y2 := cell_kept hb1 y2 hl_y
      replace y3 := cell_kept hb1 y3 hl_y
      replace y4 := cell_kept hb1 y4 hl_y
      replace y5 := cell_kept hb1 y5 hl_y
      replace c0 := cell_kept hb1 c0 hl_c
      replace c1 := cell_kept hb1 c1 hl_c
      replace c2 := cell_kept hb1 c2 hl_c
      replace c3 := cell_kept hb1 c3 hl_c
      replace c4 := cell_kept hb1 c4 hl_c
      replace c5 := cell_kept hb1 c5 hl_c
      replace c6 := cell_kept hb1 c6 hl_c
      replace c7 := cell_kept hb1 c7 hl_c
      replace Hb := Lib.hid (Hb.out.trans (hb1.mono hwl))
      replace hl_x := Nat.lt_of_lt_of_le hl_x hb1.size
      replace hl_z := Nat.lt_of_lt_of_le hl_z hb1.size
      replace hl_y := Nat.lt_of_lt_of_le hl_y hb1.size
      replace hl_c := Nat.lt_of_lt_of_le hl_c hb1.size
      replace hwl := Nat.le_trans hwl hb1.size
      clear hb1
      clear hw0 hsz X0
      by_cases hku : y.kind = fd.kind ∧ y.unit = fd.unit
      case neg =>
        have Hku := Lib.hid hku
        clear hku
        go_wp2_with fail
        all_goals (try (exfalso; have := Hku.out; simp at *; omega))
        all_goals go_ret
        all_goals (refine ⟨ret_bool ?_, Hb.out⟩)
        all_goals (rw [Hv.out]; have := Hku.out; simp [rinTy]; intros; omega)
      obtain ⟨q1, q2⟩ := hku
      have p1 : (y.kind == fd.kind) = true := by simpa using q1
      have p2 : (y.unit == fd.unit) = true := by simpa using q2
      have Q1 := Lib.hid q1
      have Q2 := Lib.hid q2
      clear q1 q2
      go_wp2_with fail
      refine (same_any an ga kn gk y.names fd.names _ (Hn.out.below RStr.stab Hb.out) (Hg.out.below RStr.stab Hb.out) hl).mono ?_
      rintro e w4 ⟨rfl, hb1⟩
      replace x0 := cell_kept hb1 x0 hl_x
      replace x1 := cell_kept hb1 x1 hl_x
      replace x2 := cell_kept hb1 x2 hl_x
      replace x3 := cell_kept hb1 x3 hl_x
      replace x4 := cell_kept hb1 x4 hl_x
      replace x5 := cell_kept hb1 x5 hl_x
      replace z0 := cell_kept hb1 z0 hl_z
      replace z1 := cell_kept hb1 z1 hl_z
      replace z2 := cell_kept hb1 z2 hl_z
      replace z3 := cell_kept hb1 z3 hl_z
      replace z4 := cell_kept hb1 z4 hl_z
      replace y0 := cell_kept hb1 y0 hl_y
      replace y1 := cell_kept hb1 y1 hl_y
      replace y2 := cell_kept hb1 y2 hl_y
      replace y3 := cell_kept hb1 y3 hl_y
      replace y4 := cell_kept hb1 y4 hl_y
      replace y5 := cell_kept hb1 y5 hl_y
      replace c0 := cell_kept hb1 c0 hl_c
      replace c1 := cell_kept hb1 c1 hl_c
      replace c2 := cell_kept hb1 c2 hl_c
      replace c3 := cell_kept hb1 c3 hl_c
      replace c4 := cell_kept hb1 c4 hl_c
      replace c5 := cell_kept hb1 c5 hl_c
      replace c6 := cell_kept hb1 c6 hl_c
      replace c7 := cell_kept hb1 c7 hl_c
      replace v0 := cell_kept hb1 v0 hl_v
      replace v1 := cell_kept hb1 v1 hl_v
      replace v2 := cell_kept hb1 v2 hl_v
      replace v3 := cell_kept hb1 v3 hl_v
      replace v4 := cell_kept hb1 v4 hl_v
      replace v5 := cell_kept hb1 v5 hl_v
      replace Hb := Lib.hid (Hb.out.trans (hb1.mono hwl))
      replace hl_x := Nat.lt_of_lt_of_le hl_x hb1.size
      replace hl_z := Nat.lt_of_lt_of_le hl_z hb1.size
      replace hl_y := Nat.lt_of_lt_of_le hl_y hb1.size
      replace hl_c := Nat.lt_of_lt_of_le hl_c hb1.size
      replace hl_v := Nat.lt_of_lt_of_le hl_v hb1.size
      replace hwl := Nat.le_trans hwl hb1.size
      clear hb1
      by_cases hnm : y.names = fd.names
      · rw [decide_eq_true hnm]
        have Hnm := Lib.hid hnm
        clear hnm
        go_wp2
        all_goals go_ret
        all_goals (refine ⟨ret_bool ?_, Hb.out⟩)
        all_goals (rw [Hv.out]; simp [rinTy, Q1.out, Q2.out, Hnm.out]; try omega)
      · rw [decide_eq_false hnm]
        go_wp2
        go_ret
        refine ⟨ret_bool ?_, Hb.out⟩
        rw [Hv.out]; simp [rinTy, hnm]
    · rename_i hH
      clear hH
      have hb1 := Bx.out
      have hw1 := hwl
      replace x0 := cell_kept hb1 x0 hl_x
      replace x1 := cell_kept hb1 x1 hl_x
      replace x2 := cell_kept hb1 x2 hl_x
      replace x3 := cell_kept hb1 x3 hl_x
      replace x4 := cell_kept hb1 x4 hl_x
      replace x5 := cell_kept hb1 x5 hl_x
      replace z0 := cell_kept hb1 z0 hl_z
      replace z1 := cell_kept hb1 z1 hl_z
      replace z2 := cell_kept hb1 z2 hl_z
      replace z3 := cell_kept hb1 z3 hl_z
      replace z4 := cell_kept hb1 z4 hl_z
      replace y0 := cell_kept hb1 y0 hl_y
      replace y1 := cell_kept hb1 y1 hl_y
      replace y2 := cell_kept hb1 y2 hl_y
      replace y3 := cell_kept hb1 y3 hl_y
      replace y4 := cell_kept hb1 y4 hl_y
      replace y5 := cell_kept hb1 y5 hl_y
      replace c0 := cell_kept hb1 c0 hl_c
      replace c1 := cell_kept hb1 c1 hl_c
      replace c2 := cell_kept hb1 c2 hl_c
      replace c3 := cell_kept hb1 c3 hl_c
      replace c4 := cell_kept hb1 c4 hl_c
      replace c5 := cell_kept hb1 c5 hl_c
      replace c6 := cell_kept hb1 c6 hl_c
      replace c7 := cell_kept hb1 c7 hl_c
      replace Hb := Lib.hid (Hb.out.trans (hb1.mono hwl))
      replace hl_x := Nat.lt_of_lt_of_le hl_x hb1.size
      replace hl_z := Nat.lt_of_lt_of_le hl_z hb1.size
      replace hl_y := Nat.lt_of_lt_of_le hl_y hb1.size
      replace hl_c := Nat.lt_of_lt_of_le hl_c hb1.size
      replace hwl := Nat.le_trans hwl hb1.size
      clear hb1
      clear fz_0 fz_1 fz_2 fz_3 fz_4 fz_5 vz_0 vz_1 vz_2 vz_3 vz_4 vz_5
      generalize hw0 : World.setCell _ _ _ = w3
      obtain ⟨X0, hoth, hsz, hbel, hblk⟩ := stored (vs := [.int .i64 y.kind, .int .i64 y.lo, .int .i64 y.hi, .string y.of_, .int .i64 y.unit, .slice an y.names.length kn]) HBv.out rfl hw0
      replace x0 := hoth x0 (by omega)
      replace x1 := hoth x1 (by omega)
      replace x2 := hoth x2 (by omega)
      replace x3 := hoth x3 (by omega)
      replace x4 := hoth x4 (by omega)
      replace x5 := hoth x5 (by omega)
      replace z0 := hoth z0 (by omega)
      replace z1 := hoth z1 (by omega)
      replace z2 := hoth z2 (by omega)
      replace z3 := hoth z3 (by omega)
      replace z4 := hoth z4 (by omega)
      replace y0 := hoth y0 (by omega)
      replace y1 := hoth y1 (by omega)
      replace y2 := hoth y2 (by omega)
      replace y3 := hoth y3 (by omega)
      replace y4 := hoth y4 (by omega)
      replace y5 := hoth y5 (by omega)
      replace c0 := hoth c0 (by omega)
      replace c1 := hoth c1 (by omega)
      replace c2 := hoth c2 (by omega)
      replace c3 := hoth c3 (by omega)
      replace c4 := hoth c4 (by omega)
      replace c5 := hoth c5 (by omega)
      replace c6 := hoth c6 (by omega)
      replace c7 := hoth c7 (by omega)
      have v0 : w3.cell? ⟨w1.heap.size, 0, none⟩ = some (.int .i64 y.kind) := X0.cell 0
      have v1 : w3.cell? ⟨w1.heap.size, 1, none⟩ = some (.int .i64 y.lo) := X0.cell 1
      have v2 : w3.cell? ⟨w1.heap.size, 2, none⟩ = some (.int .i64 y.hi) := X0.cell 2
      have v3 : w3.cell? ⟨w1.heap.size, 3, none⟩ = some (.string y.of_) := X0.cell 3
      have v4 : w3.cell? ⟨w1.heap.size, 4, none⟩ = some (.int .i64 y.unit) := X0.cell 4
      have v5 : w3.cell? ⟨w1.heap.size, 5, none⟩ = some (.slice an y.names.length kn) := X0.cell 5
      replace HBv := Lib.hid X0
      replace Hb := Lib.hid (Hb.out.trans (hbel w.heap.size (by omega)))
      replace hl_x : w.heap.size < w3.heap.size := by omega
      replace hl_z : w.heap.size + 1 < w3.heap.size := by omega
      replace hl_y : w.heap.size + 1 + 1 < w3.heap.size := by omega
      replace hl_c : b < w3.heap.size := by omega
      replace hwl : w.heap.size ≤ w3.heap.size := by omega
      clear hw0 hoth hsz hbel hblk X0
      have hl_v : w1.heap.size < w3.heap.size := HBv.out.lt
      by_cases hku : y.kind = fd.kind ∧ y.unit = fd.unit
      case neg =>
        have Hku := Lib.hid hku
        clear hku
        go_wp2_with fail
        all_goals (try (exfalso; have := Hku.out; simp at *; omega))
        all_goals go_ret
        all_goals (refine ⟨ret_bool ?_, Hb.out⟩)
        all_goals (rw [Hv.out]; have := Hku.out; simp [rinTy]; intros; omega)
      obtain ⟨q1, q2⟩ := hku
      have p1 : (y.kind == fd.kind) = true := by simpa using q1
      have p2 : (y.unit == fd.unit) = true := by simpa using q2
      have Q1 := Lib.hid q1
      have Q2 := Lib.hid q2
      clear q1 q2
      go_wp2_with fail
      refine (same_any an ga kn gk y.names fd.names _ (Hn.out.below RStr.stab Hb.out) (Hg.out.below RStr.stab Hb.out) hl).mono ?_
      rintro e w4 ⟨rfl, hb1⟩
      replace x0 := cell_kept hb1 x0 hl_x
      replace x1 := cell_kept hb1 x1 hl_x
      replace x2 := cell_kept hb1 x2 hl_x
      replace x3 := cell_kept hb1 x3 hl_x
      replace x4 := cell_kept hb1 x4 hl_x
      replace x5 := cell_kept hb1 x5 hl_x
      replace z0 := cell_kept hb1 z0 hl_z
      replace z1 := cell_kept hb1 z1 hl_z
      replace z2 := cell_kept hb1 z2 hl_z
      replace z3 := cell_kept hb1 z3 hl_z
      replace z4 := cell_kept hb1 z4 hl_z
      replace y0 := cell_kept hb1 y0 hl_y
      replace y1 := cell_kept hb1 y1 hl_y
      replace y2 := cell_kept hb1 y2 hl_y
      replace y3 := cell_kept hb1 y3 hl_y
      replace y4 := cell_kept hb1 y4 hl_y
      replace y5 := cell_kept hb1 y5 hl_y
      replace c0 := cell_kept hb1 c0 hl_c
      replace c1 := cell_kept hb1 c1 hl_c
      replace c2 := cell_kept hb1 c2 hl_c
      replace c3 := cell_kept hb1 c3 hl_c
      replace c4 := cell_kept hb1 c4 hl_c
      replace c5 := cell_kept hb1 c5 hl_c
      replace c6 := cell_kept hb1 c6 hl_c
      replace c7 := cell_kept hb1 c7 hl_c
      replace v0 := cell_kept hb1 v0 hl_v
      replace v1 := cell_kept hb1 v1 hl_v
      replace v2 := cell_kept hb1 v2 hl_v
      replace v3 := cell_kept hb1 v3 hl_v
      replace v4 := cell_kept hb1 v4 hl_v
      replace v5 := cell_kept hb1 v5 hl_v
      replace Hb := Lib.hid (Hb.out.trans (hb1.mono hwl))
      replace hl_x := Nat.lt_of_lt_of_le hl_x hb1.size
      replace hl_z := Nat.lt_of_lt_of_le hl_z hb1.size
      replace hl_y := Nat.lt_of_lt_of_le hl_y hb1.size
      replace hl_c := Nat.lt_of_lt_of_le hl_c hb1.size
      replace hl_v := Nat.lt_of_lt_of_le hl_v hb1.size
      replace hwl := Nat.le_trans hwl hb1.size
      clear hb1
      by_cases hnm : y.names = fd.names
      · rw [decide_eq_true hnm]
        have Hnm := Lib.hid hnm
        clear hnm
        go_wp2
        all_goals go_ret
        all_goals (refine ⟨ret_bool ?_, Hb.out⟩)
        all_goals (rw [Hv.out]; simp [rinTy, Q1.out, Q2.out, Hnm.out]; try omega)
      · rw [decide_eq_false hnm]
        go_wp2
        go_ret
        refine ⟨ret_bool ?_, Hb.out⟩
        rw [Hv.out]; simp [rinTy, hnm]
end Go.Proofs.Ytogenjbabgibbaa
