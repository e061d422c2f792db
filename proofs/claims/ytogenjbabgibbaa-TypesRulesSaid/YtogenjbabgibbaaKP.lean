import Derived.Test.YtogenjbabgibbaaKN
import Derived.Test.YtogenjbabgibbaaKO
namespace Go.Proofs.Ytogenjbabgibbaa
open Go.RowKit
theorem termTy_short {s : SourceD} (h : Short s) {fs : List FromD} {t : TermD} {n : Int} {y : TyD} (hy : termTy? s fs t n = some y) : y.names.length ≤ 100000 := by
  unfold termTy? at hy
  split at hy
  · split at hy
    · exact h _ _ _ hy
    · cases hy
  · cases hy
def inTy (fd y : TyD) : Bool := decide (y.kind = fd.kind) && decide (y.unit = fd.unit) && decide (y.names = fd.names) && (decide (fd.lo ≤ y.lo) && decide (y.lo ≤ fd.hi) && decide (fd.lo ≤ y.hi) && decide (y.hi ≤ fd.hi))
/-- does a term give values of a type -/
def setB (s : SourceD) (fs : List FromD) (fd : TyD) (t : TermD) : Bool := if isNumB t then decide (fd.lo ≤ t.n) && decide (t.n ≤ fd.hi) else match termTy? s fs t fs.length with | some y => inTy fd y | none => false
set_option maxRecDepth 20000 in
set_option maxHeartbeats 4000000 in
theorem setOK_any (s : SourceD) (p : SrcAt) (r : RuleD) (q : RuleAt) (fd : TyD) (fa : Option Addr) (fk : Nat) (t : TermD) (wb : World) (hs : Src wb s p) (hr : Rul wb r q) (hf : Sl 1 RStr wb fa fd.names) (w : World) (hbb : Below wb.heap.size wb w) (hsh : Short s) :
    Calls Try.prog 55 #[rcVal s p r q, fd.val fa fk, t.val] w fun e w' => e = .returned (.bool (setB s r.froms fd t)) ∧ Below w.heap.size w w' := by
  have Hs := Lib.hid hs
  have Hr := Lib.hid hr
  have Hf := Lib.hid hf
  have Hbb := Lib.hid hbb
  clear hs hr hf hbb
  cases hn : isNumB t with
  | true =>
    go_enter Try.func55, Try.ntmps55
    go_wp2_with fail
    generalize hw0 : World.alloc _ _ = w0
    obtain ⟨X0, X1, X2, hsz, hb0⟩ := blk3 hw0
    have x0 : w0.cell? ⟨w.heap.size, 0, none⟩ = some (.slice p.a0 s.issuers.length p.k0) := X0.cell 0
    have x1 : w0.cell? ⟨w.heap.size, 1, none⟩ = some (.slice p.a1 s.units.length p.k1) := X0.cell 1
    have x2 : w0.cell? ⟨w.heap.size, 2, none⟩ = some (.slice p.a2 s.schemas.length p.k2) := X0.cell 2
    have x3 : w0.cell? ⟨w.heap.size, 3, none⟩ = some (.slice p.a3 s.rules.length p.k3) := X0.cell 3
    have x4 : w0.cell? ⟨w.heap.size, 4, none⟩ = some (.slice p.a4 s.converts p.k4) := X0.cell 4
    have x5 : w0.cell? ⟨w.heap.size, 5, none⟩ = some (.slice p.a5 s.purposes.length p.k5) := X0.cell 5
    have x6 : w0.cell? ⟨w.heap.size, 6, none⟩ = some (.string r.head) := X0.cell 6
    have x7 : w0.cell? ⟨w.heap.size, 7, none⟩ = some (.int .i64 r.schema) := X0.cell 7
    have x8 : w0.cell? ⟨w.heap.size, 8, none⟩ = some (.slice q.a2 r.froms.length q.k2) := X0.cell 8
    have x9 : w0.cell? ⟨w.heap.size, 9, none⟩ = some (.slice q.a3 r.where_.length q.k3) := X0.cell 9
    have x10 : w0.cell? ⟨w.heap.size, 10, none⟩ = some (.slice q.a4 r.sets.length q.k4) := X0.cell 10
    have hl_x : w.heap.size < w0.heap.size := by omega
    have y0 : w0.cell? ⟨w.heap.size + 1, 0, none⟩ = some (.int .i64 fd.kind) := X1.cell 0
    have y1 : w0.cell? ⟨w.heap.size + 1, 1, none⟩ = some (.int .i64 fd.lo) := X1.cell 1
    have y2 : w0.cell? ⟨w.heap.size + 1, 2, none⟩ = some (.int .i64 fd.hi) := X1.cell 2
    have y3 : w0.cell? ⟨w.heap.size + 1, 3, none⟩ = some (.string fd.of_) := X1.cell 3
    have y4 : w0.cell? ⟨w.heap.size + 1, 4, none⟩ = some (.int .i64 fd.unit) := X1.cell 4
    have y5 : w0.cell? ⟨w.heap.size + 1, 5, none⟩ = some (.slice fa fd.names.length fk) := X1.cell 5
    have hl_y : w.heap.size + 1 < w0.heap.size := by omega
    have z0 : w0.cell? ⟨w.heap.size + 1 + 1, 0, none⟩ = some (.string t.name) := X2.cell 0
    have z1 : w0.cell? ⟨w.heap.size + 1 + 1, 1, none⟩ = some (.string t.path) := X2.cell 1
    have z2 : w0.cell? ⟨w.heap.size + 1 + 1, 2, none⟩ = some (.int .i64 t.var) := X2.cell 2
    have z3 : w0.cell? ⟨w.heap.size + 1 + 1, 3, none⟩ = some (.int .i64 t.field) := X2.cell 3
    have z4 : w0.cell? ⟨w.heap.size + 1 + 1, 4, none⟩ = some (.int .i64 t.n) := X2.cell 4
    have hl_z : w.heap.size + 1 + 1 < w0.heap.size := by omega
    have hwl : w.heap.size ≤ w0.heap.size := hb0.size
    have Hb := Lib.hid hb0
    clear hw0 hb0 hsz X0 X1 X2
    refine (isNum_any t _).mono ?_
    rintro e w1 ⟨rfl, hb1⟩
    rw [hn]
    replace x0 := cell_kept hb1 x0 hl_x
    replace x1 := cell_kept hb1 x1 hl_x
    replace x2 := cell_kept hb1 x2 hl_x
    replace x3 := cell_kept hb1 x3 hl_x
    replace x4 := cell_kept hb1 x4 hl_x
    replace x5 := cell_kept hb1 x5 hl_x
    replace x6 := cell_kept hb1 x6 hl_x
    replace x7 := cell_kept hb1 x7 hl_x
    replace x8 := cell_kept hb1 x8 hl_x
    replace x9 := cell_kept hb1 x9 hl_x
    replace x10 := cell_kept hb1 x10 hl_x
    replace y0 := cell_kept hb1 y0 hl_y
    replace y1 := cell_kept hb1 y1 hl_y
    replace y2 := cell_kept hb1 y2 hl_y
    replace y3 := cell_kept hb1 y3 hl_y
    replace y4 := cell_kept hb1 y4 hl_y
    replace y5 := cell_kept hb1 y5 hl_y
    replace z0 := cell_kept hb1 z0 hl_z
    replace z1 := cell_kept hb1 z1 hl_z
    replace z2 := cell_kept hb1 z2 hl_z
    replace z3 := cell_kept hb1 z3 hl_z
    replace z4 := cell_kept hb1 z4 hl_z
    replace Hb := Lib.hid (Hb.out.trans (hb1.mono hwl))
    replace hl_x := Nat.lt_of_lt_of_le hl_x hb1.size
    replace hl_y := Nat.lt_of_lt_of_le hl_y hb1.size
    replace hl_z := Nat.lt_of_lt_of_le hl_z hb1.size
    replace hwl := Nat.le_trans hwl hb1.size
    clear hb1
    go_wp2
    all_goals go_ret
    all_goals exact ⟨ret_bool (by unfold setB; rw [if_pos hn]; symm; simp; omega), Hb.out⟩
  | false =>
    go_enter Try.func55, Try.ntmps55
    go_wp2_with fail
    generalize hw0 : World.alloc _ _ = w0
    obtain ⟨X0, X1, X2, hsz, hb0⟩ := blk3 hw0
    have x0 : w0.cell? ⟨w.heap.size, 0, none⟩ = some (.slice p.a0 s.issuers.length p.k0) := X0.cell 0
    have x1 : w0.cell? ⟨w.heap.size, 1, none⟩ = some (.slice p.a1 s.units.length p.k1) := X0.cell 1
    have x2 : w0.cell? ⟨w.heap.size, 2, none⟩ = some (.slice p.a2 s.schemas.length p.k2) := X0.cell 2
    have x3 : w0.cell? ⟨w.heap.size, 3, none⟩ = some (.slice p.a3 s.rules.length p.k3) := X0.cell 3
    have x4 : w0.cell? ⟨w.heap.size, 4, none⟩ = some (.slice p.a4 s.converts p.k4) := X0.cell 4
    have x5 : w0.cell? ⟨w.heap.size, 5, none⟩ = some (.slice p.a5 s.purposes.length p.k5) := X0.cell 5
    have x6 : w0.cell? ⟨w.heap.size, 6, none⟩ = some (.string r.head) := X0.cell 6
    have x7 : w0.cell? ⟨w.heap.size, 7, none⟩ = some (.int .i64 r.schema) := X0.cell 7
    have x8 : w0.cell? ⟨w.heap.size, 8, none⟩ = some (.slice q.a2 r.froms.length q.k2) := X0.cell 8
    have x9 : w0.cell? ⟨w.heap.size, 9, none⟩ = some (.slice q.a3 r.where_.length q.k3) := X0.cell 9
    have x10 : w0.cell? ⟨w.heap.size, 10, none⟩ = some (.slice q.a4 r.sets.length q.k4) := X0.cell 10
    have hl_x : w.heap.size < w0.heap.size := by omega
    have y0 : w0.cell? ⟨w.heap.size + 1, 0, none⟩ = some (.int .i64 fd.kind) := X1.cell 0
    have y1 : w0.cell? ⟨w.heap.size + 1, 1, none⟩ = some (.int .i64 fd.lo) := X1.cell 1
    have y2 : w0.cell? ⟨w.heap.size + 1, 2, none⟩ = some (.int .i64 fd.hi) := X1.cell 2
    have y3 : w0.cell? ⟨w.heap.size + 1, 3, none⟩ = some (.string fd.of_) := X1.cell 3
    have y4 : w0.cell? ⟨w.heap.size + 1, 4, none⟩ = some (.int .i64 fd.unit) := X1.cell 4
    have y5 : w0.cell? ⟨w.heap.size + 1, 5, none⟩ = some (.slice fa fd.names.length fk) := X1.cell 5
    have hl_y : w.heap.size + 1 < w0.heap.size := by omega
    have z0 : w0.cell? ⟨w.heap.size + 1 + 1, 0, none⟩ = some (.string t.name) := X2.cell 0
    have z1 : w0.cell? ⟨w.heap.size + 1 + 1, 1, none⟩ = some (.string t.path) := X2.cell 1
    have z2 : w0.cell? ⟨w.heap.size + 1 + 1, 2, none⟩ = some (.int .i64 t.var) := X2.cell 2
    have z3 : w0.cell? ⟨w.heap.size + 1 + 1, 3, none⟩ = some (.int .i64 t.field) := X2.cell 3
    have z4 : w0.cell? ⟨w.heap.size + 1 + 1, 4, none⟩ = some (.int .i64 t.n) := X2.cell 4
    have hl_z : w.heap.size + 1 + 1 < w0.heap.size := by omega
    have hwl : w.heap.size ≤ w0.heap.size := hb0.size
    have Hb := Lib.hid hb0
    clear hw0 hb0 hsz X0 X1 X2
    refine (isNum_any t _).mono ?_
    rintro e w1 ⟨rfl, hb1⟩
    rw [hn]
    replace x0 := cell_kept hb1 x0 hl_x
    replace x1 := cell_kept hb1 x1 hl_x
    replace x2 := cell_kept hb1 x2 hl_x
    replace x3 := cell_kept hb1 x3 hl_x
    replace x4 := cell_kept hb1 x4 hl_x
    replace x5 := cell_kept hb1 x5 hl_x
    replace x6 := cell_kept hb1 x6 hl_x
    replace x7 := cell_kept hb1 x7 hl_x
    replace x8 := cell_kept hb1 x8 hl_x
    replace x9 := cell_kept hb1 x9 hl_x
    replace x10 := cell_kept hb1 x10 hl_x
    replace y0 := cell_kept hb1 y0 hl_y
    replace y1 := cell_kept hb1 y1 hl_y
    replace y2 := cell_kept hb1 y2 hl_y
    replace y3 := cell_kept hb1 y3 hl_y
    replace y4 := cell_kept hb1 y4 hl_y
    replace y5 := cell_kept hb1 y5 hl_y
    replace z0 := cell_kept hb1 z0 hl_z
    replace z1 := cell_kept hb1 z1 hl_z
    replace z2 := cell_kept hb1 z2 hl_z
    replace z3 := cell_kept hb1 z3 hl_z
    replace z4 := cell_kept hb1 z4 hl_z
    replace Hb := Lib.hid (Hb.out.trans (hb1.mono hwl))
    replace hl_x := Nat.lt_of_lt_of_le hl_x hb1.size
    replace hl_y := Nat.lt_of_lt_of_le hl_y hb1.size
    replace hl_z := Nat.lt_of_lt_of_le hl_z hb1.size
    replace hwl := Nat.le_trans hwl hb1.size
    clear hb1
    go_wp2_with fail
    refine (termType_any s p r q t r.froms.length wb Hs.out Hr.out _ (Hbb.out.trans (Hb.out.mono Hbb.out.size)) (Int.le_refl _)).mono ?_
    cases htt : termTy? s r.froms t r.froms.length with
    | none =>
      rintro e w2 ⟨⟨ty, an, kn, rfl⟩, hb1⟩
      replace x0 := cell_kept hb1 x0 hl_x
      replace x1 := cell_kept hb1 x1 hl_x
      replace x2 := cell_kept hb1 x2 hl_x
      replace x3 := cell_kept hb1 x3 hl_x
      replace x4 := cell_kept hb1 x4 hl_x
      replace x5 := cell_kept hb1 x5 hl_x
      replace x6 := cell_kept hb1 x6 hl_x
      replace x7 := cell_kept hb1 x7 hl_x
      replace x8 := cell_kept hb1 x8 hl_x
      replace x9 := cell_kept hb1 x9 hl_x
      replace x10 := cell_kept hb1 x10 hl_x
      replace y0 := cell_kept hb1 y0 hl_y
      replace y1 := cell_kept hb1 y1 hl_y
      replace y2 := cell_kept hb1 y2 hl_y
      replace y3 := cell_kept hb1 y3 hl_y
      replace y4 := cell_kept hb1 y4 hl_y
      replace y5 := cell_kept hb1 y5 hl_y
      replace z0 := cell_kept hb1 z0 hl_z
      replace z1 := cell_kept hb1 z1 hl_z
      replace z2 := cell_kept hb1 z2 hl_z
      replace z3 := cell_kept hb1 z3 hl_z
      replace z4 := cell_kept hb1 z4 hl_z
      replace Hb := Lib.hid (Hb.out.trans (hb1.mono hwl))
      replace hl_x := Nat.lt_of_lt_of_le hl_x hb1.size
      replace hl_y := Nat.lt_of_lt_of_le hl_y hb1.size
      replace hl_z := Nat.lt_of_lt_of_le hl_z hb1.size
      replace hwl := Nat.le_trans hwl hb1.size
      clear hb1
      go_wp2
      go_ret
      exact ⟨ret_bool (by unfold setB; rw [if_neg (by simp [hn]), htt]), Hb.out.alloc hwl _⟩
    | some y =>
      have hl := termTy_short hsh htt
      rintro e w2 ⟨⟨an, kn, rfl, hny⟩, hb1⟩
      have Hn := Lib.hid hny
      have Ht := Lib.hid htt
      clear hny htt
      replace x0 := cell_kept hb1 x0 hl_x
      replace x1 := cell_kept hb1 x1 hl_x
      replace x2 := cell_kept hb1 x2 hl_x
      replace x3 := cell_kept hb1 x3 hl_x
      replace x4 := cell_kept hb1 x4 hl_x
      replace x5 := cell_kept hb1 x5 hl_x
      replace x6 := cell_kept hb1 x6 hl_x
      replace x7 := cell_kept hb1 x7 hl_x
      replace x8 := cell_kept hb1 x8 hl_x
      replace x9 := cell_kept hb1 x9 hl_x
      replace x10 := cell_kept hb1 x10 hl_x
      replace y0 := cell_kept hb1 y0 hl_y
      replace y1 := cell_kept hb1 y1 hl_y
      replace y2 := cell_kept hb1 y2 hl_y
      replace y3 := cell_kept hb1 y3 hl_y
      replace y4 := cell_kept hb1 y4 hl_y
      replace y5 := cell_kept hb1 y5 hl_y
      replace z0 := cell_kept hb1 z0 hl_z
      replace z1 := cell_kept hb1 z1 hl_z
      replace z2 := cell_kept hb1 z2 hl_z
      replace z3 := cell_kept hb1 z3 hl_z
      replace z4 := cell_kept hb1 z4 hl_z
      replace Hb := Lib.hid (Hb.out.trans (hb1.mono hwl))
      replace hl_x := Nat.lt_of_lt_of_le hl_x hb1.size
      replace hl_y := Nat.lt_of_lt_of_le hl_y hb1.size
      replace hl_z := Nat.lt_of_lt_of_le hl_z hb1.size
      replace hwl := Nat.le_trans hwl hb1.size
      clear hb1
      by_cases hku : y.kind = fd.kind ∧ y.unit = fd.unit
      case neg =>
        have Hku := Lib.hid hku
        clear hku
        go_wp2_with fail
        all_goals (try (exfalso; have := Hku.out; simp at *; omega))
        all_goals go_ret
        all_goals (refine ⟨ret_bool ?_, Hb.out.alloc hwl _⟩)
        all_goals (unfold setB; rw [if_neg (by simp [hn]), Ht.out]; have := Hku.out; simp [inTy]; intros; omega)
      obtain ⟨h1, h2⟩ := hku
      have d1 : (y.kind == fd.kind) = true := by simpa using h1
      have d2 : (y.unit == fd.unit) = true := by simpa using h2
      have H1 := Lib.hid h1
      have H2 := Lib.hid h2
      clear h1 h2
      go_wp2_with fail
      generalize hw0 : World.alloc _ _ = w3
      obtain ⟨X0, hsz, hb1⟩ := blk1 hw0
      have v0 : w3.cell? ⟨w2.heap.size, 0, none⟩ = some (.int .i64 y.kind) := X0.cell 0
      have v1 : w3.cell? ⟨w2.heap.size, 1, none⟩ = some (.int .i64 y.lo) := X0.cell 1
      have v2 : w3.cell? ⟨w2.heap.size, 2, none⟩ = some (.int .i64 y.hi) := X0.cell 2
      have v3 : w3.cell? ⟨w2.heap.size, 3, none⟩ = some (.string y.of_) := X0.cell 3
      have v4 : w3.cell? ⟨w2.heap.size, 4, none⟩ = some (.int .i64 y.unit) := X0.cell 4
      have v5 : w3.cell? ⟨w2.heap.size, 5, none⟩ = some (.slice an y.names.length kn) := X0.cell 5
      have hl_v : w2.heap.size < w3.heap.size := by omega
      replace x0 := cell_kept hb1 x0 hl_x
      replace x1 := cell_kept hb1 x1 hl_x
      replace x2 := cell_kept hb1 x2 hl_x
      replace x3 := cell_kept hb1 x3 hl_x
      replace x4 := cell_kept hb1 x4 hl_x
      replace x5 := cell_kept hb1 x5 hl_x
      replace x6 := cell_kept hb1 x6 hl_x
      replace x7 := cell_kept hb1 x7 hl_x
      replace x8 := cell_kept hb1 x8 hl_x
      replace x9 := cell_kept hb1 x9 hl_x
      replace x10 := cell_kept hb1 x10 hl_x
      replace y0 := cell_kept hb1 y0 hl_y
      replace y1 := cell_kept hb1 y1 hl_y
      replace y2 := cell_kept hb1 y2 hl_y
      replace y3 := cell_kept hb1 y3 hl_y
      replace y4 := cell_kept hb1 y4 hl_y
      replace y5 := cell_kept hb1 y5 hl_y
      replace z0 := cell_kept hb1 z0 hl_z
      replace z1 := cell_kept hb1 z1 hl_z
      replace z2 := cell_kept hb1 z2 hl_z
      replace z3 := cell_kept hb1 z3 hl_z
      replace z4 := cell_kept hb1 z4 hl_z
      replace Hb := Lib.hid (Hb.out.trans (hb1.mono hwl))
      replace hl_x := Nat.lt_of_lt_of_le hl_x hb1.size
      replace hl_y := Nat.lt_of_lt_of_le hl_y hb1.size
      replace hl_z := Nat.lt_of_lt_of_le hl_z hb1.size
      replace hwl := Nat.le_trans hwl hb1.size
      clear hb1
      clear hw0 hsz X0
      have Hbb3 := Lib.hid (Hbb.out.trans (Hb.out.mono Hbb.out.size))
      refine (equal_any an fa kn fk y.names fd.names _ (Hn.out.below RStr.stab Hbb3.out) (Hf.out.below RStr.stab Hbb3.out) hl).mono ?_
      rintro e w4 ⟨rfl, hb1⟩
      replace x0 := cell_kept hb1 x0 hl_x
      replace x1 := cell_kept hb1 x1 hl_x
      replace x2 := cell_kept hb1 x2 hl_x
      replace x3 := cell_kept hb1 x3 hl_x
      replace x4 := cell_kept hb1 x4 hl_x
      replace x5 := cell_kept hb1 x5 hl_x
      replace x6 := cell_kept hb1 x6 hl_x
      replace x7 := cell_kept hb1 x7 hl_x
      replace x8 := cell_kept hb1 x8 hl_x
      replace x9 := cell_kept hb1 x9 hl_x
      replace x10 := cell_kept hb1 x10 hl_x
      replace y0 := cell_kept hb1 y0 hl_y
      replace y1 := cell_kept hb1 y1 hl_y
      replace y2 := cell_kept hb1 y2 hl_y
      replace y3 := cell_kept hb1 y3 hl_y
      replace y4 := cell_kept hb1 y4 hl_y
      replace y5 := cell_kept hb1 y5 hl_y
      replace z0 := cell_kept hb1 z0 hl_z
      replace z1 := cell_kept hb1 z1 hl_z
      replace z2 := cell_kept hb1 z2 hl_z
      replace z3 := cell_kept hb1 z3 hl_z
      replace z4 := cell_kept hb1 z4 hl_z
      replace v0 := cell_kept hb1 v0 hl_v
      replace v1 := cell_kept hb1 v1 hl_v
      replace v2 := cell_kept hb1 v2 hl_v
      replace v3 := cell_kept hb1 v3 hl_v
      replace v4 := cell_kept hb1 v4 hl_v
      replace v5 := cell_kept hb1 v5 hl_v
      replace Hb := Lib.hid (Hb.out.trans (hb1.mono hwl))
      replace hl_x := Nat.lt_of_lt_of_le hl_x hb1.size
      replace hl_y := Nat.lt_of_lt_of_le hl_y hb1.size
      replace hl_z := Nat.lt_of_lt_of_le hl_z hb1.size
      replace hl_v := Nat.lt_of_lt_of_le hl_v hb1.size
      replace hwl := Nat.le_trans hwl hb1.size
      clear hb1
      by_cases hnm : y.names = fd.names
      · rw [decide_eq_true hnm]
        have Hnm := Lib.hid hnm
        clear hnm
        go_wp2
        all_goals go_ret
        all_goals (refine ⟨ret_bool ?_, Hb.out⟩)
        all_goals (unfold setB; rw [if_neg (by simp [hn]), Ht.out]; simp [inTy, H1.out, H2.out, Hnm.out]; try omega)
      · rw [decide_eq_false hnm]
        go_wp2
        go_ret
        refine ⟨ret_bool ?_, Hb.out⟩
        unfold setB; rw [if_neg (by simp [hn]), Ht.out]; simp [inTy, hnm]
end Go.Proofs.Ytogenjbabgibbaa
