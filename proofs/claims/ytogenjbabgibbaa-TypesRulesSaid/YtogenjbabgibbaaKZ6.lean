import Derived.Test.YtogenjbabgibbaaKZ2
import Derived.Test.YtogenjbabgibbaaKL
import Derived.Test.YtogenjbabgibbaaKK
namespace Go.Proofs.Ytogenjbabgibbaa
open Go.RowKit
theorem usable_facts {s : SourceD} {r : RefD} {t : TyD} (h : usable? s r = some t) : typeOf? s r.schema r.field = some t ∧ goodT s t = true := by
  unfold usable? at h
  split at h
  · next u hu =>
    unfold goodO at h
    split at h
    · next hg =>
      simp only [Option.some.injEq] at h
      subst h
      exact ⟨hu, hg⟩
    · cases h
  · cases h
def valueB (s : SourceD) (i j v : Int) : Bool := match typeOf? s i j with | some t => kindB t s.units.length && (decide (t.lo ≤ v) && decide (v ≤ t.hi)) | none => false
set_option maxRecDepth 20000 in
set_option maxHeartbeats 4000000 in
theorem value_any (s : SourceD) (p : SrcAt) (i j v : Int) (w : World) (hs : Src w s p) (hsh : Short s) :
    Calls Try.prog 15 #[s.val p, .int .i64 i, .int .i64 j, .int .i64 v] w fun e w' => e = .returned (.bool (valueB s i j v)) ∧ Below w.heap.size w w' := by
  obtain ⟨a0, k0, a1, k1, a2, k2, a3, k3, a4, k4, a5, k5⟩ := p
  have Hs := Lib.hid hs
  clear hs
  go_enter Try.func15, Try.ntmps15
  go_wp2_with fail
  generalize hw0 : World.alloc _ _ = w0
  obtain ⟨X0, X1, hsz, hb0⟩ := blk2 hw0
  have x0 : w0.cell? ⟨w.heap.size, 0, none⟩ = some (.slice a0 s.issuers.length k0) := X0.cell 0
  have x1 : w0.cell? ⟨w.heap.size, 1, none⟩ = some (.slice a1 s.units.length k1) := X0.cell 1
  have x2 : w0.cell? ⟨w.heap.size, 2, none⟩ = some (.slice a2 s.schemas.length k2) := X0.cell 2
  have x3 : w0.cell? ⟨w.heap.size, 3, none⟩ = some (.slice a3 s.rules.length k3) := X0.cell 3
  have x4 : w0.cell? ⟨w.heap.size, 4, none⟩ = some (.slice a4 s.converts k4) := X0.cell 4
  have x5 : w0.cell? ⟨w.heap.size, 5, none⟩ = some (.slice a5 s.purposes.length k5) := X0.cell 5
  have hl_x : w.heap.size < w0.heap.size := by omega
  have y0 : w0.cell? ⟨w.heap.size + 1, 0, none⟩ = some (.slice a0 s.issuers.length k0) := X1.cell 0
  have y1 : w0.cell? ⟨w.heap.size + 1, 1, none⟩ = some (.slice a1 s.units.length k1) := X1.cell 1
  have y2 : w0.cell? ⟨w.heap.size + 1, 2, none⟩ = some (.slice a2 s.schemas.length k2) := X1.cell 2
  have y3 : w0.cell? ⟨w.heap.size + 1, 3, none⟩ = some (.slice a3 s.rules.length k3) := X1.cell 3
  have y4 : w0.cell? ⟨w.heap.size + 1, 4, none⟩ = some (.slice a4 s.converts k4) := X1.cell 4
  have y5 : w0.cell? ⟨w.heap.size + 1, 5, none⟩ = some (.slice a5 s.purposes.length k5) := X1.cell 5
  have hl_y : w.heap.size + 1 < w0.heap.size := by omega
  have hwl : w.heap.size ≤ w0.heap.size := hb0.size
  have Hb := Lib.hid hb0
  clear hw0 hb0 hsz X0 X1
  cases ht : typeOf? s i j with
  | none =>
    refine (typeOf_no s ⟨a0, k0, a1, k1, a2, k2, a3, k3, a4, k4, a5, k5⟩ i j ht _ (Hs.out.below Hb.out)).mono ?_
    rintro e w1 ⟨rfl, hb1⟩
    replace x0 := cell_kept hb1 x0 hl_x
    replace x1 := cell_kept hb1 x1 hl_x
    replace x2 := cell_kept hb1 x2 hl_x
    replace x3 := cell_kept hb1 x3 hl_x
    replace x4 := cell_kept hb1 x4 hl_x
    replace x5 := cell_kept hb1 x5 hl_x
    replace y0 := cell_kept hb1 y0 hl_y
    replace y1 := cell_kept hb1 y1 hl_y
    replace y2 := cell_kept hb1 y2 hl_y
    replace y3 := cell_kept hb1 y3 hl_y
    replace y4 := cell_kept hb1 y4 hl_y
    replace y5 := cell_kept hb1 y5 hl_y
    replace Hb := Lib.hid (Hb.out.trans (hb1.mono hwl))
    replace hl_x := Nat.lt_of_lt_of_le hl_x hb1.size
    replace hl_y := Nat.lt_of_lt_of_le hl_y hb1.size
    replace hwl := Nat.le_trans hwl hb1.size
    clear hb1
    go_wp2_with fail
    go_ret
    exact ⟨ret_bool (by simp [valueB, ht]), Hb.out.alloc hwl _⟩
  | some t =>
    refine (typeOf_at s ⟨a0, k0, a1, k1, a2, k2, a3, k3, a4, k4, a5, k5⟩ i j t ht _ (Hs.out.below Hb.out) _ (Below.refl _ _)).mono ?_
    rintro e w1 ⟨⟨an, kn, rfl, hnf⟩, hb1⟩
    have Hnf := Lib.hid (hnf.below RStr.stab hb1)
    have hl := hsh i j t ht
    have Hv := Lib.hid (show valueB s i j v = (kindB t s.units.length && (decide (t.lo ≤ v) && decide (v ≤ t.hi))) by simp [valueB, ht])
    clear hnf ht
    replace x0 := cell_kept hb1 x0 hl_x
    replace x1 := cell_kept hb1 x1 hl_x
    replace x2 := cell_kept hb1 x2 hl_x
    replace x3 := cell_kept hb1 x3 hl_x
    replace x4 := cell_kept hb1 x4 hl_x
    replace x5 := cell_kept hb1 x5 hl_x
    replace y0 := cell_kept hb1 y0 hl_y
    replace y1 := cell_kept hb1 y1 hl_y
    replace y2 := cell_kept hb1 y2 hl_y
    replace y3 := cell_kept hb1 y3 hl_y
    replace y4 := cell_kept hb1 y4 hl_y
    replace y5 := cell_kept hb1 y5 hl_y
    replace Hb := Lib.hid (Hb.out.trans (hb1.mono hwl))
    replace hl_x := Nat.lt_of_lt_of_le hl_x hb1.size
    replace hl_y := Nat.lt_of_lt_of_le hl_y hb1.size
    replace hwl := Nat.le_trans hwl hb1.size
    clear hb1
    go_wp2_with fail
    generalize hw0 : World.alloc _ _ = w2
    obtain ⟨X0, hsz, hb1⟩ := blk1 hw0
    have v0 : w2.cell? ⟨w1.heap.size, 0, none⟩ = some (.int .i64 t.kind) := X0.cell 0
    have v1 : w2.cell? ⟨w1.heap.size, 1, none⟩ = some (.int .i64 t.lo) := X0.cell 1
    have v2 : w2.cell? ⟨w1.heap.size, 2, none⟩ = some (.int .i64 t.hi) := X0.cell 2
    have v3 : w2.cell? ⟨w1.heap.size, 3, none⟩ = some (.string t.of_) := X0.cell 3
    have v4 : w2.cell? ⟨w1.heap.size, 4, none⟩ = some (.int .i64 t.unit) := X0.cell 4
    have v5 : w2.cell? ⟨w1.heap.size, 5, none⟩ = some (.slice an t.names.length kn) := X0.cell 5
    have hl_v : w1.heap.size < w2.heap.size := by omega
    replace x0 := cell_kept hb1 x0 hl_x
    replace x1 := cell_kept hb1 x1 hl_x
    replace x2 := cell_kept hb1 x2 hl_x
    replace x3 := cell_kept hb1 x3 hl_x
    replace x4 := cell_kept hb1 x4 hl_x
    replace x5 := cell_kept hb1 x5 hl_x
    replace y0 := cell_kept hb1 y0 hl_y
    replace y1 := cell_kept hb1 y1 hl_y
    replace y2 := cell_kept hb1 y2 hl_y
    replace y3 := cell_kept hb1 y3 hl_y
    replace y4 := cell_kept hb1 y4 hl_y
    replace y5 := cell_kept hb1 y5 hl_y
    replace Hb := Lib.hid (Hb.out.trans (hb1.mono hwl))
    replace hl_x := Nat.lt_of_lt_of_le hl_x hb1.size
    replace hl_y := Nat.lt_of_lt_of_le hl_y hb1.size
    replace hwl := Nat.le_trans hwl hb1.size
    replace Hnf := Lib.hid (Hnf.out.below RStr.stab hb1)
    clear hb1
    clear hw0 hsz X0
    refine (typeOK_any s ⟨a0, k0, a1, k1, a2, k2, a3, k3, a4, k4, a5, k5⟩ t an kn _ Hnf.out hl).mono ?_
    rintro e w3 ⟨rfl, hb1⟩
    replace x0 := cell_kept hb1 x0 hl_x
    replace x1 := cell_kept hb1 x1 hl_x
    replace x2 := cell_kept hb1 x2 hl_x
    replace x3 := cell_kept hb1 x3 hl_x
    replace x4 := cell_kept hb1 x4 hl_x
    replace x5 := cell_kept hb1 x5 hl_x
    replace y0 := cell_kept hb1 y0 hl_y
    replace y1 := cell_kept hb1 y1 hl_y
    replace y2 := cell_kept hb1 y2 hl_y
    replace y3 := cell_kept hb1 y3 hl_y
    replace y4 := cell_kept hb1 y4 hl_y
    replace y5 := cell_kept hb1 y5 hl_y
    replace v0 := cell_kept hb1 v0 hl_v
    replace v1 := cell_kept hb1 v1 hl_v
    replace v2 := cell_kept hb1 v2 hl_v
    replace v3 := cell_kept hb1 v3 hl_v
    replace v4 := cell_kept hb1 v4 hl_v
    replace v5 := cell_kept hb1 v5 hl_v
    replace Hb := Lib.hid (Hb.out.trans (hb1.mono hwl))
    replace hl_x := Nat.lt_of_lt_of_le hl_x hb1.size
    replace hl_y := Nat.lt_of_lt_of_le hl_y hb1.size
    replace hl_v := Nat.lt_of_lt_of_le hl_v hb1.size
    replace hwl := Nat.le_trans hwl hb1.size
    clear hb1
    cases hk : kindB t s.units.length with
    | false =>
      go_wp2
      go_ret
      exact ⟨ret_bool (by rw [Hv.out, hk]; rfl), Hb.out⟩
    | true =>
      have Hk := Lib.hid hk
      clear hk
      by_cases hlo : t.lo ≤ v
      · go_wp2
        all_goals go_ret
        all_goals exact ⟨ret_bool (by rw [Hv.out, Hk.out]; simp [*]; try omega), Hb.out⟩
      · go_wp2
        all_goals go_ret
        all_goals exact ⟨ret_bool (by rw [Hv.out, Hk.out]; simp [*]; try omega), Hb.out⟩
def scaleOf (us : List UnitD) (n : Int) : Int := match us[n.toNat]? with | some u => u.scale | none => 0
def baseV (s : SourceD) (r : RefD) (v : Int) : Int × Int := match usable? s r with | some t => if 0 ≤ v ∧ v ≤ 1048576 then (if 0 ≤ t.unit then (v * scaleOf s.units t.unit, 0) else (v, 0)) else (0, 120) | none => (0, 120)
theorem goodT_unit {s : SourceD} {t : TyD} (h : goodT s t = true) (h0 : 0 ≤ t.unit) : ∃ hlt : t.unit.toNat < s.units.length, t.unit < s.units.length ∧ unitB s.units s.units[t.unit.toNat] = true := by
  unfold goodT at h
  simp only [Bool.and_eq_true] at h
  have hk := kindB_unit h.1
  have hlt : t.unit.toNat < s.units.length := by omega
  refine ⟨hlt, hk.2, ?_⟩
  have h2 := h.2
  simp only [Bool.or_eq_true, decide_eq_true_eq] at h2
  rcases h2 with h2 | h2
  · omega
  · unfold unitAt at h2
    rw [List.getElem?_eq_getElem hlt] at h2
    exact h2
theorem unitB_scale {us : List UnitD} {u : UnitD} (h : unitB us u = true) : 1 ≤ u.scale ∧ u.scale ≤ 1099511627776 := by
  unfold unitB at h
  simp only [Bool.and_eq_true, decide_eq_true_eq] at h
  exact ⟨h.1.1.1, h.1.1.2⟩
theorem ret_2 {k k' : IntKind} {a b c d : Int} (h : (a, b) = (c, d)) : Ending.returned (.tuple #[.int k a, .int k' b]) = .returned (.tuple #[.int k c, .int k' d]) := by cases h; rfl
set_option maxRecDepth 20000 in
set_option maxHeartbeats 4000000 in
theorem base_any (s : SourceD) (p : SrcAt) (r : RefD) (v : Int) (w : World) (hs : Src w s p) (hsh : Short s) :
    Calls Try.prog 13 #[s.val p, r.val, .int .i64 v] w fun e w' => e = .returned (.tuple #[.int .i64 (baseV s r v).1, .int .i64 (baseV s r v).2]) ∧ Below w.heap.size w w' := by
  obtain ⟨a0, k0, a1, k1, a2, k2, a3, k3, a4, k4, a5, k5⟩ := p
  have Hs := Lib.hid hs
  clear hs
  go_enter Try.func13, Try.ntmps13
  go_wp2_with fail
  generalize hw0 : World.alloc _ _ = w0
  obtain ⟨X0, X1, X2, hsz, hb0⟩ := blk3 hw0
  have x0 : w0.cell? ⟨w.heap.size, 0, none⟩ = some (.slice a0 s.issuers.length k0) := X0.cell 0
  have x1 : w0.cell? ⟨w.heap.size, 1, none⟩ = some (.slice a1 s.units.length k1) := X0.cell 1
  have x2 : w0.cell? ⟨w.heap.size, 2, none⟩ = some (.slice a2 s.schemas.length k2) := X0.cell 2
  have x3 : w0.cell? ⟨w.heap.size, 3, none⟩ = some (.slice a3 s.rules.length k3) := X0.cell 3
  have x4 : w0.cell? ⟨w.heap.size, 4, none⟩ = some (.slice a4 s.converts k4) := X0.cell 4
  have x5 : w0.cell? ⟨w.heap.size, 5, none⟩ = some (.slice a5 s.purposes.length k5) := X0.cell 5
  have hl_x : w.heap.size < w0.heap.size := by omega
  have z0 : w0.cell? ⟨w.heap.size + 1, 0, none⟩ = some (.string r.name) := X1.cell 0
  have z1 : w0.cell? ⟨w.heap.size + 1, 1, none⟩ = some (.string r.path) := X1.cell 1
  have z2 : w0.cell? ⟨w.heap.size + 1, 2, none⟩ = some (.int .i64 r.schema) := X1.cell 2
  have z3 : w0.cell? ⟨w.heap.size + 1, 3, none⟩ = some (.int .i64 r.field) := X1.cell 3
  have hl_z : w.heap.size + 1 < w0.heap.size := by omega
  have y0 : w0.cell? ⟨w.heap.size + 1 + 1, 0, none⟩ = some (.slice a0 s.issuers.length k0) := X2.cell 0
  have y1 : w0.cell? ⟨w.heap.size + 1 + 1, 1, none⟩ = some (.slice a1 s.units.length k1) := X2.cell 1
  have y2 : w0.cell? ⟨w.heap.size + 1 + 1, 2, none⟩ = some (.slice a2 s.schemas.length k2) := X2.cell 2
  have y3 : w0.cell? ⟨w.heap.size + 1 + 1, 3, none⟩ = some (.slice a3 s.rules.length k3) := X2.cell 3
  have y4 : w0.cell? ⟨w.heap.size + 1 + 1, 4, none⟩ = some (.slice a4 s.converts k4) := X2.cell 4
  have y5 : w0.cell? ⟨w.heap.size + 1 + 1, 5, none⟩ = some (.slice a5 s.purposes.length k5) := X2.cell 5
  have hl_y : w.heap.size + 1 + 1 < w0.heap.size := by omega
  have hwl : w.heap.size ≤ w0.heap.size := hb0.size
  have Hb := Lib.hid hb0
  clear hw0 hb0 hsz X0 X1 X2
  refine (usable_any s ⟨a0, k0, a1, k1, a2, k2, a3, k3, a4, k4, a5, k5⟩ r _ (Hs.out.below Hb.out) _ (Below.refl _ _) hsh).mono ?_
  cases hu : usable? s r with
  | none =>
    rintro e w1 ⟨⟨t, an, kn, rfl⟩, hb1⟩
    replace x0 := cell_kept hb1 x0 hl_x
    replace x1 := cell_kept hb1 x1 hl_x
    replace x2 := cell_kept hb1 x2 hl_x
    replace x3 := cell_kept hb1 x3 hl_x
    replace x4 := cell_kept hb1 x4 hl_x
    replace x5 := cell_kept hb1 x5 hl_x
    replace z0 := cell_kept hb1 z0 hl_z
    replace z1 := cell_kept hb1 z1 hl_z
    replace z2 := cell_kept hb1 z2 hl_z
    replace z3 := cell_kept hb1 z3 hl_z
    replace y0 := cell_kept hb1 y0 hl_y
    replace y1 := cell_kept hb1 y1 hl_y
    replace y2 := cell_kept hb1 y2 hl_y
    replace y3 := cell_kept hb1 y3 hl_y
    replace y4 := cell_kept hb1 y4 hl_y
    replace y5 := cell_kept hb1 y5 hl_y
    replace Hb := Lib.hid (Hb.out.trans (hb1.mono hwl))
    replace hl_x := Nat.lt_of_lt_of_le hl_x hb1.size
    replace hl_z := Nat.lt_of_lt_of_le hl_z hb1.size
    replace hl_y := Nat.lt_of_lt_of_le hl_y hb1.size
    replace hwl := Nat.le_trans hwl hb1.size
    clear hb1
    go_wp2_with fail
    refine bodyPost_ret (v := .tuple #[.int .i64 0, .int .i64 120]) (by simp [results, Try.f13, go_sem]) rfl ⟨?_, ?_⟩
    · exact ret_2 (by simp [baseV, hu])
    · exact Hb.out.alloc hwl _
  | some t =>
    rintro e w1 ⟨⟨an, kn, rfl, hnf⟩, hb1⟩
    obtain ⟨hty, hgd⟩ := usable_facts hu
    clear hnf hty
    replace x0 := cell_kept hb1 x0 hl_x
    replace x1 := cell_kept hb1 x1 hl_x
    replace x2 := cell_kept hb1 x2 hl_x
    replace x3 := cell_kept hb1 x3 hl_x
    replace x4 := cell_kept hb1 x4 hl_x
    replace x5 := cell_kept hb1 x5 hl_x
    replace z0 := cell_kept hb1 z0 hl_z
    replace z1 := cell_kept hb1 z1 hl_z
    replace z2 := cell_kept hb1 z2 hl_z
    replace z3 := cell_kept hb1 z3 hl_z
    replace y0 := cell_kept hb1 y0 hl_y
    replace y1 := cell_kept hb1 y1 hl_y
    replace y2 := cell_kept hb1 y2 hl_y
    replace y3 := cell_kept hb1 y3 hl_y
    replace y4 := cell_kept hb1 y4 hl_y
    replace y5 := cell_kept hb1 y5 hl_y
    replace Hb := Lib.hid (Hb.out.trans (hb1.mono hwl))
    replace hl_x := Nat.lt_of_lt_of_le hl_x hb1.size
    replace hl_z := Nat.lt_of_lt_of_le hl_z hb1.size
    replace hl_y := Nat.lt_of_lt_of_le hl_y hb1.size
    replace hwl := Nat.le_trans hwl hb1.size
    clear hb1
    by_cases hv : 0 ≤ v ∧ v ≤ 1048576
    case neg =>
      have Hv := Lib.hid (show baseV s r v = (0, 120) by simp only [baseV, hu, if_neg hv])
      have Hn := Lib.hid hv
      clear hv hu hgd
      go_wp2_with fail
      all_goals (try (exfalso; have := Hn.out; omega))
      all_goals refine bodyPost_ret (v := .tuple #[.int .i64 0, .int .i64 120]) (by simp [results, Try.f13, go_sem]) rfl ⟨?_, ?_⟩
      all_goals first | exact ret_2 Hv.out.symm | exact Hb.out.alloc hwl _
    case pos =>
      by_cases h0 : 0 ≤ t.unit
      case neg =>
        have Hv := Lib.hid (show baseV s r v = (v, 0) by simp only [baseV, hu, if_pos hv, if_neg h0])
        obtain ⟨hv1, hv2⟩ := hv
        clear hu hgd
        go_wp2_with fail
        all_goals (try (exfalso; omega))
        all_goals refine bodyPost_ret (v := .tuple #[.int .i64 v, .int .i64 0]) (by simp [results, Try.f13, go_sem]) rfl ⟨?_, ?_⟩
        all_goals first | exact ret_2 Hv.out.symm | exact Hb.out.alloc hwl _
      case pos =>
        obtain ⟨hlt, hlt2, hub⟩ := goodT_unit hgd h0
        obtain ⟨b, off, e1, hl_c, _, c0, c1, c2, c3, c4⟩ := UnitD.out ((Hs.out.below Hb.out).h1) t.unit.toNat hlt
        simp only at e1
        subst e1
        have Hv := Lib.hid (show baseV s r v = (v * s.units[t.unit.toNat].scale, 0) by simp only [baseV, hu, if_pos hv, if_pos h0, scaleOf, List.getElem?_eq_getElem hlt])
        generalize s.units[t.unit.toNat] = u at *
        obtain ⟨hs1, hs2⟩ := unitB_scale hub
        obtain ⟨hv1, hv2⟩ := hv
        have hm : IntKind.i64.wrap (v * u.scale) = v * u.scale := IntWalk.i64_in _ (by
          have h1 : 0 ≤ v * u.scale := Int.mul_nonneg hv1 (by omega)
          have h2 : v * u.scale ≤ 1048576 * 1099511627776 := Int.mul_le_mul hv2 hs2 (by omega) (by omega)
          omega)
        clear hu hgd hub
        go_wp2_with fail
        all_goals (try (exfalso; omega))
        all_goals refine bodyPost_ret (v := .tuple #[.int .i64 (v * u.scale), .int .i64 0]) (by simp [results, Try.f13, go_sem]) rfl ⟨?_, ?_⟩
        all_goals first | exact ret_2 Hv.out.symm | exact Hb.out.alloc hwl _
end Go.Proofs.Ytogenjbabgibbaa
