import Derived.Test.YtogenjbabgibbaaKZ8
import Derived.Test.YtogenjbabgibbaaKJ
namespace Go.Proofs.Ytogenjbabgibbaa
open Go.RowKit
theorem cmp_lawF {us : List UnitD} {a b : TyD} (ha : kindB a us.length = true) (hb : kindB b us.length = true) : cmpB us a b = rcmpB us a b := by
  have ua := kindB_unit ha
  have ub := kindB_unit hb
  unfold cmpB rcmpB
  by_cases hk : a.kind ≠ b.kind
  · rw [if_pos hk, if_pos hk]
  · rw [if_neg hk, if_neg hk]
    have hk' : a.kind = b.kind := Classical.not_not.1 hk
    by_cases h4 : a.kind = 4
    · rw [if_pos h4, if_neg (by omega), if_neg (by omega)]
    · rw [if_neg h4]
      by_cases h1 : a.kind = 1
      · rw [if_pos h1]
        by_cases hu : a.unit = -1
        · rw [if_pos hu, if_pos (by simp [hu])]
          simp only [hu]
          exact decide_eq_decide.2 ⟨fun h => h.symm, fun h => h.symm⟩
        · rw [if_neg hu]
          by_cases hv : b.unit = -1
          · rw [if_pos (by simp [hv]), decide_eq_false (by omega), decide_eq_false (by omega)]; rfl
          · rw [if_neg (by simp [hu, hv, h1]), decide_eq_true (show 0 ≤ b.unit by omega), Bool.true_and]
      · rw [if_neg h1, if_pos (by simp [h1]), if_pos h4]
        have ea : a.unit = -1 := by
          unfold kindB at ha
          rw [if_neg h1] at ha
          split at ha
          · simp [kind2] at ha; omega
          · split at ha
            · simp [kind3] at ha; omega
            · simp at ha
        have eb : b.unit = -1 := by
          unfold kindB at hb
          rw [if_neg (by omega)] at hb
          split at hb
          · simp [kind2] at hb; omega
          · split at hb
            · simp [kind3] at hb; omega
            · simp [show ¬ b.kind = 4 by omega] at hb
        rw [ea, eb]; rfl
theorem sound_usable (s : SourceD) (r : RefD) : soundB s r = (usable? s r).isSome := by
  unfold soundB usable?
  cases typeOf? s r.schema r.field with
  | none => rfl
  | some t =>
    simp only [goodO]
    cases goodT s t <;> rfl
theorem sound_eq (s : SourceD) (p : SrcAt) (r : RefD) (w : World) (hs : Src w s p) (hsh : Short s) (b : Bool) (hb : (usable? s r).isSome = b) :
    Calls Try.prog 38 #[s.val p, r.val] w fun e w' => e = .returned (.bool b) ∧ Below w.heap.size w w' := by
  subst hb
  rw [← sound_usable]
  exact rsound_any s p r w hs hsh
set_option maxRecDepth 20000 in
set_option maxHeartbeats 4000000 in
theorem rbase_any (s : SourceD) (p : SrcAt) (r : RefD) (v : Int) (w : World) (hs : Src w s p) (hsh : Short s) :
    Calls Try.prog 14 #[s.val p, r.val, .int .i64 v] w fun e w' => e = .returned (.tuple #[.int .i64 (baseV s r v).1, .int .i64 (baseV s r v).2]) ∧ Below w.heap.size w w' := by
  obtain ⟨a0, k0, a1, k1, a2, k2, a3, k3, a4, k4, a5, k5⟩ := p
  have Hs := Lib.hid hs
  clear hs
  go_enter Try.func14, Try.ntmps14
  go_wp2_with fail
  generalize hw0 : World.alloc _ _ = w0
  obtain ⟨X0, X1, hsz, hb0⟩ := blk2 hw0
  have x0 : w0.cell? ⟨w.heap.size, 0, none⟩ = some (.slice a0 s.issuers.length k0) := X0.cell 0
  have x1 : w0.cell? ⟨w.heap.size, 1, none⟩ = some (.slice a1 s.units.length k1) := X0.cell 1
  have x2 : w0.cell? ⟨w.heap.size, 2, none⟩ = some (.slice a2 s.schemas.length k2) := X0.cell 2
  have x3 : w0.cell? ⟨w.heap.size, 3, none⟩ = some (.slice a3 s.rules.length k3) := X0.cell 3
  have x4 : w0.cell? ⟨w.heap.size, 4, none⟩ = some (.slice a4 s.converts k4) := X0.cell 4
  have x5 : w0.cell? ⟨w.heap.size, 5, none⟩ = some (.slice a5 s.purposes.length k5) := X0.cell 5
  have hl_x : w.heap.size < w0.heap.size := by omega
  have z0 : w0.cell? ⟨w.heap.size + 1, 0, none⟩ = some (.string r.name) := X1.cell 0
  have z1 : w0.cell? ⟨w.heap.size + 1, 1, none⟩ = some (.string r.path) := X1.cell 1
  have z2 : w0.cell? ⟨w.heap.size + 1, 2, none⟩ = some (.int .i64 r.schema) := X1.cell 2
  have z3 : w0.cell? ⟨w.heap.size + 1, 3, none⟩ = some (.int .i64 r.field) := X1.cell 3
  have hl_z : w.heap.size + 1 < w0.heap.size := by omega
  have hwl : w.heap.size ≤ w0.heap.size := hb0.size
  have Hb := Lib.hid hb0
  clear hw0 hb0 hsz X0 X1
  cases hu : usable? s r with
  | none =>
    refine (sound_eq s ⟨a0, k0, a1, k1, a2, k2, a3, k3, a4, k4, a5, k5⟩ r _ (Hs.out.below Hb.out) hsh false (by rw [hu]; rfl)).mono ?_
    rintro e w1 ⟨rfl, hb1⟩
    replace x0 := cell_kept hb1 x0 hl_x
    replace x1 := cell_kept hb1 x1 hl_x
    replace x2 := cell_kept hb1 x2 hl_x
    replace x3 := cell_kept hb1 x3 hl_x
    replace x4 := cell_kept hb1 x4 hl_x
    replace x5 := cell_kept hb1 x5 hl_x
    replace z0 := cell_kept hb1 z0 hl_z
    replace z1 := cell_kept hb1 z1 hl_z
    replace z2 := cell_kept hb1 z2 hl_z
    replace z3 := cell_kept hb1 z3 hl_z
    replace Hb := Lib.hid (Hb.out.trans (hb1.mono hwl))
    replace hl_x := Nat.lt_of_lt_of_le hl_x hb1.size
    replace hl_z := Nat.lt_of_lt_of_le hl_z hb1.size
    replace hwl := Nat.le_trans hwl hb1.size
    clear hb1
    go_wp2_with fail
    refine bodyPost_ret (v := .tuple #[.int .i64 0, .int .i64 120]) (by simp [results, Try.f14, go_sem]) rfl ⟨?_, ?_⟩
    · exact ret_2 (by simp [baseV, hu])
    · exact Hb.out
  | some t =>
    refine (sound_eq s ⟨a0, k0, a1, k1, a2, k2, a3, k3, a4, k4, a5, k5⟩ r _ (Hs.out.below Hb.out) hsh true (by rw [hu]; rfl)).mono ?_
    rintro e w1 ⟨rfl, hb1⟩
    replace x0 := cell_kept hb1 x0 hl_x
    replace x1 := cell_kept hb1 x1 hl_x
    replace x2 := cell_kept hb1 x2 hl_x
    replace x3 := cell_kept hb1 x3 hl_x
    replace x4 := cell_kept hb1 x4 hl_x
    replace x5 := cell_kept hb1 x5 hl_x
    replace z0 := cell_kept hb1 z0 hl_z
    replace z1 := cell_kept hb1 z1 hl_z
    replace z2 := cell_kept hb1 z2 hl_z
    replace z3 := cell_kept hb1 z3 hl_z
    replace Hb := Lib.hid (Hb.out.trans (hb1.mono hwl))
    replace hl_x := Nat.lt_of_lt_of_le hl_x hb1.size
    replace hl_z := Nat.lt_of_lt_of_le hl_z hb1.size
    replace hwl := Nat.le_trans hwl hb1.size
    clear hb1
    obtain ⟨hty, hgd⟩ := usable_facts hu
    by_cases hv : 0 ≤ v ∧ v ≤ 1048576
    case neg =>
      have Hv := Lib.hid (show baseV s r v = (0, 120) by simp only [baseV, hu, if_neg hv])
      have Hn := Lib.hid hv
      clear hv hu hgd hty
      go_wp2_with fail
      all_goals (try (exfalso; have := Hn.out; omega))
      all_goals refine bodyPost_ret (v := .tuple #[.int .i64 0, .int .i64 120]) (by simp [results, Try.f14, go_sem]) rfl ⟨?_, ?_⟩
      all_goals first | exact ret_2 Hv.out.symm | exact Hb.out
    case pos =>
      have Hu := Lib.hid hu
      obtain ⟨hv1, hv2⟩ := hv
      clear hu
      go_wp2_with fail
      all_goals (try (exfalso; omega))
      refine (rtypeOf_at s ⟨a0, k0, a1, k1, a2, k2, a3, k3, a4, k4, a5, k5⟩ r.schema r.field t hty _ (Hs.out.below Hb.out) _ (Below.refl _ _)).mono ?_
      rintro e w2 ⟨⟨an, kn, rfl, hnf⟩, hb1⟩
      clear hnf hty
      replace x0 := cell_kept hb1 x0 hl_x
      replace x1 := cell_kept hb1 x1 hl_x
      replace x2 := cell_kept hb1 x2 hl_x
      replace x3 := cell_kept hb1 x3 hl_x
      replace x4 := cell_kept hb1 x4 hl_x
      replace x5 := cell_kept hb1 x5 hl_x
      replace z0 := cell_kept hb1 z0 hl_z
      replace z1 := cell_kept hb1 z1 hl_z
      replace z2 := cell_kept hb1 z2 hl_z
      replace z3 := cell_kept hb1 z3 hl_z
      replace Hb := Lib.hid (Hb.out.trans (hb1.mono hwl))
      replace hl_x := Nat.lt_of_lt_of_le hl_x hb1.size
      replace hl_z := Nat.lt_of_lt_of_le hl_z hb1.size
      replace hwl := Nat.le_trans hwl hb1.size
      clear hb1
      by_cases h0 : t.unit = -1
      case pos =>
        have Hv := Lib.hid (show baseV s r v = (v, 0) by simp only [baseV, Hu.out, if_pos (show 0 ≤ v ∧ v ≤ 1048576 from ⟨hv1, hv2⟩), if_neg (show ¬ 0 ≤ t.unit by omega)])
        have q0 : (t.unit == -1) = true := by simpa using h0
        have H0 := Lib.hid h0
        clear hgd h0
        go_wp2_with fail
        all_goals (try (exfalso; have := H0.out; simp at *; omega))
        all_goals refine bodyPost_ret (v := .tuple #[.int .i64 v, .int .i64 0]) (by simp [results, Try.f14, go_sem]) rfl ⟨?_, ?_⟩
        all_goals first | exact ret_2 Hv.out.symm | exact Hb.out.alloc hwl _
      case neg =>
        have hk := hgd
        unfold goodT at hk
        simp only [Bool.and_eq_true] at hk
        have hku := kindB_unit hk.1
        have h1 : 0 ≤ t.unit := by omega
        obtain ⟨hlt, hlt2, hub⟩ := goodT_unit hgd h1
        obtain ⟨b, off, e1, hl_c, _, c0, c1, c2, c3, c4⟩ := UnitD.out ((Hs.out.below Hb.out).h1) t.unit.toNat hlt
        simp only at e1
        subst e1
        have Hv := Lib.hid (show baseV s r v = (v * s.units[t.unit.toNat].scale, 0) by simp only [baseV, Hu.out, if_pos (show 0 ≤ v ∧ v ≤ 1048576 from ⟨hv1, hv2⟩), if_pos h1, scaleOf, List.getElem?_eq_getElem hlt])
        generalize s.units[t.unit.toNat] = u at *
        obtain ⟨hs1, hs2⟩ := unitB_scale hub
        have hm : IntKind.i64.wrap (v * u.scale) = v * u.scale := IntWalk.i64_in _ (by
          have h1 : 0 ≤ v * u.scale := Int.mul_nonneg hv1 (by omega)
          have h2 : v * u.scale ≤ 1048576 * 1099511627776 := Int.mul_le_mul hv2 hs2 (by omega) (by omega)
          omega)
        have q0 : (t.unit == -1) = false := by simpa using h0
        clear hgd hub hk h0
        go_wp2_with fail
        all_goals (try (exfalso; simp at *; omega))
        all_goals refine bodyPost_ret (v := .tuple #[.int .i64 (v * u.scale), .int .i64 0]) (by simp [results, Try.f14, go_sem]) rfl ⟨?_, ?_⟩
        all_goals first | exact ret_2 Hv.out.symm | exact Hb.out.alloc hwl _
set_option maxRecDepth 20000 in
set_option maxHeartbeats 4000000 in
theorem rvalue_any (s : SourceD) (p : SrcAt) (i j v : Int) (w : World) (hs : Src w s p) (hsh : Short s) :
    Calls Try.prog 16 #[s.val p, .int .i64 i, .int .i64 j, .int .i64 v] w fun e w' => e = .returned (.bool (valueB s i j v)) ∧ Below w.heap.size w w' := by
  obtain ⟨a0, k0, a1, k1, a2, k2, a3, k3, a4, k4, a5, k5⟩ := p
  have Hs := Lib.hid hs
  clear hs
  go_enter Try.func16, Try.ntmps16
  go_wp2_with fail
  generalize hw0 : World.alloc _ _ = w0
  obtain ⟨X0, hsz, hb0⟩ := blk1 hw0
  have x0 : w0.cell? ⟨w.heap.size, 0, none⟩ = some (.slice a0 s.issuers.length k0) := X0.cell 0
  have x1 : w0.cell? ⟨w.heap.size, 1, none⟩ = some (.slice a1 s.units.length k1) := X0.cell 1
  have x2 : w0.cell? ⟨w.heap.size, 2, none⟩ = some (.slice a2 s.schemas.length k2) := X0.cell 2
  have x3 : w0.cell? ⟨w.heap.size, 3, none⟩ = some (.slice a3 s.rules.length k3) := X0.cell 3
  have x4 : w0.cell? ⟨w.heap.size, 4, none⟩ = some (.slice a4 s.converts k4) := X0.cell 4
  have x5 : w0.cell? ⟨w.heap.size, 5, none⟩ = some (.slice a5 s.purposes.length k5) := X0.cell 5
  have hl_x : w.heap.size < w0.heap.size := by omega
  have hwl : w.heap.size ≤ w0.heap.size := hb0.size
  have Hb := Lib.hid hb0
  clear hw0 hb0 hsz X0
  refine (there_any s ⟨a0, k0, a1, k1, a2, k2, a3, k3, a4, k4, a5, k5⟩ i j _ (Hs.out.below Hb.out)).mono ?_
  rintro e w1 ⟨rfl, hb1⟩
  unfold thereB
  replace x0 := cell_kept hb1 x0 hl_x
  replace x1 := cell_kept hb1 x1 hl_x
  replace x2 := cell_kept hb1 x2 hl_x
  replace x3 := cell_kept hb1 x3 hl_x
  replace x4 := cell_kept hb1 x4 hl_x
  replace x5 := cell_kept hb1 x5 hl_x
  replace Hb := Lib.hid (Hb.out.trans (hb1.mono hwl))
  replace hl_x := Nat.lt_of_lt_of_le hl_x hb1.size
  replace hwl := Nat.le_trans hwl hb1.size
  clear hb1
  cases ht : typeOf? s i j with
  | none =>
    go_wp2_with fail
    go_ret
    exact ⟨ret_bool (by simp [valueB, ht]), Hb.out⟩
  | some t =>
    go_wp2_with fail
    refine (rtypeOf_at s ⟨a0, k0, a1, k1, a2, k2, a3, k3, a4, k4, a5, k5⟩ i j t ht _ (Hs.out.below Hb.out) _ (Below.refl _ _)).mono ?_
    rintro e w2 ⟨⟨an, kn, rfl, hnf⟩, hb1⟩
    have Hnf := Lib.hid (hnf.below RStr.stab hb1)
    have hl := hsh i j t ht
    have Hv := Lib.hid (show valueB s i j v = (kindB t s.units.length && (decide (t.lo ≤ v) && decide (v ≤ t.hi))) by simp [valueB, ht])
    clear hnf ht
    replace x0 := cell_kept hb1 x0 hl_x
    replace x1 := cell_kept hb1 x1 hl_x
    replace x2 := cell_kept hb1 x2 hl_x
    replace x3 := cell_kept hb1 x3 hl_x
    replace x4 := cell_kept hb1 x4 hl_x
    replace x5 := cell_kept hb1 x5 hl_x
    replace Hb := Lib.hid (Hb.out.trans (hb1.mono hwl))
    replace hl_x := Nat.lt_of_lt_of_le hl_x hb1.size
    replace hwl := Nat.le_trans hwl hb1.size
    clear hb1
    go_wp2_with fail
    generalize hw0 : World.alloc _ _ = w3
    obtain ⟨X0, hsz, hb1⟩ := blk1 hw0
    have v0 : w3.cell? ⟨w2.heap.size, 0, none⟩ = some (.int .i64 t.kind) := X0.cell 0
    have v1 : w3.cell? ⟨w2.heap.size, 1, none⟩ = some (.int .i64 t.lo) := X0.cell 1
    have v2 : w3.cell? ⟨w2.heap.size, 2, none⟩ = some (.int .i64 t.hi) := X0.cell 2
    have v3 : w3.cell? ⟨w2.heap.size, 3, none⟩ = some (.string t.of_) := X0.cell 3
    have v4 : w3.cell? ⟨w2.heap.size, 4, none⟩ = some (.int .i64 t.unit) := X0.cell 4
    have v5 : w3.cell? ⟨w2.heap.size, 5, none⟩ = some (.slice an t.names.length kn) := X0.cell 5
    have hl_v : w2.heap.size < w3.heap.size := by omega
    replace x0 := cell_kept hb1 x0 hl_x
    replace x1 := cell_kept hb1 x1 hl_x
    replace x2 := cell_kept hb1 x2 hl_x
    replace x3 := cell_kept hb1 x3 hl_x
    replace x4 := cell_kept hb1 x4 hl_x
    replace x5 := cell_kept hb1 x5 hl_x
    replace Hb := Lib.hid (Hb.out.trans (hb1.mono hwl))
    replace hl_x := Nat.lt_of_lt_of_le hl_x hb1.size
    replace hwl := Nat.le_trans hwl hb1.size
    replace Hnf := Lib.hid (Hnf.out.below RStr.stab hb1)
    clear hb1
    clear hw0 hsz X0
    refine (rtype_any s ⟨a0, k0, a1, k1, a2, k2, a3, k3, a4, k4, a5, k5⟩ t an kn _ Hnf.out hl).mono ?_
    rintro e w4 ⟨rfl, hb1⟩
    replace x0 := cell_kept hb1 x0 hl_x
    replace x1 := cell_kept hb1 x1 hl_x
    replace x2 := cell_kept hb1 x2 hl_x
    replace x3 := cell_kept hb1 x3 hl_x
    replace x4 := cell_kept hb1 x4 hl_x
    replace x5 := cell_kept hb1 x5 hl_x
    replace v0 := cell_kept hb1 v0 hl_v
    replace v1 := cell_kept hb1 v1 hl_v
    replace v2 := cell_kept hb1 v2 hl_v
    replace v3 := cell_kept hb1 v3 hl_v
    replace v4 := cell_kept hb1 v4 hl_v
    replace v5 := cell_kept hb1 v5 hl_v
    replace Hb := Lib.hid (Hb.out.trans (hb1.mono hwl))
    replace hl_x := Nat.lt_of_lt_of_le hl_x hb1.size
    replace hl_v := Nat.lt_of_lt_of_le hl_v hb1.size
    replace hwl := Nat.le_trans hwl hb1.size
    clear hb1
    cases hk : kindB t s.units.length with
    | false =>
      go_wp2
      go_ret
      exact ⟨ret_bool (by rw [Hv.out, hk]; rfl), Hb.out⟩
    | true =>
      have Hk := Lib.hid hk
      clear hk
      by_cases hlo : t.lo ≤ v
      · go_wp2
        all_goals go_ret
        all_goals exact ⟨ret_bool (by rw [Hv.out, Hk.out]; simp [*]; try omega), Hb.out⟩
      · go_wp2
        all_goals go_ret
        all_goals exact ⟨ret_bool (by rw [Hv.out, Hk.out]; simp [*]; try omega), Hb.out⟩
theorem rcompare_any (op a b : Int) (w : World) :
    Calls Try.prog 20 #[.int .i64 op, .int .i64 a, .int .i64 b] w fun e w' => e = .returned (.bool (compareB op a b)) ∧ Below w.heap.size w w' := by
  go_enter Try.func20, Try.ntmps20
  go_wp2
  all_goals go_ret
  all_goals exact ⟨ret_bool (by simp_all [compareB]; try grind), Below.refl _ _⟩
theorem rcmp_q (s : SourceD) (p : SrcAt) (a b : TyD) (aa ab : Option Addr) (ka kb : Nat) (w : World) (hs : Src w s p) (ha : Sl 1 RStr w aa a.names) (hb : Sl 1 RStr w ab b.names) (hl : a.names.length ≤ 100000)
    (ua : unitIn s.units a) (ub : unitIn s.units b) (r : Bool) (hr : rcmpB s.units a b = r) :
    Calls Try.prog 44 #[s.val p, a.val aa ka, b.val ab kb] w fun e w' => e = .returned (.bool r) ∧ Below w.heap.size w w' := by
  subst hr
  exact rcmp_any s p a b aa ab ka kb w hs ha hb hl ua ub
set_option maxRecDepth 20000 in
set_option maxHeartbeats 4000000 in
theorem ralike_any (s : SourceD) (p : SrcAt) (ra rb : RefD) (w : World) (hs : Src w s p) (hsh : Short s) :
    Calls Try.prog 18 #[s.val p, ra.val, rb.val] w fun e w' => e = .returned (.bool (alikeB s ra rb)) ∧ Below w.heap.size w w' := by
  obtain ⟨a0, k0, a1, k1, a2, k2, a3, k3, a4, k4, a5, k5⟩ := p
  have Hs := Lib.hid hs
  clear hs
  cases hu : usable? s ra with
  | none =>
    have Hua := Lib.hid (show (usable? s ra).isSome = false by rw [hu]; rfl)
    have Hr := Lib.hid (show alikeB s ra rb = false by simp only [alikeB, hu])
    clear hu
    go_enter Try.func18, Try.ntmps18
    go_wp2_with fail
    generalize hw0 : World.alloc _ _ = w0
    obtain ⟨X0, X1, X2, hsz, hb0⟩ := blk3 hw0
    have x0 : w0.cell? ⟨w.heap.size, 0, none⟩ = some (.slice a0 s.issuers.length k0) := X0.cell 0
    have x1 : w0.cell? ⟨w.heap.size, 1, none⟩ = some (.slice a1 s.units.length k1) := X0.cell 1
    have x2 : w0.cell? ⟨w.heap.size, 2, none⟩ = some (.slice a2 s.schemas.length k2) := X0.cell 2
    have x3 : w0.cell? ⟨w.heap.size, 3, none⟩ = some (.slice a3 s.rules.length k3) := X0.cell 3
    have x4 : w0.cell? ⟨w.heap.size, 4, none⟩ = some (.slice a4 s.converts k4) := X0.cell 4
    have x5 : w0.cell? ⟨w.heap.size, 5, none⟩ = some (.slice a5 s.purposes.length k5) := X0.cell 5
    have hl_x : w.heap.size < w0.heap.size := by omega
    have p0 : w0.cell? ⟨w.heap.size + 1, 0, none⟩ = some (.string ra.name) := X1.cell 0
    have p1 : w0.cell? ⟨w.heap.size + 1, 1, none⟩ = some (.string ra.path) := X1.cell 1
    have p2 : w0.cell? ⟨w.heap.size + 1, 2, none⟩ = some (.int .i64 ra.schema) := X1.cell 2
    have p3 : w0.cell? ⟨w.heap.size + 1, 3, none⟩ = some (.int .i64 ra.field) := X1.cell 3
    have hl_p : w.heap.size + 1 < w0.heap.size := by omega
    have q0 : w0.cell? ⟨w.heap.size + 1 + 1, 0, none⟩ = some (.string rb.name) := X2.cell 0
    have q1 : w0.cell? ⟨w.heap.size + 1 + 1, 1, none⟩ = some (.string rb.path) := X2.cell 1
    have q2 : w0.cell? ⟨w.heap.size + 1 + 1, 2, none⟩ = some (.int .i64 rb.schema) := X2.cell 2
    have q3 : w0.cell? ⟨w.heap.size + 1 + 1, 3, none⟩ = some (.int .i64 rb.field) := X2.cell 3
    have hl_q : w.heap.size + 1 + 1 < w0.heap.size := by omega
    have hwl : w.heap.size ≤ w0.heap.size := hb0.size
    have Hb := Lib.hid hb0
    clear hw0 hb0 hsz X0 X1 X2
    refine wp_region_grown (by kernel_rfl) (by kernel_rfl) ?_
    repeat (go_big_quiet_step (first | (go_at_call_of 38 (ra.schema); exact calls_grown (sound_eq s ⟨a0, k0, a1, k1, a2, k2, a3, k3, a4, k4, a5, k5⟩ ra _ (Hs.out.below (Hb.out.trans ((grown_below _ _).mono hwl))) hsh false Hua.out))))
    refine wpQuiet_nil ?_
    intro w1 hw0
    have hb1 : Below w0.heap.size w0 w1 := by obtain ⟨n, rfl⟩ := hw0; exact grown_below _ n
    clear hw0
    replace x0 := cell_kept hb1 x0 hl_x
    replace x1 := cell_kept hb1 x1 hl_x
    replace x2 := cell_kept hb1 x2 hl_x
    replace x3 := cell_kept hb1 x3 hl_x
    replace x4 := cell_kept hb1 x4 hl_x
    replace x5 := cell_kept hb1 x5 hl_x
    replace p0 := cell_kept hb1 p0 hl_p
    replace p1 := cell_kept hb1 p1 hl_p
    replace p2 := cell_kept hb1 p2 hl_p
    replace p3 := cell_kept hb1 p3 hl_p
    replace q0 := cell_kept hb1 q0 hl_q
    replace q1 := cell_kept hb1 q1 hl_q
    replace q2 := cell_kept hb1 q2 hl_q
    replace q3 := cell_kept hb1 q3 hl_q
    replace Hb := Lib.hid (Hb.out.trans (hb1.mono hwl))
    replace hl_x := Nat.lt_of_lt_of_le hl_x hb1.size
    replace hl_p := Nat.lt_of_lt_of_le hl_p hb1.size
    replace hl_q := Nat.lt_of_lt_of_le hl_q hb1.size
    replace hwl := Nat.le_trans hwl hb1.size
    clear hb1
    go_wp2
    go_ret
    exact ⟨ret_bool Hr.out.symm, Hb.out⟩
  | some t =>
    have Hua := Lib.hid (show (usable? s ra).isSome = true by rw [hu]; rfl)
    cases hu2 : usable? s rb with
    | none =>
      have Hub := Lib.hid (show (usable? s rb).isSome = false by rw [hu2]; rfl)
      have Hr := Lib.hid (show alikeB s ra rb = false by simp only [alikeB, hu, hu2])
      clear hu hu2
      go_enter Try.func18, Try.ntmps18
      go_wp2_with fail
      generalize hw0 : World.alloc _ _ = w0
      obtain ⟨X0, X1, X2, hsz, hb0⟩ := blk3 hw0
      have x0 : w0.cell? ⟨w.heap.size, 0, none⟩ = some (.slice a0 s.issuers.length k0) := X0.cell 0
      have x1 : w0.cell? ⟨w.heap.size, 1, none⟩ = some (.slice a1 s.units.length k1) := X0.cell 1
      have x2 : w0.cell? ⟨w.heap.size, 2, none⟩ = some (.slice a2 s.schemas.length k2) := X0.cell 2
      have x3 : w0.cell? ⟨w.heap.size, 3, none⟩ = some (.slice a3 s.rules.length k3) := X0.cell 3
      have x4 : w0.cell? ⟨w.heap.size, 4, none⟩ = some (.slice a4 s.converts k4) := X0.cell 4
      have x5 : w0.cell? ⟨w.heap.size, 5, none⟩ = some (.slice a5 s.purposes.length k5) := X0.cell 5
      have hl_x : w.heap.size < w0.heap.size := by omega
      have p0 : w0.cell? ⟨w.heap.size + 1, 0, none⟩ = some (.string ra.name) := X1.cell 0
      have p1 : w0.cell? ⟨w.heap.size + 1, 1, none⟩ = some (.string ra.path) := X1.cell 1
      have p2 : w0.cell? ⟨w.heap.size + 1, 2, none⟩ = some (.int .i64 ra.schema) := X1.cell 2
      have p3 : w0.cell? ⟨w.heap.size + 1, 3, none⟩ = some (.int .i64 ra.field) := X1.cell 3
      have hl_p : w.heap.size + 1 < w0.heap.size := by omega
      have q0 : w0.cell? ⟨w.heap.size + 1 + 1, 0, none⟩ = some (.string rb.name) := X2.cell 0
      have q1 : w0.cell? ⟨w.heap.size + 1 + 1, 1, none⟩ = some (.string rb.path) := X2.cell 1
      have q2 : w0.cell? ⟨w.heap.size + 1 + 1, 2, none⟩ = some (.int .i64 rb.schema) := X2.cell 2
      have q3 : w0.cell? ⟨w.heap.size + 1 + 1, 3, none⟩ = some (.int .i64 rb.field) := X2.cell 3
      have hl_q : w.heap.size + 1 + 1 < w0.heap.size := by omega
      have hwl : w.heap.size ≤ w0.heap.size := hb0.size
      have Hb := Lib.hid hb0
      clear hw0 hb0 hsz X0 X1 X2
      refine wp_region_grown (by kernel_rfl) (by kernel_rfl) ?_
      repeat (go_big_quiet_step (first | (go_at_call_of 38 (ra.schema); exact calls_grown (sound_eq s ⟨a0, k0, a1, k1, a2, k2, a3, k3, a4, k4, a5, k5⟩ ra _ (Hs.out.below (Hb.out.trans ((grown_below _ _).mono hwl))) hsh true Hua.out)) | (go_at_call_of 38 (rb.schema); exact calls_grown (sound_eq s ⟨a0, k0, a1, k1, a2, k2, a3, k3, a4, k4, a5, k5⟩ rb _ (Hs.out.below (Hb.out.trans ((grown_below _ _).mono hwl))) hsh false Hub.out))))
      refine wpQuiet_nil ?_
      intro w1 hw0
      have hb1 : Below w0.heap.size w0 w1 := by obtain ⟨n, rfl⟩ := hw0; exact grown_below _ n
      clear hw0
      replace x0 := cell_kept hb1 x0 hl_x
      replace x1 := cell_kept hb1 x1 hl_x
      replace x2 := cell_kept hb1 x2 hl_x
      replace x3 := cell_kept hb1 x3 hl_x
      replace x4 := cell_kept hb1 x4 hl_x
      replace x5 := cell_kept hb1 x5 hl_x
      replace p0 := cell_kept hb1 p0 hl_p
      replace p1 := cell_kept hb1 p1 hl_p
      replace p2 := cell_kept hb1 p2 hl_p
      replace p3 := cell_kept hb1 p3 hl_p
      replace q0 := cell_kept hb1 q0 hl_q
      replace q1 := cell_kept hb1 q1 hl_q
      replace q2 := cell_kept hb1 q2 hl_q
      replace q3 := cell_kept hb1 q3 hl_q
      replace Hb := Lib.hid (Hb.out.trans (hb1.mono hwl))
      replace hl_x := Nat.lt_of_lt_of_le hl_x hb1.size
      replace hl_p := Nat.lt_of_lt_of_le hl_p hb1.size
      replace hl_q := Nat.lt_of_lt_of_le hl_q hb1.size
      replace hwl := Nat.le_trans hwl hb1.size
      clear hb1
      go_wp2
      go_ret
      exact ⟨ret_bool Hr.out.symm, Hb.out⟩
    | some u =>
      have Hub := Lib.hid (show (usable? s rb).isSome = true by rw [hu2]; rfl)
      obtain ⟨hty, hgt⟩ := usable_facts hu
      obtain ⟨hty2, hgu⟩ := usable_facts hu2
      obtain ⟨c, hc⟩ : ∃ c, rcmpB s.units t u = c := ⟨_, rfl⟩
      have hk1 : kindB t s.units.length = true := by unfold goodT at hgt; simp only [Bool.and_eq_true] at hgt; exact hgt.1
      have hk2 : kindB u s.units.length = true := by unfold goodT at hgu; simp only [Bool.and_eq_true] at hgu; exact hgu.1
      have Hr := Lib.hid (show alikeB s ra rb = c by simp only [alikeB, hu, hu2]; rw [cmp_lawF hk1 hk2, hc])
      have Hc := Lib.hid hc
      have hlt := hsh _ _ _ hty
      obtain ⟨an, kn, hnt, hca⟩ := rtypeOf_fix s ⟨a0, k0, a1, k1, a2, k2, a3, k3, a4, k4, a5, k5⟩ ra.schema ra.field t hty w Hs.out
      obtain ⟨am, km, hnu, hcb⟩ := rtypeOf_fix s ⟨a0, k0, a1, k1, a2, k2, a3, k3, a4, k4, a5, k5⟩ rb.schema rb.field u hty2 w Hs.out
      have Hca := Lib.hid hca
      have Hcb := Lib.hid hcb
      have Hnt := Lib.hid hnt
      have Hnu := Lib.hid hnu
      have Hgt := Lib.hid (goodT_in hgt)
      have Hgu := Lib.hid (goodT_in hgu)
      clear hu hu2 hty hty2 hgt hgu hk1 hk2 hca hcb hnt hnu hc
      go_enter Try.func18, Try.ntmps18
      go_wp2_with fail
      generalize hw0 : World.alloc _ _ = w0
      obtain ⟨X0, X1, X2, hsz, hb0⟩ := blk3 hw0
      have x0 : w0.cell? ⟨w.heap.size, 0, none⟩ = some (.slice a0 s.issuers.length k0) := X0.cell 0
      have x1 : w0.cell? ⟨w.heap.size, 1, none⟩ = some (.slice a1 s.units.length k1) := X0.cell 1
      have x2 : w0.cell? ⟨w.heap.size, 2, none⟩ = some (.slice a2 s.schemas.length k2) := X0.cell 2
      have x3 : w0.cell? ⟨w.heap.size, 3, none⟩ = some (.slice a3 s.rules.length k3) := X0.cell 3
      have x4 : w0.cell? ⟨w.heap.size, 4, none⟩ = some (.slice a4 s.converts k4) := X0.cell 4
      have x5 : w0.cell? ⟨w.heap.size, 5, none⟩ = some (.slice a5 s.purposes.length k5) := X0.cell 5
      have hl_x : w.heap.size < w0.heap.size := by omega
      have p0 : w0.cell? ⟨w.heap.size + 1, 0, none⟩ = some (.string ra.name) := X1.cell 0
      have p1 : w0.cell? ⟨w.heap.size + 1, 1, none⟩ = some (.string ra.path) := X1.cell 1
      have p2 : w0.cell? ⟨w.heap.size + 1, 2, none⟩ = some (.int .i64 ra.schema) := X1.cell 2
      have p3 : w0.cell? ⟨w.heap.size + 1, 3, none⟩ = some (.int .i64 ra.field) := X1.cell 3
      have hl_p : w.heap.size + 1 < w0.heap.size := by omega
      have q0 : w0.cell? ⟨w.heap.size + 1 + 1, 0, none⟩ = some (.string rb.name) := X2.cell 0
      have q1 : w0.cell? ⟨w.heap.size + 1 + 1, 1, none⟩ = some (.string rb.path) := X2.cell 1
      have q2 : w0.cell? ⟨w.heap.size + 1 + 1, 2, none⟩ = some (.int .i64 rb.schema) := X2.cell 2
      have q3 : w0.cell? ⟨w.heap.size + 1 + 1, 3, none⟩ = some (.int .i64 rb.field) := X2.cell 3
      have hl_q : w.heap.size + 1 + 1 < w0.heap.size := by omega
      have hwl : w.heap.size ≤ w0.heap.size := hb0.size
      have Hb := Lib.hid hb0
      clear hw0 hb0 hsz X0 X1 X2
      refine wp_region_grown (by kernel_rfl) (by kernel_rfl) ?_
      repeat (go_big_quiet_step (first | (go_at_call_of 38 (ra.schema); exact calls_grown (sound_eq s ⟨a0, k0, a1, k1, a2, k2, a3, k3, a4, k4, a5, k5⟩ ra _ (Hs.out.below (Hb.out.trans ((grown_below _ _).mono hwl))) hsh true Hua.out)) | (go_at_call_of 38 (rb.schema); exact calls_grown (sound_eq s ⟨a0, k0, a1, k1, a2, k2, a3, k3, a4, k4, a5, k5⟩ rb _ (Hs.out.below (Hb.out.trans ((grown_below _ _).mono hwl))) hsh true Hub.out)) | (go_at_call_of 39 (ra.schema); exact calls_grown (Hca.out _ (Hb.out.trans ((grown_below _ _).mono hwl)))) | (go_at_call_of 39 (rb.schema); exact calls_grown (Hcb.out _ (Hb.out.trans ((grown_below _ _).mono hwl)))) | (go_at_call 44; exact calls_grown (rcmp_q s ⟨a0, k0, a1, k1, a2, k2, a3, k3, a4, k4, a5, k5⟩ t u an am kn km _ (Hs.out.below (Hb.out.trans ((grown_below _ _).mono hwl))) (Hnt.out.below RStr.stab (Hb.out.trans ((grown_below _ _).mono hwl))) (Hnu.out.below RStr.stab (Hb.out.trans ((grown_below _ _).mono hwl))) hlt Hgt.out Hgu.out _ Hc.out))))
      refine wpQuiet_nil ?_
      intro w1 hw0
      have hb1 : Below w0.heap.size w0 w1 := by obtain ⟨n, rfl⟩ := hw0; exact grown_below _ n
      clear hw0
      replace x0 := cell_kept hb1 x0 hl_x
      replace x1 := cell_kept hb1 x1 hl_x
      replace x2 := cell_kept hb1 x2 hl_x
      replace x3 := cell_kept hb1 x3 hl_x
      replace x4 := cell_kept hb1 x4 hl_x
      replace x5 := cell_kept hb1 x5 hl_x
      replace p0 := cell_kept hb1 p0 hl_p
      replace p1 := cell_kept hb1 p1 hl_p
      replace p2 := cell_kept hb1 p2 hl_p
      replace p3 := cell_kept hb1 p3 hl_p
      replace q0 := cell_kept hb1 q0 hl_q
      replace q1 := cell_kept hb1 q1 hl_q
      replace q2 := cell_kept hb1 q2 hl_q
      replace q3 := cell_kept hb1 q3 hl_q
      replace Hb := Lib.hid (Hb.out.trans (hb1.mono hwl))
      replace hl_x := Nat.lt_of_lt_of_le hl_x hb1.size
      replace hl_p := Nat.lt_of_lt_of_le hl_p hb1.size
      replace hl_q := Nat.lt_of_lt_of_le hl_q hb1.size
      replace hwl := Nat.le_trans hwl hb1.size
      clear hb1
      go_wp2
      go_ret
      exact ⟨ret_bool Hr.out.symm, Hb.out⟩
end Go.Proofs.Ytogenjbabgibbaa
