import Derived.Test.YtaopkjgldokahaaDoorPart6
import Derived.Test.YtaopkjgldokahaaDoorTie
import Derived.Test.YtaopkjgldokahaaDoorCards
set_option linter.all false
set_option linter.unusedSimpArgs false
set_option linter.unusedVariables false
set_option linter.unnecessarySimpa false
namespace Go.Proofs.YtaopkjgldokahaaDoor
open Go.ChangeShapes Go.WideShapes Go.ChangeAt Go.RowKit
namespace accountAnew
set_option maxRecDepth 100000 in
set_option maxHeartbeats 4000000 in
theorem main_pure (ni : Bool) (I : List IssuedD) (hi1 : ni = true → I = []) (hi2 : ∀ x ∈ I, x.fine) (hi3 : I.length ≤ maxLen) (nc : Bool) (C : List CoalD) (hc1 : nc = true → C = []) (hc2 : ∀ x ∈ C, x.fine) (hc3 : C.length ≤ maxLen) (ns : Bool) (S : List SightD) (hs1 : ns = true → S = []) (hs2 : ∀ x ∈ S, x.fine) (hs3 : S.length ≤ maxLen) :
    Pure Tryd.prog 3 [.slm 3 (some (.var ni)) IssuedD.c I, .slm 1 (some (.var nc)) CoalD.c C, .slm 37 (some (.var ns)) SightD.c S] (boolD true) := by
  rw [maxLen_eq] at hi3 hc3 hs3
  have hN := sane_pure
  have hF := few_pure ni nc (some (.var ns)) I C S hi3 hs3
  have hK := fun h : fewL I C S = true => kept_pure ni I nc C (some (.var ns)) S hi1 hc1 (fewL_big h).1 (by have := (fewL_big h).2.2.1; omega) (fun x hx => by have := (fewL_big h).2.2.2.1 x hx; omega) (fewL_big h).2.2.2.2.1 (by have := (fewL_big h).2.2.2.2.2; omega)
  have hT := fun (h : fewL I C S = true) (he : newE I C = 0) => kept_of h he
  have hA := fun (he : newE I C = 0) => (kept_form (ni := ni) (nc := nc) (S := S) he).1
  obtain ⟨T', hT'⟩ : ∃ T, T = keepT I [] S := ⟨_, rfl⟩
  rw [← hT'] at hT hA
  obtain ⟨fw, hfw⟩ : ∃ b, b = fewL I C S := ⟨_, rfl⟩
  rw [← hfw] at hF hK hT
  obtain ⟨b, hb⟩ : ∃ b, b = decide (newE I C = 0) := ⟨_, rfl⟩
  have hbe : b = true → newE I C = 0 := fun h => by rw [h] at hb; simpa using hb.symm
  rw [← hb] at hK
  obtain ⟨x, hx⟩ : ∃ x, x = keptA ni I nc C S := ⟨_, rfl⟩
  rw [← hx] at hK hA
  replace hT := fun (h1 : fw = true) (h2 : b = true) => hT h1 (hbe h2)
  replace hA := fun (h2 : b = true) => hA (hbe h2)
  have hCk := fun (h1 : fw = true) (h2 : b = true) => Check31_pure x (by rw [hA h2]; exact (acct_fit (hT h1 h2).bi (by have := (hT h1 h2).il; omega) (by have := (hT h1 h2).cl; omega) (fun y hy => by have := (hT h1 h2).cx y hy; omega) (hT h1 h2).bt (by have := (hT h1 h2).tl; omega)).big) (by rw [hA h2]; show T'.length ≤ 1000; have := (hT h1 h2).tl; omega)
  replace hCk := fun (h1 : fw = true) (h2 : b = true) => by have h3 := hCk h1 h2; rw [hA h2, if_pos (check_acct (hT h1 h2).ok), ← hA h2] at h3; exact h3
  have hV := fun (h1 : fw = true) (h2 : b = true) (c : CoalD) (hc : c ∈ C) (nb nb' : Option BE) => View_pure c.l T' nb nb' (by have := (hT h1 h2).cx c hc; omega) (by have := (hT h1 h2).tl; omega)
  have hO := fun (h1 : fw = true) (h2 : b = true) (c : CoalD) (g : Nat) => Of_pure I (viewL c.l T') (g : Int) (some (.var ni)) none (hT h1 h2).bi (view_big (hT h1 h2).bt (by have := (hT h1 h2).tl; omega))
  have hOk := fun (h1 : fw = true) (h2 : b = true) (c : CoalD) (g : Nat) (hg : g < manyL c.l T') => view_okOf (c := c.l) (hT h1 h2).ok.2.1 hg
  have hml := fun (h1 : fw = true) (h2 : b = true) (c : CoalD) => by have h3 := many_le c.l T'; have h4 := (hT h1 h2).tl; exact (show manyL c.l T' ≤ 16 by omega)
  have hil := fun (h1 : fw = true) (h2 : b = true) => (hT h1 h2).il
  have hcl := fun (h1 : fw = true) (h2 : b = true) => (hT h1 h2).cl
  have hx2 := fun (h2 : b = true) => congrArg AccountD.issued (hA h2)
  have hx6 := fun (h2 : b = true) => congrArg AccountD.sights (hA h2)
  have hx8 := fun (h2 : b = true) => congrArg AccountD.sets (hA h2)
  simp only [acctT] at hx2 hx6 hx8
  have hS := fun (h1 : fw = true) (h2 : b = true) (V : List SeenD) (g : Nat) (m : List Int) (na nb : Option BE) => same_pure (ofA I V (g : Int)) m na nb (ofA_len (by have := hil h1 h2; omega) V g)
  obtain ⟨mn, hmn⟩ : ∃ f : List Int → Nat, f = fun c => manyL c T' := ⟨_, rfl⟩
  obtain ⟨vw, hvw⟩ : ∃ f : List Int → List SeenD, f = fun c => viewL c T' := ⟨_, rfl⟩
  obtain ⟨po, hpo⟩ : ∃ f : List Int → Nat → List Int, f = fun (c : List Int) (g : Nat) => ofA I (viewL c T') (g : Int) := ⟨_, rfl⟩
  obtain ⟨pe, hpe⟩ : ∃ f : List Int → Nat → Bool, f = fun (c : List Int) (g : Nat) => decide ((ofA I (viewL c T') (g : Int)).length = 0) := ⟨_, rfl⟩
  obtain ⟨Z, hZ⟩ : ∃ Z, Z = setsL I T' C := ⟨_, rfl⟩
  have hZl : Z.length = C.length := by rw [hZ, setsL_len]
  have hZg : ∀ (i : Nat) c z, C[i]? = some c → Z[i]? = some z → z.l.length = mn c.l ∧ ∀ (g : Nat) y, z.l[g]? = some y → y.group = (g : Int) ∧ y.persons = po c.l g := fun i c z h1 h2 => by
    rw [hZ] at h2
    rw [setsL_get h1 h2, groupsL_len, hmn, hpo]
    exact ⟨rfl, fun g y h => groupsL_get h⟩
  rw [← hZ] at hx8
  have hV' : fw = true → b = true → ∀ c ∈ C, ∀ nb nb', Pure Tryd.prog 12 [.slm 1 nb intC c.l, .slm 37 nb' SightD.c T'] (.tup [.slm 4 none SeenD.c (vw c.l), .int .i64 (.nat (mn c.l))]) := fun h1 h2 c hc nb nb' => by rw [hvw, hmn]; exact hV h1 h2 c hc nb nb'
  have hO' : fw = true → b = true → ∀ (c : CoalD) (g : Nat), g < mn c.l → Pure Tryd.prog 13 [.slm 3 (some (.var ni)) IssuedD.c I, .slm 4 none SeenD.c (vw c.l), .int .i64 (.nat g)] (.tup [.slm 1 (some (.var (pe c.l g))) intC (po c.l g), i64 0]) := fun h1 h2 c g hg => by
    have h3 := hO h1 h2 c g
    rw [hmn] at hg
    rw [hOk h1 h2 c g hg, if_pos rfl] at h3
    rw [hvw, hpe, hpo]
    exact Pure.args (.cons (.refl _) (.cons (.refl _) (.cons (.int (e' := .var (g : Int)) rfl) .nil))) h3
  have hS' : fw = true → b = true → ∀ (c : List Int) (g : Nat) (m : List Int) (na nb : Option BE), Pure Tryd.prog 14 [.slm 1 na intC (po c g), .slm 1 nb intC m] (boolD (decide (po c g = m))) := fun h1 h2 c g m na nb => by rw [hpo]; exact hS h1 h2 _ g m na nb
  have hml' : fw = true → b = true → ∀ c : CoalD, mn c.l ≤ 16 := fun h1 h2 c => by rw [hmn]; exact hml h1 h2 c
  clear hfw hb hbe hx hT hA hV hO hOk hml hmn hvw hpo hpe hZ hS hi1 hi2 hi3 hc1 hc2 hc3 hs1 hs2 hs3 hT'
  obtain ⟨x1, x2, x3, x4, x5, x6, x7, x8⟩ := x
  simp only at hx2 hx6 hx8
  obtain ⟨n, hn⟩ : ∃ n : Nat, n = C.length := ⟨_, rfl⟩
  refine Pure.intro (want := [boolD true]) T_ok follows Tryd.func3 rfl (by kernel_rfl) (rs := [.tmp 6]) rfl (by kernel_rfl) ?_
  generalize hP : Tryd.prog = P at *
  have hT : T.ok P := hP ▸ T_ok
  have hm : P.follows .mixedOrders = true := hP ▸ follows
  unfold Tryd.f3
  dsimp only
  cbv
  first
    | refine CallP.pure _ (hN) rfl ?_
    | refine PureP.mk _ (hN) rfl ?_
  cbv
  refine SplitP.mk (fun hs => ?_) (fun hs => ?_)
  · cases (show (!true) = true from hs)
  clear hs
  first
    | refine CallP.pure _ (hF) rfl ?_
    | refine PureP.mk _ (hF) rfl ?_
  cbv
  refine SplitP.mk (fun hs => ?_) (fun hs => ?_)
  · exact .mk (.cons (.eq (.bool rfl)) .nil) rfl
  have h10 : fw = true := by simpa using (show (!fw) = false from hs)
  clear hs
  first
    | refine CallP.pure _ ((hK h10)) rfl ?_
    | refine PureP.mk _ ((hK h10)) rfl ?_
  cbv
  refine SplitP.mk (fun hs => ?_) (fun hs => ?_)
  · exact .mk (.cons (.eq (.bool rfl)) .nil) rfl
  have h11 : b = true := by simpa using (show (!b) = false from hs)
  clear hs hN hF hK
  obtain rfl := hx2 h11
  obtain rfl := hx6 h11
  obtain rfl := hx8 h11
  replace hCk := hCk h10 h11
  replace hV' := hV' h10 h11
  replace hO' := hO' h10 h11
  replace hS' := hS' h10 h11
  replace hml' := hml' h10 h11
  replace hil := hil h10 h11
  replace hcl := hcl h10 h11
  clear hx2 hx6 hx8
  first
    | refine CallP.pure _ (hCk) rfl ?_
    | refine PureP.mk _ (hCk) rfl ?_
  cbv
  refine SplitP.mk (fun hs => ?_) (fun hs => ?_)
  · cases (show ((0 : Int) != 0) = true from hs)
  clear hs
  refine SplitP.mk (fun hs => ?_) (fun hs => ?_)
  · exfalso
    have h3 : ((x8.length : Int) != (C.length : Int)) = true := hs
    rw [hZl] at h3
    simp at h3
  clear hs
  refine SplitP.mk (fun hs => ?_) (fun hs => ?_)
  · exfalso
    have h3 : ((x2.length : Int) != (x2.length : Int)) = true := hs
    simp at h3
  clear hs
  refine CodeP.loopc hT hm (X := Nat) (fun k => [(9, .int .i64 (.nat k))]) (fun k => k ≤ n) (fun k => n - k) 0 (Nat.zero_le _) (Nat.zero_le _) ?_ rfl ?_
  · (cbv; (repeat' (first | exact SnD.refl _ | exact trivial | exact SnD.nat0 | refine And.intro ?_ ?_)))
  intro k hk
  replace hk : k ≤ n := hk
  cbv
  refine SplitP.mk (fun hs => ?_) (fun hs => ?_)
  rotate_left
  · exact .mk (.cons (.eq (.bool rfl)) .nil) rfl
  have hkn : k < C.length := by
    have h5 : decide ((k : Int) < (C.length : Int)) = true := hs
    have := of_decide_eq_true h5
    omega
  clear hs
  refine ElemP.mk (by show (0 : Int) ≤ (k : Int) ∧ (k : Int) < (C.length : Int); omega) (fun c hc => ?_)
  replace hc : C[k]? = some c := hc
  have hVc := hV' c (List.mem_of_getElem? hc)
  have hOc := hO' c
  have hmc := hml' c
  have hZc := hZg k c
  obtain ⟨c1, c2⟩ := c
  simp only at hVc hOc hmc hZc
  replace hZc := fun z => hZc z hc
  obtain ⟨m, hm'⟩ : ∃ m, m = mn c2 := ⟨_, rfl⟩
  obtain ⟨vc, hvc⟩ : ∃ m, m = vw c2 := ⟨_, rfl⟩
  obtain ⟨pc, hpc⟩ : ∃ m, m = po c2 := ⟨_, rfl⟩
  obtain ⟨ec, hec⟩ : ∃ m, m = pe c2 := ⟨_, rfl⟩
  have hSc := hS' c2
  rw [← hm'] at hVc hOc hmc hZc
  rw [← hvc] at hVc hOc
  rw [← hpc] at hOc hZc hSc
  rw [← hec] at hOc
  clear hm' hvc hpc hec
  cbv
  first
    | refine CallP.pure _ ((hVc _ _)) rfl ?_
    | refine PureP.mk _ ((hVc _ _)) rfl ?_
  cbv
  refine ElemP.mk (by show (0 : Int) ≤ (k : Int) ∧ (k : Int) < (x8.length : Int); omega) (fun z hz => ?_)
  replace hz : x8[k]? = some z := hz
  obtain ⟨hz1, hz2⟩ := hZc z hz
  obtain ⟨z1, z2⟩ := z
  simp only at hz1 hz2
  cbv
  refine SplitP.mk (fun hs => ?_) (fun hs => ?_)
  · exfalso
    have h3 : ((z2.length : Int) != (m : Int)) = true := hs
    rw [hz1] at h3
    simp at h3
  clear hs
  refine CodeP.loopc hT hm (X := Nat) (fun g => [(12, .int .i64 (.nat g))]) (fun g => g ≤ m) (fun g => m - g) 0 (Nat.zero_le _) (Nat.zero_le _) ?_ rfl ?_
  · (cbv; (repeat' (first | exact SnD.refl _ | exact trivial | exact SnD.nat0 | refine And.intro ?_ ?_)))
  intro g hg
  replace hg : g ≤ m := hg
  cbv
  refine SplitP.mk (fun hs => ?_) (fun hs => ?_)
  rotate_left
  · refine BackP.intro (k + 1) (by show k + 1 ≤ n; omega) (by show n - (k + 1) < n - k; omega) ⟨?_, HEnt.refl _, rfl⟩
    (cbv; (repeat' (first | exact SnD.refl _ | exact trivial | exact SnD.nat0 | refine And.intro ?_ ?_)))
    exact .inc (by omega)
  have hgm : g < m := by
    have h5 : decide ((g : Int) < (m : Int)) = true := hs
    have := of_decide_eq_true h5
    omega
  clear hs
  have hOg := hOc g hgm
  obtain ⟨pg, hpg⟩ : ∃ p, p = pc g := ⟨_, rfl⟩
  have hSg := hSc g
  rw [← hpg] at hOg hSg
  have hz3 := hz2 g
  rw [← hpg] at hz3
  first
    | refine CallP.pure _ (hOg) rfl ?_
    | refine PureP.mk _ (hOg) rfl ?_
  cbv
  refine SplitP.mk (fun hs => ?_) (fun hs => ?_)
  · cases (show ((0 : Int) != 0) = true from hs)
  clear hs
  refine ElemP.mk (by show (0 : Int) ≤ (k : Int) ∧ (k : Int) < (x8.length : Int); omega) (fun zz hzz => ?_)
  replace hzz : x8[k]? = some zz := hzz
  rw [hz] at hzz
  cases hzz
  cbv
  refine ElemP.mk (by show (0 : Int) ≤ (g : Int) ∧ (g : Int) < (z2.length : Int); omega) (fun y hy => ?_)
  replace hy : z2[g]? = some y := hy
  obtain ⟨hy1, hy2⟩ := hz3 y hy
  obtain ⟨y1, y2, y3⟩ := y
  simp only at hy1 hy2
  cbv
  refine SplitP.mk (fun hs => ?_) (fun hs => ?_)
  · exfalso
    have h3 : ((y1 : Int) != (g : Int)) = true := hs
    rw [hy1] at h3
    simp at h3
  clear hs
  refine ElemP.mk (by show (0 : Int) ≤ (k : Int) ∧ (k : Int) < (x8.length : Int); omega) (fun zz hzz => ?_)
  replace hzz : x8[k]? = some zz := hzz
  rw [hz] at hzz
  cases hzz
  cbv
  refine ElemP.mk (by show (0 : Int) ≤ (g : Int) ∧ (g : Int) < (z2.length : Int); omega) (fun zz hzz => ?_)
  replace hzz : z2[g]? = some zz := hzz
  rw [hy] at hzz
  cases hzz
  cbv
  first
    | refine CallP.pure _ ((hSg _ _ _)) rfl ?_
    | refine PureP.mk _ ((hSg _ _ _)) rfl ?_
  cbv
  refine SplitP.mk (fun hs => ?_) (fun hs => ?_)
  · exfalso
    have h3 : (!decide (pg = y3)) = true := hs
    rw [hy2] at h3
    simp at h3
  refine BackP.intro (g + 1) (by show g + 1 ≤ m; omega) (by show m - (g + 1) < m - g; omega) ⟨?_, HEnt.refl _, rfl⟩
  (cbv; (repeat' (first | exact SnD.refl _ | exact trivial | exact SnD.nat0 | refine And.intro ?_ ?_)))
  exact .inc (by omega)
theorem own : ownKnob Tryd.prog.godebug = none := by kernel_rfl
theorem laidOut : laidOutB Tryd.prog = true := by kernel_rfl
set_option maxRecDepth 100000 in
theorem lifted (os : Os) (started : os.Started) (H : Type) (enc : TypeId × Value → H) :
    ReturnsInHanded {} Tryd.checked os 3 .any (fun w args => (Rows.accountAnewSpec.pre enc Tryd.prog Tryd.f3 [] false w args ∧ laidMetH Tryd.prog laidR w) ∧ sizedMet enc Tryd.prog Tryd.f3 (OpenSpec.ofChange Rows.accountAnewSpec) false w args) (Rows.accountAnewSpec.post enc Tryd.prog Tryd.f3 false true false false) := by
  refine returnsInHanded_of_change_and (C := Tryd.checked) (X := fun w _ => laidMetH Tryd.prog laidR w) (fun _ _ _ hh h => h.of_heap hh) own started (by kernel_rfl) Tryd.func3
    (ChangeSpec.witness_shaped (enc := enc) (C := Tryd.checked) (os := os) (X := fun w _ => laidMetH Tryd.prog laidR w) false (World.doorLaid Tryd.prog 400 os) #[.slice none 0 0, .slice none 0 0, .slice none 0 0] 8 rfl (World.shaped_of_RefB (by kernel_rfl) (by kernel_rfl)) (by kernel_rfl) (by kernel_rfl) (by kernel_rfl) (door_met os _)) ?_
  intro W base args ds gs before hval0 hW _ hSz hL _
  have hval : ∀ (j : Nat) t v, Tryd.f3.params[j]? = some t → args[j]? = some v → Value.okWide Tryd.prog W .any base t v := hval0
  have hW' := hW
  obtain ⟨p, q, hA0, hV, rfl, hfz, hnd⟩ := hW
  have hA : DataW.TrodAll enc Tryd.prog W 0 (fun _ => true) true Tryd.f3.params.toList args.toList ds p := hA0
  rw [Tryd.params3] at hA hval
  obtain ⟨v0, vs0, d0, ds0, p0, q0, hargs, rfl, rfl, h0, r0⟩ := trodAll_cons hA
  obtain ⟨v1, vs1, d1, ds1, p1, q1, rfl, rfl, rfl, h1, r1⟩ := trodAll_cons r0
  obtain ⟨v2, vs2, d2, ds2, p2, q2, rfl, rfl, rfl, h2, r2⟩ := trodAll_cons r1
  obtain ⟨rfl, rfl, rfl⟩ := trodAll_nil r2
  obtain rfl : args = #[v0, v1, v2] := by cases args; simp_all
  obtain ⟨rfl, rfl⟩ := trodVars_none hV
  have k0 := h0
  have lt0 : ∀ x ∈ p0, x.block < W.heap.size := by obtain ⟨m, hm⟩ := k0; exact DataW.trod_lt m _ _ _ hm
  obtain ⟨⟨nb0, l0⟩, ⟨ln0, lk0, ll0⟩, rp0⟩ := open_sl (e := 47) (by kernel_rfl) opd_issueds (hval 0 22 v0 rfl rfl) h0
  have k1 := h1
  have lt1 : ∀ x ∈ p1, x.block < W.heap.size := by obtain ⟨m, hm⟩ := k1; exact DataW.trod_lt m _ _ _ hm
  obtain ⟨⟨nb1, l1⟩, ⟨ln1, lk1, ll1⟩, rp1⟩ := open_sl (e := 37) (by kernel_rfl) opd_coals (hval 1 23 v1 rfl rfl) h1
  have k2 := h2
  have lt2 : ∀ x ∈ p2, x.block < W.heap.size := by obtain ⟨m, hm⟩ := k2; exact DataW.trod_lt m _ _ _ hm
  obtain ⟨⟨nb2, l2⟩, ⟨ln2, lk2, ll2⟩, rp2⟩ := open_sl (e := 53) (by kernel_rfl) opd_sights (hval 2 24 v2 rfl rfl) h2
  clear hA0 hval0
  refine (Pure.law (main_pure nb0 l0 ln0 lk0 ll0 nb1 l1 ln1 lk1 ll1 nb2 l2 ln2 lk2 ll2) (of_laid hL) (lrep_cons rp0 (lrep_cons rp1 (lrep_cons rp2 LRep.nil)))).mono fun e W' ⟨he, bel⟩ => ?_
  subst he
  exact ⟨_, rfl, _, _, _, [], _, [], hW', trodAll_mk1 (shut_bool Tryd.underlying4 _), (trodAll_cons_mk (Below.trod laidOut (by kernel_rfl) (of_decide_eq_true (by kernel_rfl)) k0 bel lt0) (trodAll_cons_mk (Below.trod laidOut (by kernel_rfl) (of_decide_eq_true (by kernel_rfl)) k1 bel lt1) (trodAll_cons_mk (Below.trod laidOut (by kernel_rfl) (of_decide_eq_true (by kernel_rfl)) k2 bel lt2) trodAll_mk0))), rfl, bel.frame _, fun h => by cases h⟩

theorem over : Rows.accountAnewRow.holds Tryd.pinned (OpenSpec.ofChange Rows.accountAnewSpec) :=
  OpenClaim.holds_of_wide 3 Tryd.f3 rfl rfl rfl rfl rfl rfl rfl ⟨rfl, rfl, rfl, rfl, rfl⟩ rfl rfl rfl rfl rfl (by kernel_rfl) Tryd.func3 (by kernel_rfl)
    (of_decide_eq_true (by kernel_rfl)) (by unfold Func.isWrapper; first | (rw [if_pos (by decide +kernel)]; kernel_rfl) | (rw [if_neg (by decide +kernel)]; exact ⟨rfl, rfl⟩))
    (fun os started H enc _ => lifted os started H enc)
theorem card : Rows.AccountAnewCardSaid :=
  Claim7.holds_tied_plain_at .later [] [.data] true (true, "b72b32de743d826df5b2873f23d602c53803940e87d116771b5e76fb27b1ffe5") false
    over (fun _ h => by cases h) (by kernel_rfl) (fun _ h => by cases h) accountAnew_row_tie rfl ⟨rfl, rfl⟩ (by kernel_rfl) rfl
    (fun f fn hf hfn => by
      obtain rfl : f = 3 := Option.some.inj ((show Tryd.prog.funcNamed "testamur/testamurlaw31.AccountAnew" = some 3 by kernel_rfl).symm.trans hf) |>.symm
      obtain rfl : fn = Tryd.f3 := (Option.some.inj (Tryd.func3.symm.trans hfn)).symm
      exact ⟨by kernel_rfl, fun j t ht => by
        rw [Tryd.params3] at ht
        have hm : t ∈ [22, 23, 24] := by simpa using Array.mem_of_getElem? ht
        have hall : ([22, 23, 24].all fun u => !Tryd.prog.wantsStandIn u) = true := by kernel_rfl
        exact (show Tryd.prog.wantsStandIn t = false by simpa using List.all_eq_true.1 hall t hm)⟩)
    (by kernel_rfl)
end accountAnew
theorem accountAnew_holds : Rows.AccountAnewCardSaid := accountAnew.card
#print axioms accountAnew_holds

end Go.Proofs.YtaopkjgldokahaaDoor
