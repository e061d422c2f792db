import Derived.Test.YtaopkjgldokahaaDoorPart6
import Derived.Test.YtaopkjgldokahaaDoorTie
import Derived.Test.YtaopkjgldokahaaDoorCards
set_option linter.all false
set_option linter.unusedSimpArgs false
set_option linter.unusedVariables false
set_option linter.unnecessarySimpa false
namespace Go.Proofs.YtaopkjgldokahaaDoor
open Go.ChangeShapes Go.WideShapes Go.ChangeAt Go.RowKit
namespace accountNarrow
set_option maxRecDepth 100000 in
set_option maxHeartbeats 4000000 in
theorem main_pure (ni : Bool) (I : List IssuedD) (hi1 : ni = true → I = []) (hi2 : ∀ x ∈ I, x.fine) (hi3 : I.length ≤ maxLen) (nc : Bool) (C : List CoalD) (hc1 : nc = true → C = []) (hc2 : ∀ x ∈ C, x.fine) (hc3 : C.length ≤ maxLen) (ns : Bool) (S : List SightD) (hs1 : ns = true → S = []) (hs2 : ∀ x ∈ S, x.fine) (hs3 : S.length ≤ maxLen) (s : SightD) (hsf : s.fine) :
    Pure Tryd.prog 5 [.slm 3 (some (.var ni)) IssuedD.c I, .slm 1 (some (.var nc)) CoalD.c C, .slm 37 (some (.var ns)) SightD.c S, .agg s.c] (boolD true) := by
  rw [maxLen_eq] at hi3 hc3 hs3
  have hN := sane_pure
  have hF := few_pure ni nc (some (.var ns)) I C S hi3 hs3
  have hFs := FewSight_pure s
  have hsl : fewS s = true → s.seen.fields.length < 9223372036854775807 ∧ s.seen.values.length < 9223372036854775807 := fun h => by
    unfold fewS fewB at h
    simp at h
    omega
  obtain ⟨fs, hfs⟩ : ∃ b, b = fewS s := ⟨_, rfl⟩
  rw [← hfs] at hFs hsl
  have hK := fun h : fewL I C S = true => kept_pure ni I nc C (some (.var ns)) S hi1 hc1 (fewL_big h).1 (by have := (fewL_big h).2.2.1; omega) (fun x hx => by have := (fewL_big h).2.2.2.1 x hx; omega) (fewL_big h).2.2.2.2.1 (by have := (fewL_big h).2.2.2.2.2; omega)
  have hT := fun (h : fewL I C S = true) (he : newE I C = 0) => kept_of h he
  have hA := fun (he : newE I C = 0) => (kept_form (ni := ni) (nc := nc) (S := S) he).1
  obtain ⟨L, hT'⟩ : ∃ L, L = keepT I [] S := ⟨_, rfl⟩
  rw [← hT'] at hT hA
  obtain ⟨fw, hfw⟩ : ∃ b, b = fewL I C S := ⟨_, rfl⟩
  rw [← hfw] at hF hK hT
  obtain ⟨b, hb⟩ : ∃ b, b = decide (newE I C = 0) := ⟨_, rfl⟩
  have hbe : b = true → newE I C = 0 := fun h => by rw [h] at hb; simpa using hb.symm
  rw [← hb] at hK
  obtain ⟨x, hx⟩ : ∃ x, x = keptA ni I nc C S := ⟨_, rfl⟩
  rw [← hx] at hK hA
  replace hT := fun (h1 : fw = true) (h2 : b = true) => hT h1 (hbe h2)
  replace hA := fun (h2 : b = true) => hA (hbe h2)
  have hfit : fw = true → b = true → x.fit := fun h1 h2 => by
    rw [hA h2]
    exact acct_fit (hT h1 h2).bi (by have := (hT h1 h2).il; omega) (by have := (hT h1 h2).cl; omega) (fun y hy => by have := (hT h1 h2).cx y hy; omega) (hT h1 h2).bt (by have := (hT h1 h2).tl; omega)
  have hAdd := fun (h1 : fw = true) (h2 : b = true) (h3 : fs = true) => Add_pure x s (hfit h1 h2).big (hfit h1 h2).si (hfit h1 h2).nil (hsl h3).1 (hsl h3).2
  have hAf := fun (h1 : fw = true) (h2 : b = true) (h3 : fs = true) => After_pure x s (hfit h1 h2) (hsl h3).1 (hsl h3).2
  have hLa := fun (h1 : fw = true) (h2 : b = true) => Least_pure x (hfit h1 h2).big.sets fun y hy => ((hfit h1 h2).big.gl y hy).1
  have hyf := fun (h1 : fw = true) (h2 : b = true) (h3 : fs = true) => addA_fit (hfit h1 h2) (hsl h3).1 (hsl h3).2
  have hLb := fun (h1 : fw = true) (h2 : b = true) (h3 : fs = true) => Least_pure (addA x s) (hyf h1 h2 h3).big.sets fun y hy => ((hyf h1 h2 h3).big.gl y hy).1
  have hSm := fun (h1 : fw = true) (h2 : b = true) (h3 : fs = true) => Same_pure (addA x s) zeroA (hyf h1 h2 h3).big
  have hadd := fun (h1 : fw = true) (h2 : b = true) => add_acct (ni := ni) (nc := nc) (hT h1 h2).ok s
  replace hadd := fun (h1 : fw = true) (h2 : b = true) => by have h3 := hadd h1 h2; rw [← hA h2] at h3; exact h3
  have hT16 : fw = true → b = true → L.length ≤ 16 := fun h1 h2 => (hT h1 h2).tl
  have hTs : fw = true → b = true → fs = true → BigV (L ++ [s]) := fun h1 h2 h3 => ⟨fun y hy => by
    rcases List.mem_append.1 hy with q | q
    · exact (hT h1 h2).bt.fields y q
    · rw [List.mem_singleton.1 q]; exact (hsl h3).1, fun y hy => by
    rcases List.mem_append.1 hy with q | q
    · exact (hT h1 h2).bt.vals y q
    · rw [List.mem_singleton.1 q]; exact (hsl h3).2⟩
  have hV := fun (h1 : fw = true) (h2 : b = true) (c : CoalD) (hc : c ∈ C) (nb nb' : Option BE) => View_pure c.l L nb nb' (by have := (hT h1 h2).cx c hc; omega) (by have := hT16 h1 h2; omega)
  have hV2 := fun (h1 : fw = true) (h2 : b = true) (c : CoalD) (hc : c ∈ C) (nb nb' : Option BE) => View_pure c.l (L ++ [s]) nb nb' (by have := (hT h1 h2).cx c hc; omega) (by have := hT16 h1 h2; simp; omega)
  have hil := fun (h1 : fw = true) (h2 : b = true) => (hT h1 h2).il
  have hcl := fun (h1 : fw = true) (h2 : b = true) => (hT h1 h2).cl
  have hck := fun (h1 : fw = true) (h2 : b = true) => (hT h1 h2).ok.2.1
  obtain ⟨ea, hea⟩ : ∃ e, e = addE x s := ⟨_, rfl⟩
  obtain ⟨y, hy⟩ : ∃ y, y = addA x s := ⟨_, rfl⟩
  obtain ⟨n, hn⟩ : ∃ n, n = afterN x s := ⟨_, rfl⟩
  have hn0 : ea = 0 → n = leastL y.sets := fun h => by rw [hn, hy]; unfold afterN; rw [← hea, if_pos h]
  unfold afterE at hAf
  rw [← hea] at hAdd hAf hadd
  rw [← hy] at hAdd hLb hSm hadd
  rw [← hn] at hAf
  obtain ⟨lb, hlb⟩ : ∃ l, l = leastL y.sets := ⟨_, rfl⟩
  obtain ⟨la, hla⟩ : ∃ l, l = leastL x.sets := ⟨_, rfl⟩
  rw [← hlb] at hLb hn0
  rw [← hla] at hLa
  have hx6 : b = true → x.sights = L ∧ x.sets = setsL I L C := fun h => by rw [hA h]; exact ⟨rfl, rfl⟩
  have hacc : fw = true → b = true → ea = 0 → checkB I (viewsL (L ++ [s])) = true := fun h1 h2 h3 => by
    have h4 := (hadd h1 h2).1.1 h3
    unfold accB at h4
    simp only [Bool.and_eq_true] at h4
    exact h4.2.2
  have hy6 : fw = true → b = true → ea = 0 → y.sights = L ++ [s] ∧ y.sets = setsL I (L ++ [s]) C := fun h1 h2 h3 => by
    have h4 := (hadd h1 h2).1.1 h3
    rw [(hadd h1 h2).2, if_pos h4]
    exact ⟨rfl, rfl⟩
  have hsm : fw = true → b = true → ea ≠ 0 → sameB y zeroA = true := fun h1 h2 h3 => by
    have h4 : ¬ accB I L s = true := fun h => h3 ((hadd h1 h2).1.2 h)
    have h5 : y = zeroA := by rw [(hadd h1 h2).2, if_neg h4]
    have h6 : sameB zeroA zeroA = true := by kernel_rfl
    exact (congrArg (fun z => sameB z zeroA) h5).trans h6
  have hll : fw = true → b = true → ea = 0 → lb ≤ la := fun h1 h2 h3 => by
    rw [hlb, hla, (hy6 h1 h2 h3).2, (hx6 h2).2]
    exact least_narrow (hck h1 h2) (hacc h1 h2 h3)
  obtain ⟨L2, hT2⟩ : ∃ t, t = L ++ [s] := ⟨_, rfl⟩
  have hSm' : fw = true → b = true → fs = true → ea ≠ 0 → Pure Tryd.prog 20 [.agg y.c, nilsA] (boolD true) := fun h1 h2 h3 h4 => by
    have h5 := hSm h1 h2 h3
    rw [hsm h1 h2 h4] at h5
    exact Pure.argsL (.cons (DLe.refl _) (.cons nilsA_le .nil)) h5
  have hW := fun (h1 : fw = true) (h2 : b = true) (h3 : ea = 0) (c : List Int) (k : Nat) (hk : k < (sightsL31 c L).length) => narrow_within (s := s) (c := c) (k := k) (hck h1 h2) (hacc h1 h2 h3) hk
  rw [← hT2] at hV2 hy6 hW
  have hU : ∀ c k u, (viewL c L)[k]? = some u → u.group = (numOf (sightsL31 c L) k : Int) ∧ numOf (sightsL31 c L) k < manyL c L := fun c k u h => view_group h
  have hU2 : ∀ c k u, (viewL c L2)[k]? = some u → u.group = (numOf (sightsL31 c L2) k : Int) ∧ numOf (sightsL31 c L2) k < manyL c L2 := fun c k u h => view_group h
  have hvl : ∀ c, (viewL c L).length = (sightsL31 c L).length ∧ (viewL c L).length ≤ (viewL c L2).length := fun c => by
    rw [viewL_eq, viewL_eq, viewS_len, viewS_len, hT2]
    refine ⟨rfl, ?_⟩
    unfold sightsL31
    rw [List.filter_append, List.length_append]
    omega
  have hvb : fw = true → b = true → ∀ c, (viewL c L).length ≤ 16 := fun h1 h2 c => by have := view_len c L; have := hT16 h1 h2; omega
  have hWc := fun (h1 : fw = true) (h2 : b = true) (V : List SeenD) (g : Int) (V' : List SeenD) (g' : Int) (na nb : Option BE) => within_pure (ofA I V' g') (ofA I V g) na nb (ofA_len (by have := hil h1 h2; omega) V' g') (ofA_len (by have := hil h1 h2; omega) V g)
  obtain ⟨Z, hZ⟩ : ∃ Z, Z = setsL I L C := ⟨_, rfl⟩
  obtain ⟨Z2, hZ2⟩ : ∃ Z, Z = setsL I L2 C := ⟨_, rfl⟩
  have hZl : Z.length = C.length := by rw [hZ, setsL_len]
  have hZl2 : Z2.length = C.length := by rw [hZ2, setsL_len]
  rw [← hZ] at hx6
  rw [← hZ2] at hy6
  obtain ⟨mn, hmn⟩ : ∃ f : List Int → Nat, f = fun c => manyL c L := ⟨_, rfl⟩
  obtain ⟨mn2, hmn2⟩ : ∃ f : List Int → Nat, f = fun c => manyL c L2 := ⟨_, rfl⟩
  obtain ⟨vw, hvw⟩ : ∃ f : List Int → List SeenD, f = fun c => viewL c L := ⟨_, rfl⟩
  obtain ⟨vw2, hvw2⟩ : ∃ f : List Int → List SeenD, f = fun c => viewL c L2 := ⟨_, rfl⟩
  obtain ⟨po, hpo⟩ : ∃ f : List Int → Nat → List Int, f = fun c g => ofA I (viewL c L) ((g : Nat) : Int) := ⟨_, rfl⟩
  obtain ⟨po2, hpo2⟩ : ∃ f : List Int → Nat → List Int, f = fun c g => ofA I (viewL c L2) ((g : Nat) : Int) := ⟨_, rfl⟩
  obtain ⟨G, hG⟩ : ∃ f : List Int → Nat → Nat, f = fun c k => numOf (sightsL31 c L) k := ⟨_, rfl⟩
  obtain ⟨G2, hG2⟩ : ∃ f : List Int → Nat → Nat, f = fun c k => numOf (sightsL31 c L2) k := ⟨_, rfl⟩
  have hZg : ∀ (i : Nat) c z, C[i]? = some c → Z[i]? = some z → z.l.length = mn c.l ∧ ∀ (g : Nat) y, z.l[g]? = some y → y.persons = po c.l g := fun i c z h1 h2 => by
    rw [hZ] at h2
    rw [setsL_get h1 h2, groupsL_len, hmn, hpo]
    exact ⟨rfl, fun g y h => (groupsL_get h).2⟩
  have hZg2 : ∀ (i : Nat) c z, C[i]? = some c → Z2[i]? = some z → z.l.length = mn2 c.l ∧ ∀ (g : Nat) y, z.l[g]? = some y → y.persons = po2 c.l g := fun i c z h1 h2 => by
    rw [hZ2] at h2
    rw [setsL_get h1 h2, groupsL_len, hmn2, hpo2]
    exact ⟨rfl, fun g y h => (groupsL_get h).2⟩
  have hV' : fw = true → b = true → ∀ c ∈ C, ∀ nb nb', Pure Tryd.prog 12 [.slm 1 nb intC c.l, .slm 37 nb' SightD.c L] (.tup [.slm 4 none SeenD.c (vw c.l), .int .i64 (.nat (mn c.l))]) := fun h1 h2 c hc nb nb' => by rw [hvw, hmn]; exact hV h1 h2 c hc nb nb'
  have hV2' : fw = true → b = true → ∀ c ∈ C, ∀ nb nb', Pure Tryd.prog 12 [.slm 1 nb intC c.l, .slm 37 nb' SightD.c L2] (.tup [.slm 4 none SeenD.c (vw2 c.l), .int .i64 (.nat (mn2 c.l))]) := fun h1 h2 c hc nb nb' => by rw [hvw2, hmn2]; exact hV2 h1 h2 c hc nb nb'
  have hU' : ∀ c k u, (vw c)[k]? = some u → u.group = (G c k : Int) ∧ G c k < mn c := fun c k u h => by rw [hvw] at h; rw [hG, hmn]; exact hU c k u h
  have hU2' : ∀ c k u, (vw2 c)[k]? = some u → u.group = (G2 c k : Int) ∧ G2 c k < mn2 c := fun c k u h => by rw [hvw2] at h; rw [hG2, hmn2]; exact hU2 c k u h
  have hvl' : ∀ c, (vw c).length ≤ (vw2 c).length := fun c => by rw [hvw, hvw2]; exact (hvl c).2
  have hvb' : fw = true → b = true → ∀ c, (vw c).length ≤ 16 := fun h1 h2 c => by rw [hvw]; exact hvb h1 h2 c
  have hW' : fw = true → b = true → ea = 0 → ∀ c k, k < (vw c).length → withinL (po2 c (G2 c k)) (po c (G c k)) = true := fun h1 h2 h3 c k hk => by
    rw [hpo2, hpo, hG, hG2]
    exact hW h1 h2 h3 c k (by rw [hvw] at hk; rw [← (hvl c).1]; exact hk)
  have hWc' : fw = true → b = true → ∀ c g c' g' na nb, Pure Tryd.prog 23 [.slm 1 na intC (po2 c' g'), .slm 1 nb intC (po c g)] (boolD (withinL (po2 c' g') (po c g))) := fun h1 h2 c g c' g' na nb => by rw [hpo, hpo2]; exact hWc h1 h2 _ _ _ _ na nb
  clear hfw hb hbe hx hT hA hfit hyf hSm hadd hT16 hTs hV hV2 hil hck hea hy hn hlb hla hacc hsm hT2 hW hU hU2 hvl hvb hWc hZ hZ2 hmn hmn2 hvw hvw2 hpo hpo2 hG hG2 hi1 hi2 hi3 hc1 hc2 hc3 hs1 hs2 hs3 hsf hsl hfs hT'
  obtain ⟨x1, x2, x3, x4, x5, x6, x7, x8⟩ := x
  obtain ⟨y1, y2, y3, y4, y5, y6, y7, y8⟩ := y
  obtain ⟨sv, st, ⟨s1, s2, s3, s4, s5, s6⟩⟩ := s
  simp only at hx6 hy6
  obtain ⟨n', hn'⟩ : ∃ n : Nat, n = C.length := ⟨_, rfl⟩
  refine Pure.intro (want := [boolD true]) T_ok follows Tryd.func5 rfl (by kernel_rfl) (rs := [.tmp 8]) rfl (by kernel_rfl) ?_
  generalize hP : Tryd.prog = P at *
  have hT : T.ok P := hP ▸ T_ok
  have hm : P.follows .mixedOrders = true := hP ▸ follows
  unfold Tryd.f5
  dsimp only
  cbv
  first
    | refine CallP.pure _ (hN) rfl ?_
    | refine PureP.mk _ (hN) rfl ?_
  cbv
  refine SplitP.mk (fun hs => ?_) (fun hs => ?_)
  · cases (show (!true) = true from hs)
  clear hs
  first
    | refine CallP.pure _ (hF) rfl ?_
    | refine PureP.mk _ (hF) rfl ?_
  cbv
  refine SplitP.mk (fun hs => ?_) (fun hs => ?_)
  · exact .mk (.cons (.eq (.bool rfl)) .nil) rfl
  have h10 : fw = true := by simpa using (show (!fw) = false from hs)
  clear hs
  refine SplitP.mk (fun hs => ?_) (fun hs => ?_)
  · exact .mk (.cons (.eq (.bool rfl)) .nil) rfl
  clear hs
  first
    | refine CallP.pure _ (hFs) rfl ?_
    | refine PureP.mk _ (hFs) rfl ?_
  cbv
  refine SplitP.mk (fun hs => ?_) (fun hs => ?_)
  · exact .mk (.cons (.eq (.bool rfl)) .nil) rfl
  have h12 : fs = true := by simpa using (show (!fs) = false from hs)
  clear hs
  first
    | refine CallP.pure _ ((hK h10)) rfl ?_
    | refine PureP.mk _ ((hK h10)) rfl ?_
  cbv
  refine SplitP.mk (fun hs => ?_) (fun hs => ?_)
  · exact .mk (.cons (.eq (.bool rfl)) .nil) rfl
  have h11 : b = true := by simpa using (show (!b) = false from hs)
  clear hs hN hF hK hFs
  obtain ⟨rfl, rfl⟩ := hx6 h11
  first
    | refine CallP.pure _ ((hAdd h10 h11 h12)) rfl ?_
    | refine PureP.mk _ ((hAdd h10 h11 h12)) rfl ?_
  cbv
  refine SplitP.mk (fun hs => ?_) (fun hs => ?_) <;> simp only [BE.neq_t, BE.neq_f, IE.var_d, IE.lit_d] at hs
  · first
      | refine CallP.pure _ ((hSm' h10 h11 h12 hs)) rfl ?_
      | refine PureP.mk _ ((hSm' h10 h11 h12 hs)) rfl ?_
    cbv
    exact .mk (.cons (.eq (.bool rfl)) .nil) rfl
  obtain ⟨rfl, rfl⟩ := hy6 h10 h11 hs
  have hn1 := hn0 hs
  have hll1 := hll h10 h11 hs
  have hW1 := hW' h10 h11 hs
  replace hAf := hAf h10 h11 h12
  replace hLa := hLa h10 h11
  replace hLb := hLb h10 h11 h12
  replace hV' := hV' h10 h11
  replace hV2' := hV2' h10 h11
  replace hWc' := hWc' h10 h11
  replace hvb' := hvb' h10 h11
  replace hcl := hcl h10 h11
  clear hx6 hy6 hn0 hll hW' hAdd hSm'
  first
    | refine CallP.pure _ (hAf) rfl ?_
    | refine PureP.mk _ (hAf) rfl ?_
  cbv
  refine SplitP.mk (fun hq => ?_) (fun hq => ?_) <;> simp only [BE.neq_t, BE.neq_f, IE.var_d, IE.lit_d] at hq
  · exact absurd hs hq
  clear hq
  first
    | refine CallP.pure _ (hLb) rfl ?_
    | refine PureP.mk _ (hLb) rfl ?_
  cbv
  refine SplitP.mk (fun hq => ?_) (fun hq => ?_) <;> simp only [BE.neq_t, BE.neq_f, IE.var_d, IE.lit_d] at hq
  · exact absurd hn1 hq
  clear hq
  refine SplitP.mk (fun hq => ?_) (fun hq => ?_)
  · exfalso
    have h3 : ((x8.length : Int) != (C.length : Int)) = true := hq
    rw [hZl] at h3
    simp at h3
  clear hq
  refine SplitP.mk (fun hq => ?_) (fun hq => ?_)
  · exfalso
    have h3 : ((y8.length : Int) != (C.length : Int)) = true := hq
    rw [hZl2] at h3
    simp at h3
  clear hq
  first
    | refine CallP.pure _ (hLa) rfl ?_
    | refine PureP.mk _ (hLa) rfl ?_
  cbv
  refine SplitP.mk (fun hq => ?_) (fun hq => ?_)
  · exfalso
    have h3 := of_decide_eq_true (show decide (n > la) = true from hq)
    omega
  clear hq
  refine CodeP.keep [1, 9, 11, 15] ?_
  refine CodeP.loopc hT hm (X := Nat) (fun k => [(15, .int .i64 (.nat k))]) (fun k => k ≤ n') (fun k => n' - k) 0 (Nat.zero_le _) (Nat.zero_le _) ?_ rfl ?_
  · (cbv; (repeat' (first | exact SnD.refl _ | exact trivial | exact SnD.nat0 | refine And.intro ?_ ?_)))
  intro k hk
  replace hk : k ≤ n' := hk
  cbv
  refine SplitP.mk (fun hs => ?_) (fun hs => ?_)
  rotate_left
  · exact .mk (.cons (.eq (.bool rfl)) .nil) rfl
  have hkn : k < C.length := by
    have h5 : decide ((k : Int) < (C.length : Int)) = true := hs
    have := of_decide_eq_true h5
    omega
  clear hs
  refine ElemP.mk (by show (0 : Int) ≤ (k : Int) ∧ (k : Int) < (C.length : Int); omega) (fun c hc => ?_)
  replace hc : C[k]? = some c := hc
  have hVc := hV' c (List.mem_of_getElem? hc)
  have hVc2 := hV2' c (List.mem_of_getElem? hc)
  have hZc := hZg k c
  have hZc2 := hZg2 k c
  obtain ⟨c1, c2⟩ := c
  simp only at hVc hVc2 hZc hZc2
  replace hZc := fun z => hZc z hc
  replace hZc2 := fun z => hZc2 z hc
  have hUc := hU' c2
  have hUc2 := hU2' c2
  have hlc := hvl' c2
  have hbc := hvb' c2
  have hWc := hW1 c2
  have hXc := fun g g' => hWc' c2 g c2 g'
  obtain ⟨m, hm'⟩ : ∃ m, m = mn c2 := ⟨_, rfl⟩
  obtain ⟨m2, hm2'⟩ : ∃ m, m = mn2 c2 := ⟨_, rfl⟩
  obtain ⟨vc, hvc⟩ : ∃ m, m = vw c2 := ⟨_, rfl⟩
  obtain ⟨vc2, hvc2⟩ : ∃ m, m = vw2 c2 := ⟨_, rfl⟩
  obtain ⟨pc, hpc⟩ : ∃ m, m = po c2 := ⟨_, rfl⟩
  obtain ⟨pc2, hpc2⟩ : ∃ m, m = po2 c2 := ⟨_, rfl⟩
  obtain ⟨gc, hgc⟩ : ∃ m, m = G c2 := ⟨_, rfl⟩
  obtain ⟨gc2, hgc2⟩ : ∃ m, m = G2 c2 := ⟨_, rfl⟩
  rw [← hm'] at hVc hUc hZc
  rw [← hm2'] at hVc2 hUc2 hZc2
  rw [← hvc] at hVc hUc hlc hbc hWc
  rw [← hvc2] at hVc2 hUc2 hlc
  rw [← hpc] at hZc hWc hXc
  rw [← hpc2] at hZc2 hWc hXc
  rw [← hgc] at hUc hWc
  rw [← hgc2] at hUc2 hWc
  clear hm' hm2' hvc hvc2 hpc hpc2 hgc hgc2
  cbv
  first
    | refine CallP.pure _ ((hVc _ _)) rfl ?_
    | refine PureP.mk _ ((hVc _ _)) rfl ?_
  cbv
  refine ElemP.mk (by show (0 : Int) ≤ (k : Int) ∧ (k : Int) < (C.length : Int); omega) (fun zz hzz => ?_)
  replace hzz : C[k]? = some zz := hzz
  rw [hc] at hzz
  cases hzz
  cbv
  first
    | refine CallP.pure _ ((hVc2 _ _)) rfl ?_
    | refine PureP.mk _ ((hVc2 _ _)) rfl ?_
  cbv
  obtain ⟨q, hq⟩ : ∃ q : Nat, q = vc.length := ⟨_, rfl⟩
  refine CodeP.keep [1, 9, 11, 15, 16, 18, 20] ?_
  refine CodeP.loopc hT hm (X := Nat) (fun g => [(20, .int .i64 (.nat g))]) (fun g => g ≤ q) (fun g => q - g) 0 (Nat.zero_le _) (Nat.zero_le _) ?_ rfl ?_
  · (cbv; (repeat' (first | exact SnD.refl _ | exact trivial | exact SnD.nat0 | refine And.intro ?_ ?_)))
  intro j hj
  replace hj : j ≤ q := hj
  cbv
  refine SplitP.mk (fun hs => ?_) (fun hs => ?_)
  rotate_left
  · refine BackP.intro (k + 1) (by show k + 1 ≤ n'; omega) (by show n' - (k + 1) < n' - k; omega) ⟨?_, HEnt.refl _, rfl⟩
    (cbv; (repeat' (first | exact SnD.refl _ | exact trivial | exact SnD.nat0 | refine And.intro ?_ ?_)))
    exact .inc (by omega)
  have hkn : j < vc.length := by
    have h5 : decide ((j : Int) < (vc.length : Int)) = true := hs
    have := of_decide_eq_true h5
    omega
  clear hs
  refine DrawP.front 53 (by kernel_rfl) (by kernel_rfl) ?_
  cbv
  refine ElemP.mk (by show (0 : Int) ≤ (j : Int) ∧ (j : Int) < (vc.length : Int); omega) (fun u hu => ?_)
  replace hu : vc[j]? = some u := hu
  obtain ⟨hu1, hu2⟩ := hUc j u hu
  have hWj := hWc j (by omega)
  have hU2j := hUc2 j
  have hXj := hXc (gc j) (gc2 j)
  obtain ⟨g, hg⟩ : ∃ g, g = gc j := ⟨_, rfl⟩
  obtain ⟨g2, hg2⟩ : ∃ g, g = gc2 j := ⟨_, rfl⟩
  rw [← hg] at hu1 hu2 hWj hXj
  rw [← hg2] at hU2j hWj hXj
  obtain ⟨pg, hpg⟩ : ∃ p, p = pc g := ⟨_, rfl⟩
  obtain ⟨pg2, hpg2⟩ : ∃ p, p = pc2 g2 := ⟨_, rfl⟩
  rw [← hpg, ← hpg2] at hWj hXj
  obtain ⟨u1, u2, u3, u4, u5, u6⟩ := u
  simp only at hu1
  cbv
  obtain ⟨wl, hwl⟩ : ∃ b, b = withinL pg2 pg := ⟨_, rfl⟩
  rw [← hwl] at hWj hXj
  subst hu1
  refine ElemP.mk (by show (0 : Int) ≤ (k : Int) ∧ (k : Int) < (x8.length : Int); omega) (fun z hz => ?_)
  replace hz : x8[k]? = some z := hz
  obtain ⟨hz1, hz2⟩ := hZc z hz
  have hz3 := hz2 g
  rw [← hpg] at hz3
  obtain ⟨z1, z2⟩ := z
  simp only at hz1 hz3
  cbv
  refine SplitP.mk (fun hs => ?_) (fun hs => ?_)
  · exfalso
    have h3 := of_decide_eq_true (show decide ((g : Int) ≥ (z2.length : Int)) = true from hs)
    omega
  clear hs
  refine ElemP.mk (by show (0 : Int) ≤ (j : Int) ∧ (j : Int) < (vc2.length : Int); omega) (fun w hw => ?_)
  replace hw : vc2[j]? = some w := hw
  obtain ⟨hw1, hw2⟩ := hU2j w hw
  obtain ⟨w1, w2, w3, w4, w5, w6⟩ := w
  simp only at hw1
  subst hw1
  cbv
  refine ElemP.mk (by show (0 : Int) ≤ (k : Int) ∧ (k : Int) < (y8.length : Int); omega) (fun zt hzt => ?_)
  replace hzt : y8[k]? = some zt := hzt
  obtain ⟨hzt1, hzt2⟩ := hZc2 zt hzt
  have hzt3 := hzt2 g2
  rw [← hpg2] at hzt3
  obtain ⟨zt1, zt2⟩ := zt
  simp only at hzt1 hzt3
  cbv
  refine SplitP.mk (fun hs => ?_) (fun hs => ?_)
  · exfalso
    have h3 := of_decide_eq_true (show decide ((g2 : Int) ≥ (zt2.length : Int)) = true from hs)
    omega
  clear hs
  refine ElemP.mk (by show (0 : Int) ≤ (k : Int) ∧ (k : Int) < (y8.length : Int); omega) (fun zz hzz => ?_)
  replace hzz : y8[k]? = some zz := hzz
  rw [hzt] at hzz
  cases hzz
  cbv
  refine ElemP.mk (by show (0 : Int) ≤ (j : Int) ∧ (j : Int) < (vc2.length : Int); omega) (fun zz hzz => ?_)
  replace hzz : vc2[j]? = some zz := hzz
  rw [hw] at hzz
  cases hzz
  cbv
  refine ElemP.mk (by show (0 : Int) ≤ (g2 : Int) ∧ (g2 : Int) < (zt2.length : Int); omega) (fun y hy => ?_)
  replace hy : zt2[g2]? = some y := hy
  have hy2 := hzt3 y hy
  obtain ⟨q1, q2, q3⟩ := y
  simp only at hy2
  subst hy2
  cbv
  refine ElemP.mk (by show (0 : Int) ≤ (k : Int) ∧ (k : Int) < (x8.length : Int); omega) (fun zz hzz => ?_)
  replace hzz : x8[k]? = some zz := hzz
  rw [hz] at hzz
  cases hzz
  cbv
  refine ElemP.mk (by show (0 : Int) ≤ (j : Int) ∧ (j : Int) < (vc.length : Int); omega) (fun zz hzz => ?_)
  replace hzz : vc[j]? = some zz := hzz
  rw [hu] at hzz
  cases hzz
  cbv
  refine ElemP.mk (by show (0 : Int) ≤ (g : Int) ∧ (g : Int) < (z2.length : Int); omega) (fun y hy => ?_)
  replace hy : z2[g]? = some y := hy
  have hy3 := hz3 y hy
  obtain ⟨p1, p2, p3⟩ := y
  simp only at hy3
  subst hy3
  cbv
  first
    | refine CallP.pure _ ((hXj _ _)) rfl ?_
    | refine PureP.mk _ ((hXj _ _)) rfl ?_
  cbv
  refine SplitP.mk (fun hs => ?_) (fun hs => ?_)
  · exfalso
    have h3 : (!wl) = true := hs
    rw [hWj] at h3
    cases h3
  refine BackP.intro (j + 1) (by show j + 1 ≤ q; omega) (by show q - (j + 1) < q - j; omega) ⟨?_, HEnt.refl _, rfl⟩
  (cbv; (repeat' (first | exact SnD.refl _ | exact trivial | exact SnD.nat0 | refine And.intro ?_ ?_)))
  exact .inc (by omega)
theorem own : ownKnob Tryd.prog.godebug = none := by kernel_rfl
theorem laidOut : laidOutB Tryd.prog = true := by kernel_rfl
set_option maxRecDepth 100000 in
theorem lifted (os : Os) (started : os.Started) (H : Type) (enc : TypeId × Value → H) :
    ReturnsInHanded {} Tryd.checked os 5 .any (fun w args => (Rows.accountNarrowSpec.pre enc Tryd.prog Tryd.f5 [] false w args ∧ laidMetH Tryd.prog laidR w) ∧ sizedMet enc Tryd.prog Tryd.f5 (OpenSpec.ofChange Rows.accountNarrowSpec) false w args) (Rows.accountNarrowSpec.post enc Tryd.prog Tryd.f5 false true false false) := by
  refine returnsInHanded_of_change_and (C := Tryd.checked) (X := fun w _ => laidMetH Tryd.prog laidR w) (fun _ _ _ hh h => h.of_heap hh) own started (by kernel_rfl) Tryd.func5
    (ChangeSpec.witness_shaped (enc := enc) (C := Tryd.checked) (os := os) (X := fun w _ => laidMetH Tryd.prog laidR w) false (World.doorLaid Tryd.prog 400 os) #[.slice none 0 0, .slice none 0 0, .slice none 0 0, .agg #[.int .i64 0, .int .u8 0, .int .u8 0, .int .u8 0, .int .u8 0, .int .u8 0, .int .u8 0, .int .u8 0, .int .u8 0, .int .u8 0, .int .u8 0, .int .u8 0, .int .u8 0, .int .u8 0, .int .u8 0, .int .u8 0, .int .u8 0, .int .u8 0, .int .u8 0, .int .u8 0, .int .u8 0, .int .u8 0, .int .u8 0, .int .u8 0, .int .u8 0, .int .u8 0, .int .u8 0, .int .u8 0, .int .u8 0, .int .u8 0, .int .u8 0, .int .u8 0, .int .u8 0, .int .i64 0, .int .i64 0, .slice none 0 0, .slice none 0 0]] 8 rfl (World.shaped_of_RefB (by kernel_rfl) (by kernel_rfl)) (by kernel_rfl) (by kernel_rfl) (by kernel_rfl) (door_met os _)) ?_
  intro W base args ds gs before hval0 hW _ hSz hL _
  have hval : ∀ (j : Nat) t v, Tryd.f5.params[j]? = some t → args[j]? = some v → Value.okWide Tryd.prog W .any base t v := hval0
  have hW' := hW
  obtain ⟨p, q, hA0, hV, rfl, hfz, hnd⟩ := hW
  have hA : DataW.TrodAll enc Tryd.prog W 0 (fun _ => true) true Tryd.f5.params.toList args.toList ds p := hA0
  rw [Tryd.params5] at hA hval
  obtain ⟨v0, vs0, d0, ds0, p0, q0, hargs, rfl, rfl, h0, r0⟩ := trodAll_cons hA
  obtain ⟨v1, vs1, d1, ds1, p1, q1, rfl, rfl, rfl, h1, r1⟩ := trodAll_cons r0
  obtain ⟨v2, vs2, d2, ds2, p2, q2, rfl, rfl, rfl, h2, r2⟩ := trodAll_cons r1
  obtain ⟨v3, vs3, d3, ds3, p3, q3, rfl, rfl, rfl, h3, r3⟩ := trodAll_cons r2
  obtain ⟨rfl, rfl, rfl⟩ := trodAll_nil r3
  obtain rfl : args = #[v0, v1, v2, v3] := by cases args; simp_all
  obtain ⟨rfl, rfl⟩ := trodVars_none hV
  have k0 := h0
  have lt0 : ∀ x ∈ p0, x.block < W.heap.size := by obtain ⟨m, hm⟩ := k0; exact DataW.trod_lt m _ _ _ hm
  obtain ⟨⟨nb0, l0⟩, ⟨ln0, lk0, ll0⟩, rp0⟩ := open_sl (e := 47) (by kernel_rfl) opd_issueds (hval 0 22 v0 rfl rfl) h0
  have k1 := h1
  have lt1 : ∀ x ∈ p1, x.block < W.heap.size := by obtain ⟨m, hm⟩ := k1; exact DataW.trod_lt m _ _ _ hm
  obtain ⟨⟨nb1, l1⟩, ⟨ln1, lk1, ll1⟩, rp1⟩ := open_sl (e := 37) (by kernel_rfl) opd_coals (hval 1 23 v1 rfl rfl) h1
  have k2 := h2
  have lt2 : ∀ x ∈ p2, x.block < W.heap.size := by obtain ⟨m, hm⟩ := k2; exact DataW.trod_lt m _ _ _ hm
  obtain ⟨⟨nb2, l2⟩, ⟨ln2, lk2, ll2⟩, rp2⟩ := open_sl (e := 53) (by kernel_rfl) opd_sights (hval 2 24 v2 rfl rfl) h2
  have k3 := h3
  have lt3 : ∀ x ∈ p3, x.block < W.heap.size := by obtain ⟨m, hm⟩ := k3; exact DataW.trod_lt m _ _ _ hm
  obtain ⟨s3, sf3, rp3⟩ := open_st Tryd.underlying53 opd_sight (hval 3 53 v3 rfl rfl) h3
  clear hA0 hval0
  refine (Pure.law (main_pure nb0 l0 ln0 lk0 ll0 nb1 l1 ln1 lk1 ll1 nb2 l2 ln2 lk2 ll2 s3 sf3) (of_laid hL) (lrep_cons rp0 (lrep_cons rp1 (lrep_cons rp2 (lrep_cons rp3 LRep.nil))))).mono fun e W' ⟨he, bel⟩ => ?_
  subst he
  exact ⟨_, rfl, _, _, _, [], _, [], hW', trodAll_mk1 (shut_bool Tryd.underlying4 _), (trodAll_cons_mk (Below.trod laidOut (by kernel_rfl) (of_decide_eq_true (by kernel_rfl)) k0 bel lt0) (trodAll_cons_mk (Below.trod laidOut (by kernel_rfl) (of_decide_eq_true (by kernel_rfl)) k1 bel lt1) (trodAll_cons_mk (Below.trod laidOut (by kernel_rfl) (of_decide_eq_true (by kernel_rfl)) k2 bel lt2) (trodAll_cons_mk (Below.trod laidOut (by kernel_rfl) (of_decide_eq_true (by kernel_rfl)) k3 bel lt3) trodAll_mk0)))), rfl, bel.frame _, fun h => by cases h⟩

theorem over : Rows.accountNarrowRow.holds Tryd.pinned (OpenSpec.ofChange Rows.accountNarrowSpec) :=
  OpenClaim.holds_of_wide 5 Tryd.f5 rfl rfl rfl rfl rfl rfl rfl ⟨rfl, rfl, rfl, rfl, rfl⟩ rfl rfl rfl rfl rfl (by kernel_rfl) Tryd.func5 (by kernel_rfl)
    (of_decide_eq_true (by kernel_rfl)) (by unfold Func.isWrapper; first | (rw [if_pos (by decide +kernel)]; kernel_rfl) | (rw [if_neg (by decide +kernel)]; exact ⟨rfl, rfl⟩))
    (fun os started H enc _ => lifted os started H enc)
theorem card : Rows.AccountNarrowCardSaid :=
  Claim7.holds_tied_plain_at .later [] [.data] true (true, "b72b32de743d826df5b2873f23d602c53803940e87d116771b5e76fb27b1ffe5") false
    over (fun _ h => by cases h) (by kernel_rfl) (fun _ h => by cases h) accountNarrow_row_tie rfl ⟨rfl, rfl⟩ (by kernel_rfl) rfl
    (fun f fn hf hfn => by
      obtain rfl : f = 5 := Option.some.inj ((show Tryd.prog.funcNamed "testamur/testamurlaw31.AccountNarrow" = some 5 by kernel_rfl).symm.trans hf) |>.symm
      obtain rfl : fn = Tryd.f5 := (Option.some.inj (Tryd.func5.symm.trans hfn)).symm
      exact ⟨by kernel_rfl, fun j t ht => by
        rw [Tryd.params5] at ht
        have hm : t ∈ [22, 23, 24, 53] := by simpa using Array.mem_of_getElem? ht
        have hall : ([22, 23, 24, 53].all fun u => !Tryd.prog.wantsStandIn u) = true := by kernel_rfl
        exact (show Tryd.prog.wantsStandIn t = false by simpa using List.all_eq_true.1 hall t hm)⟩)
    (by kernel_rfl)
end accountNarrow
theorem accountNarrow_holds : Rows.AccountNarrowCardSaid := accountNarrow.card
#print axioms accountNarrow_holds

end Go.Proofs.YtaopkjgldokahaaDoor
