import Derived.Test.YtaopkjgldokahaaDoorPart6
import Derived.Test.YtaopkjgldokahaaDoorTie
import Derived.Test.YtaopkjgldokahaaDoorCards
set_option linter.all false
set_option linter.unusedSimpArgs false
set_option linter.unusedVariables false
set_option linter.unnecessarySimpa false
namespace Go.Proofs.YtaopkjgldokahaaDoor
open Go.ChangeShapes Go.WideShapes Go.ChangeAt Go.RowKit
namespace accountMore
theorem bytes3 : Tryd.prog.bytesOf 3 = 8 := by kernel_rfl
set_option maxRecDepth 100000 in
set_option maxHeartbeats 4000000 in
theorem main_pure (ni : Bool) (I : List IssuedD) (hi1 : ni = true → I = []) (hi2 : ∀ x ∈ I, x.fine) (hi3 : I.length ≤ maxLen) (nc : Bool) (c : List Int) (hc1 : nc = true → c = []) (hc2 : ∀ x ∈ c, True) (hc3 : c.length ≤ maxLen) (hc4 : c.length * Tryd.prog.bytesOf 3 ≤ reachBytes) (v : Int) (hv : InR .i64 v) (ns : Bool) (S : List SightD) (hs1 : ns = true → S = []) (hs2 : ∀ x ∈ S, x.fine) (hs3 : S.length ≤ maxLen) :
    Pure Tryd.prog 6 [.slm 3 (some (.var ni)) IssuedD.c I, .slm 1 (some (.var nc)) intC c, i64 v, .slm 37 (some (.var ns)) SightD.c S] (boolD true) := by
  rw [maxLen_eq] at hi3 hc3 hs3
  rw [bytes3] at hc4
  have hc5 : c.length * 8 ≤ 140737488351232 := hc4
  clear hc4 hc2 hc3
  have hN := sane_pure
  obtain ⟨M, hM⟩ : ∃ M, M = insM v false c := ⟨_, rfl⟩
  have hMm : ∀ p ∈ c, p ∈ M := fun p hp => by rw [hM, insM_mem]; exact .inl hp
  obtain ⟨g, hg⟩ : ∃ g, g = insM v := ⟨_, rfl⟩
  have g0 : ∀ d, g d [] = if d then [] else [v] := fun d => by rw [hg]; rfl
  have g1 : ∀ x r, x > v → g false (x :: r) = v :: x :: g true r := fun x r h => by rw [hg, insM, decide_eq_true h]; rfl
  have g2 : ∀ x r, g true (x :: r) = x :: g true r := fun x r => by rw [hg]; rfl
  have g3 : ∀ x r, ¬ x > v → g false (x :: r) = x :: g false r := fun x r h => by rw [hg, insM, decide_eq_false h]; rfl
  rw [← hg] at hM
  clear hg
  obtain ⟨mf, hmf⟩ : ∃ b, b = false := ⟨_, rfl⟩
  obtain ⟨C, hC⟩ : ∃ C : List CoalD, C = [⟨nc, c⟩, ⟨mf, M⟩] := ⟨_, rfl⟩
  have hCc : [[.slm 1 (some (.var nc)) intC c], [.slm 1 (some (.var mf)) intC M]] = C.map CoalD.c := by rw [hC]; rfl
  have hF := few_pure ni mf (some (.var ns)) I C S hi3 hs3
  have hK := fun h : fewL I C S = true => kept_pure ni I mf C (some (.var ns)) S hi1 (fun h => by rw [hmf] at h; cases h) (fewL_big h).1 (by have := (fewL_big h).2.2.1; omega) (fun x hx => by have := (fewL_big h).2.2.2.1 x hx; omega) (fewL_big h).2.2.2.2.1 (by have := (fewL_big h).2.2.2.2.2; omega)
  have hT := fun (h : fewL I C S = true) (he : newE I C = 0) => kept_of h he
  have hA := fun (he : newE I C = 0) => (kept_form (ni := ni) (nc := mf) (S := S) he).1
  obtain ⟨L, hL⟩ : ∃ T, T = keepT I [] S := ⟨_, rfl⟩
  rw [← hL] at hT hA
  obtain ⟨fw, hfw⟩ : ∃ b, b = fewL I C S := ⟨_, rfl⟩
  rw [← hfw] at hF hK hT
  obtain ⟨b, hb⟩ : ∃ b, b = decide (newE I C = 0) := ⟨_, rfl⟩
  have hbe : b = true → newE I C = 0 := fun h => by rw [h] at hb; simpa using hb.symm
  rw [← hb] at hK
  obtain ⟨x, hx⟩ : ∃ x, x = keptA ni I mf C S := ⟨_, rfl⟩
  rw [← hx] at hK hA
  replace hT := fun (h1 : fw = true) (h2 : b = true) => hT h1 (hbe h2)
  replace hA := fun (h2 : b = true) => hA (hbe h2)
  replace hF := Pure.args (.cons (.refl _) (.cons (.sll (es := [[.slm 1 (some (.var nc)) intC c], [.slm 1 (some (.var mf)) intC M]]) hCc (fun e h => by cases h; exact hmf)) (.cons (.refl _) .nil))) hF
  replace hK := fun h => Pure.args (.cons (.refl _) (.cons (.sll (es := [[.slm 1 (some (.var nc)) intC c], [.slm 1 (some (.var mf)) intC M]]) hCc (fun e h => by cases h; exact hmf)) (.cons (.refl _) .nil))) (hK h)
  have hcx := fun (h1 : fw = true) (h2 : b = true) => (⟨by have := (hT h1 h2).cx ⟨nc, c⟩ (by rw [hC]; simp); exact this, by have := (hT h1 h2).cx ⟨mf, M⟩ (by rw [hC]; simp); exact this⟩ : c.length ≤ 10 ∧ M.length ≤ 10)
  have htl := fun (h1 : fw = true) (h2 : b = true) => (hT h1 h2).tl
  have hil := fun (h1 : fw = true) (h2 : b = true) => (hT h1 h2).il
  have hck := fun (h1 : fw = true) (h2 : b = true) => (hT h1 h2).ok.2.1
  have hSe := fun (h1 : fw = true) (h2 : b = true) (na nb : Option BE) => Sees_pure c L na nb (by have := (hcx h1 h2).1; omega) (by have := htl h1 h2; omega)
  have hSe2 := fun (h1 : fw = true) (h2 : b = true) (na nb : Option BE) => Sees_pure M L na nb (by have := (hcx h1 h2).2; omega) (by have := htl h1 h2; omega)
  have hV := fun (h1 : fw = true) (h2 : b = true) (na nb : Option BE) => View_pure c L na nb (by have := (hcx h1 h2).1; omega) (by have := htl h1 h2; omega)
  have hV2 := fun (h1 : fw = true) (h2 : b = true) (na nb : Option BE) => View_pure M L na nb (by have := (hcx h1 h2).2; omega) (by have := htl h1 h2; omega)
  have hW := fun (h1 : fw = true) (h2 : b = true) (i k j : Nat) (q1 : (seesL c L)[i]? = some j) (q2 : (seesL M L)[k]? = some j) => more_within hMm (hck h1 h2) q1 q2
  have hU : ∀ k u, (viewL c L)[k]? = some u → u.group = (numOf (sightsL31 c L) k : Int) ∧ numOf (sightsL31 c L) k < manyL c L := fun k u h => view_group h
  have hU2 : ∀ k u, (viewL M L)[k]? = some u → u.group = (numOf (sightsL31 M L) k : Int) ∧ numOf (sightsL31 M L) k < manyL M L := fun k u h => view_group h
  have hxl : (seesL c L).length = (viewL c L).length ∧ (seesL M L).length = (viewL M L).length := by rw [sees_len, sees_len, viewL_eq, viewL_eq, viewS_len, viewS_len]; exact ⟨rfl, rfl⟩
  have hvb : fw = true → b = true → (seesL c L).length ≤ 16 ∧ (seesL M L).length ≤ 16 := fun h1 h2 => by rw [hxl.1, hxl.2]; have h3 := view_len c L; have h4 := view_len M L; have := htl h1 h2; omega
  have hWc := fun (h1 : fw = true) (h2 : b = true) (V : List SeenD) (g : Int) (V' : List SeenD) (g' : Int) (na nb : Option BE) => within_pure (ofA I V' g') (ofA I V g) na nb (ofA_len (by have := hil h1 h2; omega) V' g') (ofA_len (by have := hil h1 h2; omega) V g)
  have hx6 : b = true → x.sights = L ∧ x.sets = setsL I L C := fun h => by rw [hA h]; exact ⟨rfl, rfl⟩
  obtain ⟨Z, hZ⟩ : ∃ Z, Z = setsL I L C := ⟨_, rfl⟩
  rw [← hZ] at hx6
  have hZl : Z.length = 2 := by rw [hZ, setsL_len, hC]; rfl
  obtain ⟨mn, hmn⟩ : ∃ n : Nat, n = manyL c L := ⟨_, rfl⟩
  obtain ⟨mn2, hmn2⟩ : ∃ n : Nat, n = manyL M L := ⟨_, rfl⟩
  obtain ⟨vw, hvw⟩ : ∃ f : List SeenD, f = viewL c L := ⟨_, rfl⟩
  obtain ⟨vw2, hvw2⟩ : ∃ f : List SeenD, f = viewL M L := ⟨_, rfl⟩
  obtain ⟨xs, hxs⟩ : ∃ f, f = seesL c L := ⟨_, rfl⟩
  obtain ⟨xs2, hxs2⟩ : ∃ f, f = seesL M L := ⟨_, rfl⟩
  obtain ⟨po, hpo⟩ : ∃ f : Nat → List Int, f = fun g => ofA I (viewL c L) ((g : Nat) : Int) := ⟨_, rfl⟩
  obtain ⟨po2, hpo2⟩ : ∃ f : Nat → List Int, f = fun g => ofA I (viewL M L) ((g : Nat) : Int) := ⟨_, rfl⟩
  obtain ⟨G, hG⟩ : ∃ f : Nat → Nat, f = fun k => numOf (sightsL31 c L) k := ⟨_, rfl⟩
  obtain ⟨G2, hG2⟩ : ∃ f : Nat → Nat, f = fun k => numOf (sightsL31 M L) k := ⟨_, rfl⟩
  have hZg : ∀ z, Z[0]? = some z → z.l.length = mn ∧ ∀ (g : Nat) y, z.l[g]? = some y → y.persons = po g := fun z h2 => by
    rw [hZ] at h2
    rw [setsL_get (c := ⟨nc, c⟩) (by rw [hC]; rfl) h2, groupsL_len, hmn, hpo]
    exact ⟨rfl, fun g y h => (groupsL_get h).2⟩
  have hZg2 : ∀ z, Z[1]? = some z → z.l.length = mn2 ∧ ∀ (g : Nat) y, z.l[g]? = some y → y.persons = po2 g := fun z h2 => by
    rw [hZ] at h2
    rw [setsL_get (c := ⟨mf, M⟩) (by rw [hC]; rfl) h2, groupsL_len, hmn2, hpo2]
    exact ⟨rfl, fun g y h => (groupsL_get h).2⟩
  rw [← hxs] at hSe hxl hvb
  rw [← hxs2] at hSe2 hxl hvb
  rw [← hvw] at hV hxl
  rw [← hvw2] at hV2 hxl
  rw [← hmn] at hV
  rw [← hmn2] at hV2
  have hW' : fw = true → b = true → ∀ i k j, xs[i]? = some j → xs2[k]? = some j → withinL (po2 (G2 k)) (po (G i)) = true := fun h1 h2 i k j q1 q2 => by
    rw [hpo2, hpo, hG, hG2]
    exact hW h1 h2 i k j (by rw [← hxs]; exact q1) (by rw [← hxs2]; exact q2)
  have hU' : ∀ k u, vw[k]? = some u → u.group = (G k : Int) ∧ G k < mn := fun k u h => by rw [hvw] at h; rw [hG, hmn]; exact hU k u h
  have hU2' : ∀ k u, vw2[k]? = some u → u.group = (G2 k : Int) ∧ G2 k < mn2 := fun k u h => by rw [hvw2] at h; rw [hG2, hmn2]; exact hU2 k u h
  have hWc' : fw = true → b = true → ∀ g g' na nb, Pure Tryd.prog 23 [.slm 1 na intC (po2 g'), .slm 1 nb intC (po g)] (boolD (withinL (po2 g') (po g))) := fun h1 h2 g g' na nb => by rw [hpo, hpo2]; exact hWc h1 h2 _ _ _ _ na nb
  clear hMm hC hCc hfw hb hbe hx hT hA hL hcx htl hil hck hW hU hU2 hWc hZ hmn hmn2 hvw hvw2 hxs hxs2 hpo hpo2 hG hG2 hi1 hi2 hi3 hs1 hs2 hs3 hv hc1
  obtain ⟨x1, x2, x3, x4, x5, x6, x7, x8⟩ := x
  simp only at hx6
  obtain ⟨n, hn⟩ : ∃ n : Nat, n = c.length := ⟨_, rfl⟩
  have e : (boolD true : D) = retD [boolD true] := rfl
  rw [e]
  refine Pure.introC T_ok Tryd.func6 rfl (by kernel_rfl) (rs := [.tmp 8]) rfl (by kernel_rfl) ?_
  generalize hP : Tryd.prog = P at *
  have hT : T.ok P := hP ▸ T_ok
  have hm : P.follows .mixedOrders = true := hP ▸ follows
  unfold Tryd.f6
  dsimp only
  refine CodeP.seq (vc_sound hT hm _ ?_)
  cbv
  refine CodeP.seq (vc_sound hT hm _ ?_)
  cbv
  first
    | refine CallP.pure _ (hN) rfl ?_
    | refine PureP.mk _ (hN) rfl ?_
  cbv
  refine SplitP.mk (fun hs => ?_) (fun hs => ?_)
  · cases (show (!true) = true from hs)
  clear hs hN
  refine CodeP.seq (vc_sound hT hm _ ?_)
  cbv
  refine CodeP.seq (vc_sound hT hm _ ?_)
  cbv
  refine CodeP.seq (vc_sound hT hm _ ?_)
  cbv
  refine CodeP.keep [0, 1, 2, 3, 9, 10, 11] ?_
  refine CodeP.loopm hT hm (X := Nat × Nat × Bool × List Int) (fun x => [(11, .int .i64 (.nat x.1)), (9, .osl 1 0 (x.2.1 + 1) (.lit false) (.lit 0) (.nat x.2.1)), (10, .bool (.var x.2.2.1))]) (fun x => [.row 3 1 (x.2.1 + 1) (.map intC x.2.2.2)])
    (fun x => x.1 ≤ n ∧ x.2.2.2.length = x.2.1 ∧ x.2.1 ≤ x.1 + 1 ∧ (x.2.2.1 = false → x.2.1 ≤ x.1) ∧ M = x.2.2.2 ++ g x.2.2.1 (c.drop x.1)) (fun x => n - x.1) (0, 0, false, []) ⟨Nat.zero_le _, rfl, Nat.zero_le _, fun _ => Nat.le_refl _, by simpa using hM⟩ (fun _ => Nat.zero_le _) ⟨?_, ⟨.row rfl, trivial⟩, rfl⟩ ?_
  · refine ⟨.nat0, .eq (.osl rfl rfl rfl), .eq (.bool rfl), ?_⟩
    (cbv; (repeat' (first | exact SnD.refl _ | exact trivial | exact SnD.nat0 | refine And.intro ?_ ?_)))
  intro ⟨k, q, d, A⟩ ⟨hk, hq, hqk, hqd, hMA⟩
  simp only at hk hq hqk hqd hMA
  cbv
  refine SplitP.mk (fun hs => ?_) (fun hs => ?_)
  · have hkn : k < c.length := by
      have h5 : decide ((k : Int) < (c.length : Int)) = true := hs
      have := of_decide_eq_true h5
      omega
    clear hs
    refine ElemP.mk (by show (0 : Int) ≤ (k : Int) ∧ (k : Int) < (c.length : Int); omega) (fun x hx => ?_)
    replace hx : c[k]? = some x := hx
    rw [drop_cons hx] at hMA
    cbv
    refine SplitP.mk (fun h1 => ?_) (fun h1 => ?_) <;> simp only [BE.eql_t, BE.eql_f, IE.var_d] at h1
    · exact .mk (.cons (.eq (.bool rfl)) .nil) rfl
    refine SplitP.mk (fun h2 => ?_) (fun h2 => ?_)
    · have hd : d = false := by simpa using (show (!d) = true from h2)
      subst hd
      have hqd2 := hqd rfl
      refine ElemP.mk (by show (0 : Int) ≤ (k : Int) ∧ (k : Int) < (c.length : Int); omega) (fun zz hzz => ?_)
      replace hzz : c[k]? = some zz := hzz
      rw [hx] at hzz
      cases hzz
      cbv
      refine SplitP.mk (fun h3 => ?_) (fun h3 => ?_) <;> simp only [BE.gtr_t, BE.gtr_f, IE.var_d] at h3
      · rw [g1 x _ h3] at hMA
        refine ReqP.mk ⟨rfl, by simp [IE.den, RE.den, hq], (by intro e he; simp only [RE.den, List.mem_singleton] at he; subst he; rfl), map_cells (fun _ => rfl), by show (q : Int) + 1 ≤ _; omega, by show ((q : Int) + 1) * ((8 : Nat) : Int) ≤ _; omega⟩ (fun _ => ?_)
        refine ElemP.mk (by show (0 : Int) ≤ (k : Int) ∧ (k : Int) < (c.length : Int); omega) (fun zz hzz => ?_)
        replace hzz : c[k]? = some zz := hzz
        rw [hx] at hzz
        cases hzz
        cbv
        refine ReqP.mk ⟨rfl, by simp [IE.den, RE.den, hq], (by intro e he; simp only [RE.den, List.mem_singleton] at he; subst he; rfl), (by intro e he; simp only [RE.den, List.mem_append, List.mem_map, List.mem_singleton] at he; rcases he with ⟨x, _, rfl⟩ | rfl <;> rfl), by show ((q : Int) + 1) + 1 ≤ _; omega, by show (((q : Int) + 1) + 1) * ((8 : Nat) : Int) ≤ _; omega⟩ (fun _ => ?_)
        refine BackP.intro (k + 1, q + 2, true, A ++ [v, x]) ⟨by simp only; omega, by simp only; rw [List.length_append, hq]; rfl, by simp only; omega, (fun h => by cases h), by simp only; rw [hMA]; simp⟩ (by show n - (k + 1) < n - k; omega) ⟨?_, ⟨.row (by simp [RE.den]), trivial⟩, rfl⟩
        refine ⟨.inc (by omega), .eq (.osl rfl rfl (by show ((q : Int) + 1) + 1 = ((q + 2 : Nat) : Int); omega)), .eq (.bool rfl), ?_⟩
        (cbv; (repeat' (first | exact SnD.refl _ | exact trivial | exact SnD.nat0 | refine And.intro ?_ ?_)))
      · rw [g3 x _ (by omega)] at hMA
        refine ElemP.mk (by show (0 : Int) ≤ (k : Int) ∧ (k : Int) < (c.length : Int); omega) (fun zz hzz => ?_)
        replace hzz : c[k]? = some zz := hzz
        rw [hx] at hzz
        cases hzz
        cbv
        refine ReqP.mk ⟨rfl, by simp [IE.den, RE.den, hq], (by intro e he; simp only [RE.den, List.mem_singleton] at he; subst he; rfl), map_cells (fun _ => rfl), by show (q : Int) + 1 ≤ _; omega, by show ((q : Int) + 1) * ((8 : Nat) : Int) ≤ _; omega⟩ (fun _ => ?_)
        refine BackP.intro (k + 1, q + 1, false, A ++ [x]) ⟨by simp only; omega, by simp only; rw [List.length_append, hq]; rfl, by simp only; omega, fun h => by simp only; omega, by simp only; rw [hMA]; simp⟩ (by show n - (k + 1) < n - k; omega) ⟨?_, ⟨row_app x rfl (.cons (.refl _) .nil), trivial⟩, rfl⟩
        refine ⟨.inc (by omega), .eq (.osl rfl rfl rfl), .refl _, ?_⟩
        (cbv; (repeat' (first | exact SnD.refl _ | exact trivial | exact SnD.nat0 | refine And.intro ?_ ?_)))
    · have hd : d = true := by simpa using (show (!d) = false from h2)
      subst hd
      rw [g2] at hMA
      refine ElemP.mk (by show (0 : Int) ≤ (k : Int) ∧ (k : Int) < (c.length : Int); omega) (fun zz hzz => ?_)
      replace hzz : c[k]? = some zz := hzz
      rw [hx] at hzz
      cases hzz
      cbv
      refine ReqP.mk ⟨rfl, by simp [IE.den, RE.den, hq], (by intro e he; simp only [RE.den, List.mem_singleton] at he; subst he; rfl), map_cells (fun _ => rfl), by show (q : Int) + 1 ≤ _; omega, by show ((q : Int) + 1) * ((8 : Nat) : Int) ≤ _; omega⟩ (fun _ => ?_)
      refine BackP.intro (k + 1, q + 1, true, A ++ [x]) ⟨by simp only; omega, by simp only; rw [List.length_append, hq]; rfl, by simp only; omega, (fun h => by cases h), by simp only; rw [hMA]; simp⟩ (by show n - (k + 1) < n - k; omega) ⟨?_, ⟨row_app x rfl (.cons (.refl _) .nil), trivial⟩, rfl⟩
      refine ⟨.inc (by omega), .eq (.osl rfl rfl rfl), .refl _, ?_⟩
      (cbv; (repeat' (first | exact SnD.refl _ | exact trivial | exact SnD.nat0 | refine And.intro ?_ ?_)))
  have hkn : c.length ≤ k := by
    have h5 : decide ((k : Int) < (c.length : Int)) = false := hs
    have := of_decide_eq_false h5
    omega
  clear hs
  rw [List.drop_of_length_le (by omega), g0] at hMA
  have hqn : (q : Int) * 8 ≤ 140737488351240 := by omega
  refine CodeP.seqTo [(0, .slm 3 (some (.var ni)) IssuedD.c I), (1, .slm 1 (some (.var nc)) intC c), (3, .slm 37 (some (.var ns)) SightD.c S), (9, .slm 1 (some (.var mf)) intC M)] [.dead] (Nat.zero_le _) (vc_sound hT hm _ ?_) ?_
  · cbv
    refine SplitP.mk (fun h2 => ?_) (fun h2 => ?_)
    · have hd : d = false := by simpa using (show (!d) = true from h2)
      subst hd
      have hqd2 := hqd rfl
      refine ReqP.mk ⟨rfl, by simp [IE.den, RE.den, hq], (by intro e he; simp only [RE.den, List.mem_singleton] at he; subst he; rfl), map_cells (fun _ => rfl), by show (q : Int) + 1 ≤ _; omega, by show ((q : Int) + 1) * ((8 : Nat) : Int) ≤ _; omega⟩ (fun _ => ?_)
      exact ⟨⟨.refl _, .refl _, .refl _, .slm rfl (.inl ⟨_, _, rfl, by rw [hMA]; simp [RE.den]⟩) rfl (by rw [hMA]; simp [IE.den, hq]) (fun e h => by cases h; exact hmf), trivial⟩, ⟨.dead _, trivial⟩, rfl⟩
    · have hd : d = true := by simpa using (show (!d) = false from h2)
      subst hd
      exact ⟨⟨.refl _, .refl _, .refl _, .slm rfl (.inl ⟨_, _, rfl, by rw [hMA]; simp [RE.den]⟩) rfl (by rw [hMA]; simp [IE.den, hq]) (fun e h => by cases h; exact hmf), trivial⟩, ⟨.dead _, trivial⟩, rfl⟩
  clear hMA hqn hq hqk hqd hk hkn hM g0 g1 g2 g3
  refine CodeP.seq (vc_sound hT hm _ ?_)
  cbv
  refine CodeP.seq (vc_sound hT hm _ ?_)
  cbv
  first
    | refine CallP.pure _ (hF) rfl ?_
    | refine PureP.mk _ (hF) rfl ?_
  cbv
  refine SplitP.mk (fun hs => ?_) (fun hs => ?_)
  · exact .mk (.cons (.eq (.bool rfl)) .nil) rfl
  have h10 : fw = true := by simpa using (show (!fw) = false from hs)
  clear hs
  refine CodeP.seq (vc_sound hT hm _ ?_)
  cbv
  first
    | refine CallP.pure _ ((hK h10)) rfl ?_
    | refine PureP.mk _ ((hK h10)) rfl ?_
  cbv
  refine CodeP.keep [0, 1, 9, 13, 14] ?_
  refine CodeP.seq (vc_sound hT hm _ ?_)
  cbv
  refine SplitP.mk (fun hs => ?_) (fun hs => ?_)
  · exact .mk (.cons (.eq (.bool rfl)) .nil) rfl
  have h11 : b = true := by simpa using (show (!b) = false from hs)
  clear hs hF hK
  obtain ⟨rfl, rfl⟩ := hx6 h11
  replace hSe := hSe h10 h11
  replace hSe2 := hSe2 h10 h11
  replace hV := hV h10 h11
  replace hV2 := hV2 h10 h11
  replace hW' := hW' h10 h11
  replace hWc' := hWc' h10 h11
  replace hvb := hvb h10 h11
  clear hx6
  refine CodeP.seq (vc_sound hT hm _ ?_)
  cbv
  refine SplitP.mk (fun hs => ?_) (fun hs => ?_)
  · exfalso
    have h3 : ((x8.length : Int) != 2) = true := hs
    rw [hZl] at h3
    cases h3
  clear hs
  refine CodeP.seq (vc_sound hT hm _ ?_)
  cbv
  first
    | refine CallP.pure _ ((hSe _ _)) rfl ?_
    | refine PureP.mk _ ((hSe _ _)) rfl ?_
  cbv
  first
    | refine CallP.pure _ ((hSe2 _ _)) rfl ?_
    | refine PureP.mk _ ((hSe2 _ _)) rfl ?_
  cbv
  refine CodeP.keep [1, 9, 13, 15, 16] ?_
  refine CodeP.seq (vc_sound hT hm _ ?_)
  cbv
  first
    | refine CallP.pure _ ((hV _ _)) rfl ?_
    | refine PureP.mk _ ((hV _ _)) rfl ?_
  cbv
  refine CodeP.keep [9, 13, 15, 16, 17] ?_
  refine CodeP.seq (vc_sound hT hm _ ?_)
  cbv
  first
    | refine CallP.pure _ ((hV2 _ _)) rfl ?_
    | refine PureP.mk _ ((hV2 _ _)) rfl ?_
  cbv
  refine CodeP.keep [13, 15, 16, 17, 19] ?_
  refine CodeP.seq (vc_sound hT hm _ ?_)
  cbv
  obtain ⟨m1, hm1⟩ : ∃ q : Nat, q = xs.length := ⟨_, rfl⟩
  obtain ⟨m2, hm2⟩ : ∃ q : Nat, q = xs2.length := ⟨_, rfl⟩
  refine CodeP.keep [13, 15, 16, 17, 19, 21] ?_
  refine CodeP.loopc hT hm (X := Nat) (fun g => [(21, .int .i64 (.nat g))]) (fun g => g ≤ m1) (fun g => m1 - g) 0 (Nat.zero_le _) (Nat.zero_le _) ?_ rfl ?_
  · (cbv; (repeat' (first | exact SnD.refl _ | exact trivial | exact SnD.nat0 | refine And.intro ?_ ?_)))
  intro i hi
  replace hi : i ≤ m1 := hi
  cbv
  refine SplitP.mk (fun hs => ?_) (fun hs => ?_)
  rotate_left
  · refine CodeP.seq (vc_sound hT hm _ ?_)
    cbv
    refine vc_sound hT hm _ ?_
    cbv
    exact .mk (.cons (.eq (.bool rfl)) .nil) rfl
  have hkn : i < xs.length := by
    have h5 : decide ((i : Int) < (xs.length : Int)) = true := hs
    have := of_decide_eq_true h5
    omega
  clear hs
  refine CodeP.keep [13, 15, 16, 17, 19, 21, 22] ?_
  refine CodeP.loopc hT hm (X := Nat) (fun g => [(22, .int .i64 (.nat g))]) (fun g => g ≤ m2) (fun g => m2 - g) 0 (Nat.zero_le _) (Nat.zero_le _) ?_ rfl ?_
  · (cbv; (repeat' (first | exact SnD.refl _ | exact trivial | exact SnD.nat0 | refine And.intro ?_ ?_)))
  intro k hk
  replace hk : k ≤ m2 := hk
  cbv
  refine SplitP.mk (fun hs => ?_) (fun hs => ?_)
  rotate_left
  · refine BackP.intro (i + 1) (by show i + 1 ≤ m1; omega) (by show m1 - (i + 1) < m1 - i; omega) ⟨?_, HEnt.refl _, rfl⟩
    (cbv; (repeat' (first | exact SnD.refl _ | exact trivial | exact SnD.nat0 | refine And.intro ?_ ?_)))
    exact .inc (by omega)
  have hin := hkn
  clear hkn
  have hkn : k < xs2.length := by
    have h5 : decide ((k : Int) < (xs2.length : Int)) = true := hs
    have := of_decide_eq_true h5
    omega
  clear hs
  refine ElemP.mk (by show (0 : Int) ≤ (i : Int) ∧ (i : Int) < (xs.length : Int); omega) (fun p hp => ?_)
  replace hp : xs[i]? = some p := hp
  cbv
  refine ElemP.mk (by show (0 : Int) ≤ (k : Int) ∧ (k : Int) < (xs2.length : Int); omega) (fun p2 hp2 => ?_)
  replace hp2 : xs2[k]? = some p2 := hp2
  cbv
  refine SplitP.mk (fun hs => ?_) (fun hs => ?_) <;> simp only [BE.neq_t, BE.neq_f, IE.var_d] at hs
  · refine BackP.intro (k + 1) (by show k + 1 ≤ m2; omega) (by show m2 - (k + 1) < m2 - k; omega) ⟨?_, HEnt.refl _, rfl⟩
    (cbv; (repeat' (first | exact SnD.refl _ | exact trivial | exact SnD.nat0 | refine And.intro ?_ ?_)))
    exact .inc (by omega)
  replace hs : (p : Int) = (p2 : Int) := hs
  replace hs := Int.ofNat_inj.mp hs
  subst hs
  have hWj := hW' i k _ hp hp2
  have hUi := hU' i
  have hUk := hU2' k
  have hXj := hWc' (G i) (G2 k)
  obtain ⟨g, hg⟩ : ∃ g, g = G i := ⟨_, rfl⟩
  obtain ⟨g2, hg2⟩ : ∃ g, g = G2 k := ⟨_, rfl⟩
  rw [← hg] at hUi hWj hXj
  rw [← hg2] at hUk hWj hXj
  have hZi := fun z h => (hZg z h).1
  have hZk := fun z h => (hZg2 z h).1
  have hZi2 := fun z h => (hZg z h).2 g
  have hZk2 := fun z h => (hZg2 z h).2 g2
  obtain ⟨pg, hpg⟩ : ∃ p, p = po g := ⟨_, rfl⟩
  obtain ⟨pg2, hpg2⟩ : ∃ p, p = po2 g2 := ⟨_, rfl⟩
  rw [← hpg] at hWj hXj hZi2
  rw [← hpg2] at hWj hXj hZk2
  obtain ⟨wl, hwl⟩ : ∃ b, b = withinL pg2 pg := ⟨_, rfl⟩
  rw [← hwl] at hWj hXj
  subst hWj
  refine DrawP.front 49 (by kernel_rfl) (by kernel_rfl) ?_
  cbv
  refine ElemP.mk (by show (0 : Int) ≤ (i : Int) ∧ (i : Int) < (vw.length : Int); omega) (fun u hu => ?_)
  replace hu : vw[i]? = some u := hu
  obtain ⟨hu1, hu2⟩ := hUi u hu
  obtain ⟨u1, u2, u3, u4, u5, u6⟩ := u
  simp only at hu1
  subst hu1
  cbv
  refine ElemP.mk (by show (0 : Int) ≤ (0 : Int) ∧ (0 : Int) < (x8.length : Int); omega) (fun z hz => ?_)
  replace hz : x8[0]? = some z := hz
  have hz1 := hZi z hz
  have hz3 := hZi2 z hz
  obtain ⟨z1, z2⟩ := z
  simp only at hz1 hz3
  cbv
  refine SplitP.mk (fun hs => ?_) (fun hs => ?_)
  · exfalso
    have h3 := of_decide_eq_true (show decide ((g : Int) ≥ (z2.length : Int)) = true from hs)
    omega
  clear hs
  refine ElemP.mk (by show (0 : Int) ≤ (k : Int) ∧ (k : Int) < (vw2.length : Int); omega) (fun w hw => ?_)
  replace hw : vw2[k]? = some w := hw
  obtain ⟨hw1, hw2⟩ := hUk w hw
  obtain ⟨w1, w2, w3, w4, w5, w6⟩ := w
  simp only at hw1
  subst hw1
  cbv
  refine ElemP.mk (by show (0 : Int) ≤ (1 : Int) ∧ (1 : Int) < (x8.length : Int); omega) (fun zt hzt => ?_)
  replace hzt : x8[1]? = some zt := hzt
  have hzt1 := hZk zt hzt
  have hzt3 := hZk2 zt hzt
  obtain ⟨zt1, zt2⟩ := zt
  simp only at hzt1 hzt3
  cbv
  refine SplitP.mk (fun hs => ?_) (fun hs => ?_)
  · exfalso
    have h3 := of_decide_eq_true (show decide ((g2 : Int) ≥ (zt2.length : Int)) = true from hs)
    omega
  clear hs
  refine ElemP.mk (by show (0 : Int) ≤ (1 : Int) ∧ (1 : Int) < (x8.length : Int); omega) (fun zz hzz => ?_)
  replace hzz : x8[1]? = some zz := hzz
  rw [hzt] at hzz
  cases hzz
  cbv
  refine ElemP.mk (by show (0 : Int) ≤ (k : Int) ∧ (k : Int) < (vw2.length : Int); omega) (fun zz hzz => ?_)
  replace hzz : vw2[k]? = some zz := hzz
  rw [hw] at hzz
  cases hzz
  cbv
  refine ElemP.mk (by show (0 : Int) ≤ (g2 : Int) ∧ (g2 : Int) < (zt2.length : Int); omega) (fun y hy => ?_)
  replace hy : zt2[g2]? = some y := hy
  have hy2 := hzt3 y hy
  obtain ⟨q1, q2, q3⟩ := y
  simp only at hy2
  subst hy2
  cbv
  refine ElemP.mk (by show (0 : Int) ≤ (0 : Int) ∧ (0 : Int) < (x8.length : Int); omega) (fun zz hzz => ?_)
  replace hzz : x8[0]? = some zz := hzz
  rw [hz] at hzz
  cases hzz
  cbv
  refine ElemP.mk (by show (0 : Int) ≤ (i : Int) ∧ (i : Int) < (vw.length : Int); omega) (fun zz hzz => ?_)
  replace hzz : vw[i]? = some zz := hzz
  rw [hu] at hzz
  cases hzz
  cbv
  refine ElemP.mk (by show (0 : Int) ≤ (g : Int) ∧ (g : Int) < (z2.length : Int); omega) (fun y hy => ?_)
  replace hy : z2[g]? = some y := hy
  have hy3 := hz3 y hy
  obtain ⟨p1, p3, p4⟩ := y
  simp only at hy3
  subst hy3
  cbv
  first
    | refine CallP.pure _ ((hXj _ _)) rfl ?_
    | refine PureP.mk _ ((hXj _ _)) rfl ?_
  cbv
  refine SplitP.mk (fun hs => ?_) (fun hs => ?_)
  · cases (show (!true) = true from hs)
  refine BackP.intro (k + 1) (by show k + 1 ≤ m2; omega) (by show m2 - (k + 1) < m2 - k; omega) ⟨?_, HEnt.refl _, rfl⟩
  (cbv; (repeat' (first | exact SnD.refl _ | exact trivial | exact SnD.nat0 | refine And.intro ?_ ?_)))
  exact .inc (by omega)
theorem own : ownKnob Tryd.prog.godebug = none := by kernel_rfl
theorem laidOut : laidOutB Tryd.prog = true := by kernel_rfl
set_option maxRecDepth 100000 in
theorem lifted (os : Os) (started : os.Started) (H : Type) (enc : TypeId × Value → H) :
    ReturnsInHanded {} Tryd.checked os 6 .any (fun w args => (Rows.accountMoreSpec.pre enc Tryd.prog Tryd.f6 [] false w args ∧ laidMetH Tryd.prog laidR w) ∧ sizedMet enc Tryd.prog Tryd.f6 (OpenSpec.ofChange Rows.accountMoreSpec) false w args) (Rows.accountMoreSpec.post enc Tryd.prog Tryd.f6 false true false false) := by
  refine returnsInHanded_of_change_and (C := Tryd.checked) (X := fun w _ => laidMetH Tryd.prog laidR w) (fun _ _ _ hh h => h.of_heap hh) own started (by kernel_rfl) Tryd.func6
    (ChangeSpec.witness_shaped (enc := enc) (C := Tryd.checked) (os := os) (X := fun w _ => laidMetH Tryd.prog laidR w) false (World.doorLaid Tryd.prog 400 os) #[.slice none 0 0, .slice none 0 0, .int .i64 0, .slice none 0 0] 8 rfl (World.shaped_of_RefB (by kernel_rfl) (by kernel_rfl)) (by kernel_rfl) (by kernel_rfl) (by kernel_rfl) (door_met os _)) ?_
  intro W base args ds gs before hval0 hW _ hSz hL _
  have hval : ∀ (j : Nat) t v, Tryd.f6.params[j]? = some t → args[j]? = some v → Value.okWide Tryd.prog W .any base t v := hval0
  have hW' := hW
  obtain ⟨p, q, hA0, hV, rfl, hfz, hnd⟩ := hW
  have hA : DataW.TrodAll enc Tryd.prog W 0 (fun _ => true) true Tryd.f6.params.toList args.toList ds p := hA0
  rw [Tryd.params6] at hA hval
  obtain ⟨v0, vs0, d0, ds0, p0, q0, hargs, rfl, rfl, h0, r0⟩ := trodAll_cons hA
  obtain ⟨v1, vs1, d1, ds1, p1, q1, rfl, rfl, rfl, h1, r1⟩ := trodAll_cons r0
  obtain ⟨v2, vs2, d2, ds2, p2, q2, rfl, rfl, rfl, h2, r2⟩ := trodAll_cons r1
  obtain ⟨v3, vs3, d3, ds3, p3, q3, rfl, rfl, rfl, h3, r3⟩ := trodAll_cons r2
  obtain ⟨rfl, rfl, rfl⟩ := trodAll_nil r3
  obtain rfl : args = #[v0, v1, v2, v3] := by cases args; simp_all
  obtain ⟨rfl, rfl⟩ := trodVars_none hV
  have k0 := h0
  have lt0 : ∀ x ∈ p0, x.block < W.heap.size := by obtain ⟨m, hm⟩ := k0; exact DataW.trod_lt m _ _ _ hm
  obtain ⟨⟨nb0, l0⟩, ⟨ln0, lk0, ll0⟩, rp0⟩ := open_sl (e := 47) (by kernel_rfl) opd_issueds (hval 0 22 v0 rfl rfl) h0
  have k1 := h1
  have lt1 : ∀ x ∈ p1, x.block < W.heap.size := by obtain ⟨m, hm⟩ := k1; exact DataW.trod_lt m _ _ _ hm
  obtain ⟨⟨nb1, l1⟩, ⟨ln1, lk1, ll1⟩, rp1, lx1⟩ := open_slz (e := 3) (by kernel_rfl) opd_ints (hval 1 37 v1 rfl rfl) h1
  have lz1 := lx1 _ _ 1 hSz (by kernel_rfl) rfl
  have k2 := h2
  have lt2 : ∀ x ∈ p2, x.block < W.heap.size := by obtain ⟨m, hm⟩ := k2; exact DataW.trod_lt m _ _ _ hm
  obtain ⟨z2, wf2, rp2⟩ := open_i Tryd.underlying3 (hval 2 3 v2 rfl rfl) h2
  have k3 := h3
  have lt3 : ∀ x ∈ p3, x.block < W.heap.size := by obtain ⟨m, hm⟩ := k3; exact DataW.trod_lt m _ _ _ hm
  obtain ⟨⟨nb3, l3⟩, ⟨ln3, lk3, ll3⟩, rp3⟩ := open_sl (e := 53) (by kernel_rfl) opd_sights (hval 3 24 v3 rfl rfl) h3
  clear hA0 hval0
  refine (Pure.law (main_pure nb0 l0 ln0 lk0 ll0 nb1 l1 ln1 lk1 ll1 lz1 z2 wf2 nb3 l3 ln3 lk3 ll3) (of_laid hL) (lrep_cons rp0 (lrep_cons rp1 (lrep_cons rp2 (lrep_cons rp3 LRep.nil))))).mono fun e W' ⟨he, bel⟩ => ?_
  subst he
  exact ⟨_, rfl, _, _, _, [], _, [], hW', trodAll_mk1 (shut_bool Tryd.underlying4 _), (trodAll_cons_mk (Below.trod laidOut (by kernel_rfl) (of_decide_eq_true (by kernel_rfl)) k0 bel lt0) (trodAll_cons_mk (Below.trod laidOut (by kernel_rfl) (of_decide_eq_true (by kernel_rfl)) k1 bel lt1) (trodAll_cons_mk (Below.trod laidOut (by kernel_rfl) (of_decide_eq_true (by kernel_rfl)) k2 bel lt2) (trodAll_cons_mk (Below.trod laidOut (by kernel_rfl) (of_decide_eq_true (by kernel_rfl)) k3 bel lt3) trodAll_mk0)))), rfl, bel.frame _, fun h => by cases h⟩

theorem over : Rows.accountMoreRow.holds Tryd.pinned (OpenSpec.ofChange Rows.accountMoreSpec) :=
  OpenClaim.holds_of_wide 6 Tryd.f6 rfl rfl rfl rfl rfl rfl rfl ⟨rfl, rfl, rfl, rfl, rfl⟩ rfl rfl rfl rfl rfl (by kernel_rfl) Tryd.func6 (by kernel_rfl)
    (of_decide_eq_true (by kernel_rfl)) (by unfold Func.isWrapper; first | (rw [if_pos (by decide +kernel)]; kernel_rfl) | (rw [if_neg (by decide +kernel)]; exact ⟨rfl, rfl⟩))
    (fun os started H enc _ => lifted os started H enc)
theorem card : Rows.AccountMoreCardSaid :=
  Claim7.holds_tied_plain_at .later [] [.data] true (true, "b72b32de743d826df5b2873f23d602c53803940e87d116771b5e76fb27b1ffe5") false
    over (fun _ h => by cases h) (by kernel_rfl) (fun _ h => by cases h) accountMore_row_tie rfl ⟨rfl, rfl⟩ (by kernel_rfl) rfl
    (fun f fn hf hfn => by
      obtain rfl : f = 6 := Option.some.inj ((show Tryd.prog.funcNamed "testamur/testamurlaw31.AccountMore" = some 6 by kernel_rfl).symm.trans hf) |>.symm
      obtain rfl : fn = Tryd.f6 := (Option.some.inj (Tryd.func6.symm.trans hfn)).symm
      exact ⟨by kernel_rfl, fun j t ht => by
        rw [Tryd.params6] at ht
        have hm : t ∈ [22, 37, 3, 24] := by simpa using Array.mem_of_getElem? ht
        have hall : ([22, 37, 3, 24].all fun u => !Tryd.prog.wantsStandIn u) = true := by kernel_rfl
        exact (show Tryd.prog.wantsStandIn t = false by simpa using List.all_eq_true.1 hall t hm)⟩)
    (by kernel_rfl)
end accountMore
theorem accountMore_holds : Rows.AccountMoreCardSaid := accountMore.card
#print axioms accountMore_holds

