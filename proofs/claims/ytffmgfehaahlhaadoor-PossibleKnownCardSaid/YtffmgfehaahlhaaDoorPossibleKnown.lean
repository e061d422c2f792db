import Derived.Test.YtffmgfehaahlhaaDoorPart5
import Derived.Test.YtffmgfehaahlhaaDoorTie
import Derived.Test.YtffmgfehaahlhaaDoorCards
set_option linter.all false
set_option linter.unusedSimpArgs false
set_option linter.unusedVariables false
set_option linter.unnecessarySimpa false
namespace Go.Proofs.YtffmgfehaahlhaaDoor
open Go.ChangeShapes Go.WideShapes Go.ChangeAt Go.RowKit
namespace possibleKnown
set_option maxRecDepth 100000 in
set_option maxHeartbeats 4000000 in
theorem main_pure (ni : Bool) (I : List IssuedD) (hi1 : ni = true → I = []) (hi2 : ∀ x ∈ I, x.fine) (hi3 : I.length ≤ maxLen) (ns : Bool) (S : List SeenD) (hs1 : ns = true → S = []) (hs2 : ∀ x ∈ S, x.fine) (hs3 : S.length ≤ maxLen) (at_ : BitVec 8) (v : Int) (hv : InR .i64 v) (a : Int) (ha : InR .i64 a) (b : Int) (hb : InR .i64 b) :
    Pure Tryd.prog 8 [.slm 3 (some (.var ni)) IssuedD.c I, .slm 4 (some (.var ns)) SeenD.c S, .int .u8 (.u8 at_), i64 v, i64 a, i64 b] (boolD true) := by
  have hS := sane_pure
  rw [maxLen_eq] at hi3 hs3
  have hF := Few_pure I S (some (.var ni)) (some (.var ns)) hi3 hs3
  obtain ⟨fw, hfw⟩ : ∃ b, b = fewB I S := ⟨_, rfl⟩
  rw [← hfw] at hF
  have hB := fun h : fw = true => few_big (hfw.symm.trans h)
  have hI12' : fw = true → I.length ≤ 12 ∧ S.length ≤ 5 := fun h => (hB h).2.2
  have hflds : fw = true → ∀ x ∈ S, x.fields.length ≤ 16 ∧ x.values.length ≤ 16 := fun h x hx => by
    have h2 := hfw.symm.trans h
    simp only [fewB, Bool.and_eq_true, decide_eq_true_eq, List.all_eq_true] at h2
    exact h2.2.1 x hx
  have e : (boolD true : D) = retD [boolD true] := rfl
  rw [e]
  refine Pure.introC T_ok Tryd.func8 rfl (by kernel_rfl) (rs := [.tmp 12]) rfl (by kernel_rfl) ?_
  generalize hP : Tryd.prog = P at *
  have hT : T.ok P := hP ▸ T_ok
  have hm : P.follows .mixedOrders = true := hP ▸ follows
  unfold Tryd.f8
  dsimp only
  refine CodeP.seq (vc_sound hT hm _ ?_)
  cbv
  refine CodeP.seq (vc_sound hT hm _ ?_)
  cbv
  refine CallP.pure _ hS rfl ?_
  cbv
  refine SplitP.mk (fun hs => ?_) (fun hs => ?_)
  · cases (show (!true) = true from hs)
  clear hs
  have ret1 : ∀ {H : List Bk}, RetP H [.bool (.lit true)] [.bool (.var true)] := .mk (.cons (.eq (.bool rfl)) .nil) rfl
  refine CodeP.seq (vc_sound hT hm _ ?_)
  cbv
  refine CallP.pure _ hF rfl ?_
  cbv
  refine SplitP.mk (fun hs => ret1) (fun hs => ?_)
  have h10 : fw = true := by simpa using (show (!fw) = false from hs)
  clear hs
  refine SplitP.mk (fun hs => ret1) (fun hs => ?_)
  have hS0 : 0 < S.length := by
    have h3 : ((S.length : Int) == 0) = false := hs
    simp at h3
    exact List.length_pos_iff.2 h3
  clear hs
  refine SplitP.mk (fun hs => ret1) (fun hs => ?_)
  have ha0 : 0 ≤ a := by
    have h3 : decide (a < 0) = false := hs
    have := of_decide_eq_false h3
    omega
  clear hs
  obtain ⟨k, hk⟩ : ∃ k : Nat, k = at_.toNat % S.length := ⟨_, rfl⟩
  have hkS : k < S.length := by rw [hk]; exact Nat.mod_lt _ hS0
  obtain ⟨s, hsk⟩ : ∃ s, S[k]? = some s := ⟨_, List.getElem?_eq_getElem hkS⟩
  have hsl := hflds h10 s (List.mem_of_getElem? hsk)
  have hI12 := hI12' h10
  obtain ⟨fl, hfl⟩ : ∃ x, x = fld s := ⟨_, rfl⟩
  have hfl0 : s.fields = [] → fl = 0 := fun h => by rw [hfl]; unfold fld; rw [h]; rfl
  have hfl1 : ∀ x, s.fields[s.fields.length - 1]? = some x → fl = IntKind.i64.wrap (x + 1) := fun x h => by
    rw [hfl]
    unfold fld
    rw [List.getLast?_eq_getElem?, h]
  refine CodeP.seqTo [(0, .slm 3 (some (.var ni)) IssuedD.c I), (1, .slm 4 (some (.var ns)) SeenD.c S), (3, i64 v), (4, i64 a), (5, i64 b), (13, .int .i64 (.nat k))] [] (Nat.zero_le _) (vc_sound hT hm _ ?_) ?_
  · cbv
    refine ReqP.mk (by show ¬ (S.length : Int) = 0; omega) (fun _ => ?_)
    refine ⟨⟨.refl _, .refl _, .refl _, .refl _, .refl _, .eq (.int ?_), trivial⟩, trivial, rfl⟩
    show Int.tmod (IntKind.i64.wrap (at_.toNat : Int)) (S.length : Int) = (k : Int)
    have := at_.isLt
    rw [w64 (by omega) (by omega), hk, Int.tmod_eq_emod_of_nonneg (by omega)]
    exact (Int.natCast_emod _ _).symm
  refine CodeP.seqTo [(0, .slm 3 (some (.var ni)) IssuedD.c I), (1, .slm 4 (some (.var ns)) SeenD.c S), (3, i64 v), (4, i64 a), (5, i64 b), (13, .int .i64 (.nat k)), (14, .osl 4 0 2 (.lit false) (.lit 0) (.len S))] [.row 28 4 2 (.map SeenD.c S)] (Nat.zero_le _) (vc_sound hT hm _ ?_) ?_
  · cbv
    refine ReqP.mk ⟨by show (S.length : Int) = (((RE.map SeenD.c S).den.length : Nat) : Int); simp [RE.den], rfl, map_cells (fun _ => rfl), (by intro e he; cases he), by show (0 : Int) + (S.length : Int) ≤ _; omega, by show ((0 : Int) + (S.length : Int)) * ((64 : Nat) : Int) ≤ _; omega⟩ (fun _ => ?_)
    exact ⟨⟨.refl _, .refl _, .refl _, .refl _, .refl _, .refl _, .refl _, trivial⟩, ⟨.row (by simp [RE.den]), trivial⟩, rfl⟩
  obtain ⟨z1, z2, z3, z4, z5, z6⟩ := s
  replace hfl0 : z4 = [] → fl = 0 := hfl0
  replace hfl1 : ∀ x, z4[z4.length - 1]? = some x → fl = IntKind.i64.wrap (x + 1) := hfl1
  replace hsl : z4.length ≤ 16 ∧ z6.length ≤ 16 := hsl
  have hlast : ∀ l, z4.getLast? = some l → z4[z4.length - 1]? = some l := fun l h => by rw [← List.getLast?_eq_getElem?]; exact h
  refine CodeP.seq (vc_sound hT hm _ ?_)
  cbv
  obtain ⟨okF, hokF⟩ : ∃ p : Prop, p = ∀ l, z4.getLast? = some l → l < 11 := ⟨_, rfl⟩
  refine CodeP.seqW (fun _ => okF) [(0, .slm 3 (some (.var ni)) IssuedD.c I), (1, .slm 4 (some (.var ns)) SeenD.c S), (3, i64 v), (4, i64 a), (5, i64 b), (13, .int .i64 (.nat k)), (14, .osl 4 0 2 (.lit false) (.lit 0) (.len S)), (15, i64 fl)] [.row 28 4 2 (.map SeenD.c S)] (Nat.zero_le _) (vc_sound hT hm _ ?_) ?_
  · cbv
    refine ReqP.mk (by show (0 : Int) ≤ (k : Int) ∧ (k : Int) < (S.length : Int); omega) (fun _ => ?_)
    refine ElemP.mk (by show (0 : Int) ≤ (k : Int) ∧ (k : Int) < (S.length : Int); omega) (fun x hx => ?_)
    replace hx : S[k]? = some x := hx
    rw [hsk] at hx
    cases hx
    cbv
    refine SplitP.mk (fun hs => ?_) (fun hs => ?_)
    · have h0 : 0 < z4.length := by
        have h3 : decide ((z4.length : Int) > 0) = true := hs
        have := of_decide_eq_true h3
        omega
      refine ReqP.mk (by show (0 : Int) ≤ (k : Int) ∧ (k : Int) < (S.length : Int); omega) (fun _ => ?_)
      refine ElemP.mk (by show (0 : Int) ≤ (k : Int) ∧ (k : Int) < (S.length : Int); omega) (fun x hx => ?_)
      replace hx : S[k]? = some x := hx
      rw [hsk] at hx
      cases hx
      cbv
      have hwk : IntKind.i64.wrap ((z4.length : Int) - 1) = ((z4.length - 1 : Nat) : Int) := by rw [w64 (by omega) (by omega)]; omega
      refine ElemP.mk (by show 0 ≤ IntKind.i64.wrap ((z4.length : Int) - 1) ∧ IntKind.i64.wrap ((z4.length : Int) - 1) < (z4.length : Int); rw [hwk]; omega) (fun y hy => ?_)
      replace hy : z4[(IntKind.i64.wrap ((z4.length : Int) - 1)).toNat]? = some y := hy
      rw [hwk, Int.toNat_natCast] at hy
      cbv
      refine SplitP.mk (fun hs => ret1) (fun hs => ?_)
      have hy11 : y < 11 := by
        have h3 : decide (y ≥ 11) = false := hs
        have := of_decide_eq_false h3
        omega
      refine ⟨(by rw [hokF]; intro l hl; have := hlast l hl; rw [hy] at this; cases this; exact hy11), ⟨.refl _, .refl _, .refl _, .refl _, .refl _, .refl _, .refl _, .eq (.int ?_), trivial⟩, ⟨.refl _, trivial⟩, rfl⟩
      exact (hfl1 y hy).symm
    · have h0 : z4 = [] := by
        have h3 : decide ((z4.length : Int) > 0) = false := hs
        have := of_decide_eq_false h3
        exact List.length_eq_zero_iff.1 (by omega)
      refine ⟨(by rw [hokF, h0]; intro l hl; cases hl), ⟨.refl _, .refl _, .refl _, .refl _, .refl _, .refl _, .refl _, .eq (.int (hfl0 h0).symm), trivial⟩, ⟨.refl _, trivial⟩, rfl⟩
  intro hok
  refine CodeP.seq (vc_sound hT hm _ ?_)
  cbv
  refine ReqP.mk (by show (0 : Int) ≤ (k : Int) ∧ (k : Int) < (S.length : Int); omega) (fun _ => ?_)
  refine ElemP.mk (by show (0 : Int) ≤ (k : Int) ∧ (k : Int) < (S.length : Int); omega) (fun x hx => ?_)
  replace hx : S[k]? = some x := hx
  rw [hsk] at hx
  cases hx
  cbv
  refine ReqP.mk ⟨by show (z4.length : Int) = (((RE.map intC z4).den.length : Nat) : Int); simp [RE.den], rfl, map_cells (fun _ => rfl), (by intro e he; cases he), by show (0 : Int) + (z4.length : Int) ≤ _; omega, by show ((0 : Int) + (z4.length : Int)) * ((8 : Nat) : Int) ≤ _; omega⟩ (fun _ => ?_)
  obtain ⟨nf, hnf⟩ : ∃ l, l = z4 ++ [fl] := ⟨_, rfl⟩
  obtain ⟨nv, hnv⟩ : ∃ l, l = z6 ++ [v] := ⟨_, rfl⟩
  obtain ⟨S1, hS1⟩ : ∃ l, l = S.set k ⟨z1, z2, false, nf, z5, z6⟩ := ⟨_, rfl⟩
  have hS1l : S1.length = S.length := by rw [hS1, List.length_set]
  have hS1k : S1[k]? = some ⟨z1, z2, false, nf, z5, z6⟩ := by rw [hS1, List.getElem?_set, if_pos rfl, if_pos hkS]
  obtain ⟨M, hM⟩ : ∃ l, l = S.set k (knowS v ⟨z1, z2, z3, z4, z5, z6⟩) := ⟨_, rfl⟩
  have hM1 : S1.set k ⟨z1, z2, false, nf, false, nv⟩ = M := by
    rw [hM, hS1, List.set_set, hnf, hnv, hfl]
    rfl
  refine ReqP.mk ⟨rfl, by show (z4.length : Int) = _; simp [RE.den], (by intro e he; simp only [RE.den, List.mem_singleton] at he; subst he; rfl), (by intro e he; simp only [RE.den, List.nil_append, List.mem_map] at he; obtain ⟨x, _, rfl⟩ := he; rfl), by show (z4.length : Int) + 1 ≤ _; omega, by show ((z4.length : Int) + 1) * ((8 : Nat) : Int) ≤ _; omega⟩ (fun _ => ?_)
  refine ReqP.mk (by show (0 : Int) ≤ (k : Int) ∧ (k : Int) < (S.length : Int); omega) (fun _ => ?_)
  refine OpsP.pre hT [(0, .slm 3 (some (.var ni)) IssuedD.c I), (1, .slm 4 (some (.var ns)) SeenD.c S), (3, i64 v), (4, i64 a), (5, i64 b), (13, .int .i64 (.nat k)), (14, .osl 4 0 2 (.lit false) (.lit 0) (.len S)), (15, i64 fl), (83, .slm 1 (some (.var false)) intC nf), (85, .rp 4 0 2 (.nat k) 2)] [.row 28 4 2 (.map SeenD.c S)]
    ⟨⟨.refl _, .refl _, .refl _, .refl _, .refl _, .refl _, .refl _, .refl _, .slm rfl (.inl ⟨_, _, rfl, by simp [RE.den, hnf]⟩) rfl (by simp [IE.den, hnf]) (fun e h => by cases h; rfl), .refl _, trivial⟩, ⟨.refl _, trivial⟩, rfl⟩ (Nat.zero_le _) ?_
  cbv
  refine ReqP.mk (by show (IE.nat k).den.toNat < (S.map SeenD.c).length; rw [List.length_map]; simpa [IE.den] using hkS) (fun _ => ?_)
  refine CodeP.pre [(0, .slm 3 (some (.var ni)) IssuedD.c I), (1, .slm 4 (some (.var ns)) SeenD.c S), (3, i64 v), (4, i64 a), (5, i64 b), (13, .int .i64 (.nat k)), (14, .osl 4 0 2 (.lit false) (.lit 0) (.len S)), (15, i64 fl)] [.row 28 4 2 (.map SeenD.c S1)]
    ⟨⟨.refl _, .refl _, .refl _, .refl _, .refl _, .refl _, .refl _, .refl _, trivial⟩, ⟨.row (upd_map (s1 := ⟨z1, z2, false, nf, z5, z6⟩) (by simp [IE.den]) hsk rfl hS1), trivial⟩, rfl⟩ (Nat.zero_le _) ?_
  refine CodeP.seq (vc_sound hT hm _ ?_)
  cbv
  refine ReqP.mk (by show (0 : Int) ≤ (k : Int) ∧ (k : Int) < (S.length : Int); omega) (fun _ => ?_)
  refine ElemP.mk (by show (0 : Int) ≤ (k : Int) ∧ (k : Int) < (S1.length : Int); rw [hS1l]; omega) (fun x hx => ?_)
  replace hx : S1[k]? = some x := hx
  rw [hS1k] at hx
  cases hx
  cbv
  refine ReqP.mk ⟨by show (z6.length : Int) = (((RE.map intC z6).den.length : Nat) : Int); simp [RE.den], rfl, map_cells (fun _ => rfl), (by intro e he; cases he), by show (0 : Int) + (z6.length : Int) ≤ _; omega, by show ((0 : Int) + (z6.length : Int)) * ((8 : Nat) : Int) ≤ _; omega⟩ (fun _ => ?_)
  refine ReqP.mk ⟨rfl, by show (z6.length : Int) = _; simp [RE.den], (by intro e he; simp only [RE.den, List.mem_singleton] at he; subst he; rfl), (by intro e he; simp only [RE.den, List.nil_append, List.mem_map] at he; obtain ⟨x, _, rfl⟩ := he; rfl), by show (z6.length : Int) + 1 ≤ _; omega, by show ((z6.length : Int) + 1) * ((8 : Nat) : Int) ≤ _; omega⟩ (fun _ => ?_)
  refine ReqP.mk (by show (0 : Int) ≤ (k : Int) ∧ (k : Int) < (S.length : Int); omega) (fun _ => ?_)
  refine OpsP.pre hT [(0, .slm 3 (some (.var ni)) IssuedD.c I), (1, .slm 4 (some (.var ns)) SeenD.c S), (3, i64 v), (4, i64 a), (5, i64 b), (13, .int .i64 (.nat k)), (14, .osl 4 0 2 (.lit false) (.lit 0) (.len S)), (15, i64 fl), (97, .slm 1 (some (.var false)) intC nv), (99, .rp 4 0 2 (.nat k) 3)] [.row 28 4 2 (.map SeenD.c S1)]
    ⟨⟨.refl _, .refl _, .refl _, .refl _, .refl _, .refl _, .refl _, .refl _, .slm rfl (.inl ⟨_, _, rfl, by simp [RE.den, hnv]⟩) rfl (by simp [IE.den, hnv]) (fun e h => by cases h; rfl), .refl _, trivial⟩, ⟨.refl _, trivial⟩, rfl⟩ (Nat.zero_le _) ?_
  cbv
  refine ReqP.mk (by show (IE.nat k).den.toNat < (S1.map SeenD.c).length; rw [List.length_map]; simpa [IE.den, hS1l] using hkS) (fun _ => ?_)
  refine CodeP.pre [(0, .slm 3 (some (.var ni)) IssuedD.c I), (1, .slm 4 (some (.var ns)) SeenD.c S), (3, i64 v), (4, i64 a), (5, i64 b), (13, .int .i64 (.nat k)), (14, .slm 4 none SeenD.c M)] []
    ⟨⟨.refl _, .refl _, .refl _, .refl _, .refl _, .refl _, .slm rfl (.inl ⟨_, _, rfl, upd_map (s1 := ⟨z1, z2, false, nf, false, nv⟩) (by simp [IE.den]) hS1k rfl hM1.symm⟩) rfl (by simp only [IE.den]; rw [hM, List.length_set]) (fun e h => by cases h), trivial⟩, trivial, rfl⟩ (Nat.zero_le _) ?_
  clear hS1 hS1l hS1k hM1 hnf hnv hfl hfl0 hfl1 hlast
  obtain ⟨tj, htj⟩ : ∃ f : Nat → List SeenD, f = fun i => (S.take i).map (joinS a b) ++ S.drop i := ⟨_, rfl⟩
  have tj0 : S = tj 0 := by rw [htj]; simp
  have tjl : ∀ i, (tj i).length = S.length := fun i => by rw [htj]; simp; omega
  have tjk : ∀ i x, S[i]? = some x → (tj i)[i]? = some x ∧ tj (i + 1) = (tj i).set i (joinS a b x) := fun i x hx => by
    have hi := (List.getElem?_eq_some_iff.1 hx).1
    rw [htj]
    have hl : ((S.take i).map (joinS a b)).length = i := by simp; omega
    refine ⟨?_, ?_⟩
    · rw [List.getElem?_append_right (by omega), hl, Nat.sub_self, drop_cons hx]
      rfl
    · simp only
      rw [List.set_append_right _ _ (by omega), hl, Nat.sub_self, drop_cons hx, List.take_add_one, hx]
      simp
  obtain ⟨J, hJ⟩ : ∃ l, l = S.map (joinS a b) := ⟨_, rfl⟩
  obtain ⟨nS, hnS⟩ : ∃ n : Nat, n = S.length := ⟨_, rfl⟩
  have tje : tj nS = J := by rw [htj, hnS, hJ]; simp
  clear htj
  refine CodeP.seqTo [(0, .slm 3 (some (.var ni)) IssuedD.c I), (1, .slm 4 (some (.var ns)) SeenD.c S), (3, i64 v), (4, i64 a), (5, i64 b), (13, .int .i64 (.nat k)), (14, .slm 4 none SeenD.c M), (17, .osl 4 0 2 (.lit false) (.lit 0) (.len S))] [.row 28 4 2 (.map SeenD.c (tj 0))] (Nat.zero_le _) (vc_sound hT hm _ ?_) ?_
  · cbv
    refine ReqP.mk ⟨by show (S.length : Int) = (((RE.map SeenD.c S).den.length : Nat) : Int); simp [RE.den], rfl, map_cells (fun _ => rfl), (by intro e he; cases he), by show (0 : Int) + (S.length : Int) ≤ _; omega, by show ((0 : Int) + (S.length : Int)) * ((64 : Nat) : Int) ≤ _; omega⟩ (fun _ => ?_)
    exact ⟨⟨.refl _, .refl _, .refl _, .refl _, .refl _, .refl _, .refl _, .refl _, trivial⟩, ⟨.row (by rw [← tj0]; simp [RE.den]), trivial⟩, rfl⟩
  refine CodeP.seq ?_
  refine CodeP.seq (vc_sound hT hm _ ?_)
  cbv
  refine vc_sound hT hm _ ?_
  cbv
  refine CodeP.loopm hT hm (X := Nat) (fun i => [(105, .int .i64 (.nat i))]) (fun i => [.row 28 4 2 (.map SeenD.c (tj i))]) (fun i => i ≤ nS) (fun i => nS - i) 0 (Nat.zero_le _) (fun _ => Nat.zero_le _) ⟨?_, ⟨.refl _, trivial⟩, rfl⟩ ?_
  · (cbv; (repeat' (first | exact SnD.refl _ | exact trivial | exact SnD.nat0 | refine And.intro ?_ ?_)))
  intro i hi
  cbv
  refine SplitP.mk (fun hs => ?_) (fun hs => ?_)
  · have hkn : i < S.length := by
      have h5 : decide ((i : Int) < (S.length : Int)) = true := hs
      have := of_decide_eq_true h5
      omega
    clear hs
    obtain ⟨x, hx0⟩ : ∃ x, S[i]? = some x := ⟨_, List.getElem?_eq_getElem hkn⟩
    obtain ⟨t1, t2⟩ := tjk i x hx0
    have t3 := tjl i
    obtain ⟨y1, y2, y3, y4, y5, y6⟩ := x
    refine ReqP.mk (by show (0 : Int) ≤ (i : Int) ∧ (i : Int) < (S.length : Int); omega) (fun _ => ?_)
    refine ElemP.mk (by show (0 : Int) ≤ (i : Int) ∧ (i : Int) < ((tj i).length : Int); omega) (fun x hx => ?_)
    replace hx : (tj i)[i]? = some x := hx
    rw [t1] at hx
    cases hx
    cbv
    refine SplitP.mk (fun hs => ?_) (fun hs => ?_)
    · have h3 : y1 = b := by simpa using (show (y1 == b) = true from hs)
      refine ReqP.mk (by show (0 : Int) ≤ (i : Int) ∧ (i : Int) < (S.length : Int); omega) (fun _ => ?_)
      refine ReqP.mk (by show (IE.nat i).den.toNat < ((tj i).map SeenD.c).length; rw [List.length_map, t3]; simpa [IE.den] using hkn) (fun _ => ?_)
      refine BackP.intro (i + 1) (by omega) (by show nS - (i + 1) < nS - i; omega) ⟨?_, ⟨.row (upd_map (s1 := ⟨a, y2, y3, y4, y5, y6⟩) (by simp [IE.den]) t1 rfl (by rw [t2]; unfold joinS; rw [if_pos h3])), trivial⟩, rfl⟩
      (cbv; (repeat' (first | exact SnD.refl _ | exact trivial | exact SnD.nat0 | refine And.intro ?_ ?_)))
      exact .inc (by omega)
    · have h3 : ¬ y1 = b := by simpa using (show (y1 == b) = false from hs)
      have h4 : tj (i + 1) = tj i := by
        rw [t2]
        unfold joinS
        rw [if_neg h3]
        refine List.ext_getElem? fun q => ?_
        rw [set_get t1]
        split
        · next e => rw [e, t1]
        · rfl
      refine BackP.intro (i + 1) (by omega) (by show nS - (i + 1) < nS - i; omega) ⟨?_, ⟨.row (by rw [h4]), trivial⟩, rfl⟩
      (cbv; (repeat' (first | exact SnD.refl _ | exact trivial | exact SnD.nat0 | refine And.intro ?_ ?_)))
      exact .inc (by omega)
  have hie : i = nS := by
    have h5 : decide ((i : Int) < (S.length : Int)) = false := hs
    have := of_decide_eq_false h5
    omega
  subst hie
  refine CodeP.pre [(0, .slm 3 (some (.var ni)) IssuedD.c I), (1, .slm 4 (some (.var ns)) SeenD.c S), (3, i64 v), (4, i64 a), (5, i64 b), (13, .int .i64 (.nat k)), (14, .slm 4 none SeenD.c M), (17, .slm 4 none SeenD.c J)] []
    ⟨⟨.refl _, .refl _, .refl _, .refl _, .refl _, .refl _, .refl _, .slm rfl (.inl ⟨_, _, rfl, by simp [RE.den, tje]⟩) rfl (by simp only [IE.den]; rw [hJ, List.length_map]) (fun e h => by cases h), trivial⟩, trivial, rfl⟩ (Nat.zero_le _) ?_
  clear tj0 tjl tjk tje hs hi
  have hBI := (hB h10).1
  have hBS := (hB h10).2.1
  have hBM : BigS M := by
    have q := hBS
    refine ⟨by rw [hM, List.length_set]; exact q.len, fun t ht => ?_, fun t ht => ?_⟩
    · rw [hM] at ht
      rcases List.mem_or_eq_of_mem_set ht with h | h
      · exact q.fields t h
      · subst h
        show (z4 ++ [_]).length < _
        simp; omega
    · rw [hM] at ht
      rcases List.mem_or_eq_of_mem_set ht with h | h
      · exact q.vals t h
      · subst h
        show (z6 ++ [_]).length < _
        simp; omega
  have hBJ : BigS J := by
    have q := hBS
    have hj : ∀ t ∈ J, ∃ s ∈ S, t.fields = s.fields ∧ t.values = s.values := fun t ht => by
      rw [hJ] at ht
      obtain ⟨s, hs, rfl⟩ := List.mem_map.1 ht
      refine ⟨s, hs, ?_⟩
      unfold joinS
      split <;> exact ⟨rfl, rfl⟩
    refine ⟨by rw [hJ, List.length_map]; exact q.len, fun t ht => ?_, fun t ht => ?_⟩
    · obtain ⟨s, hs, e1, _⟩ := hj t ht
      rw [e1]; exact q.fields s hs
    · obtain ⟨s, hs, _, e1⟩ := hj t ht
      rw [e1]; exact q.vals s hs
  have hlen : ∀ (R : List SeenD) (g : Int), (ofA I R g).length < 9223372036854775807 := fun R g => by
    have h3 := List.length_filter_le (fun p => !(firstR I R g p R.length []).isNone) (peopleL I)
    have h4 := people_len I I.length
    rw [List.take_of_length_le (Nat.le_refl _)] at h4
    unfold ofA ofR
    split
    · omega
    · simp
  obtain ⟨nw, hnw⟩ : ∃ f : Int → Int, f = fun gr => if gr = b then a else gr := ⟨_, rfl⟩
  obtain ⟨l1, hl1⟩ : ∃ f : Int → List Int, f = fun gr => ofA I S gr := ⟨_, rfl⟩
  obtain ⟨l2, hl2⟩ : ∃ f : Int → List Int, f = fun gr => ofA I M gr := ⟨_, rfl⟩
  obtain ⟨l3, hl3⟩ : ∃ f : Int → List Int, f = fun gr => ofA I J (nw gr) := ⟨_, rfl⟩
  obtain ⟨e1, he1⟩ : ∃ f : Int → Int, f = fun gr => if okOf I S gr then 0 else 300 := ⟨_, rfl⟩
  obtain ⟨e2, he2⟩ : ∃ f : Int → Int, f = fun gr => if okOf I M gr then 0 else 300 := ⟨_, rfl⟩
  obtain ⟨e3, he3⟩ : ∃ f : Int → Int, f = fun gr => if okOf I J (nw gr) then 0 else 300 := ⟨_, rfl⟩
  obtain ⟨n1, hn1⟩ : ∃ f : Int → Bool, f = fun gr => decide ((l1 gr).length = 0) := ⟨_, rfl⟩
  obtain ⟨n2, hn2⟩ : ∃ f : Int → Bool, f = fun gr => decide ((l2 gr).length = 0) := ⟨_, rfl⟩
  obtain ⟨n3, hn3⟩ : ∃ f : Int → Bool, f = fun gr => decide ((l3 gr).length = 0) := ⟨_, rfl⟩
  obtain ⟨w2, hw2⟩ : ∃ f : Int → Bool, f = fun gr => withinB (l2 gr) (l1 gr) := ⟨_, rfl⟩
  obtain ⟨w3, hw3⟩ : ∃ f : Int → Bool, f = fun gr => withinB (l3 gr) (l1 gr) := ⟨_, rfl⟩
  have hO1 : ∀ gr, Pure P 18 [.slm 3 (some (.var ni)) IssuedD.c I, .slm 4 (some (.var ns)) SeenD.c S, i64 gr] (.tup [.slm 1 (some (.var (n1 gr))) intC (l1 gr), i64 (e1 gr)]) := fun gr => by
    have h := Of_pure I S gr (some (.var ni)) (some (.var ns)) hBI hBS
    rw [hn1, hl1, he1, ← hP]
    exact h
  have hO2 : ∀ gr, Pure P 18 [.slm 3 (some (.var ni)) IssuedD.c I, .slm 4 none SeenD.c M, i64 gr] (.tup [.slm 1 (some (.var (n2 gr))) intC (l2 gr), i64 (e2 gr)]) := fun gr => by
    have h := Of_pure I M gr (some (.var ni)) none hBI hBM
    rw [hn2, hl2, he2, ← hP]
    exact h
  have hO3 : ∀ gr, Pure P 18 [.slm 3 (some (.var ni)) IssuedD.c I, .slm 4 none SeenD.c J, i64 (nw gr)] (.tup [.slm 1 (some (.var (n3 gr))) intC (l3 gr), i64 (e3 gr)]) := fun gr => by
    have h := Of_pure I J (nw gr) (some (.var ni)) none hBI hBJ
    rw [hn3, hl3, he3, ← hP]
    exact h
  have hW2 : ∀ gr na nb, Pure P 26 [.slm 1 na intC (l2 gr), .slm 1 nb intC (l1 gr)] (boolD (w2 gr)) := fun gr na nb => by
    have h := within_pure (ofA I M gr) (ofA I S gr) na nb (hlen _ _) (hlen _ _)
    rw [hw2, hl2, hl1, ← hP]
    exact h
  have hW3 : ∀ gr na nb, Pure P 26 [.slm 1 na intC (l3 gr), .slm 1 nb intC (l1 gr)] (boolD (w3 gr)) := fun gr na nb => by
    have h := within_pure (ofA I J (nw gr)) (ofA I S gr) na nb (hlen _ _) (hlen _ _)
    rw [hw3, hl3, hl1, ← hP]
    exact h
  have hok' : ∀ l, z4.getLast? = some l → l < 11 := by rw [hokF] at hok; exact hok
  have K2 : ∀ gr, (e1 gr != 0) = false → ((e2 gr != 0) = true → valB v = false) ∧ ((e2 gr == 0) = true → w2 gr = true) := fun gr h => by
    have ho : okOf I S gr = true := by
      rw [he1] at h
      simp only at h
      cases hq : okOf I S gr with
      | true => rfl
      | false => rw [hq] at h; cases h
    constructor
    · intro h2
      cases hv : valB v with
      | false => rfl
      | true =>
        have := ok_know (v := v) hsk hok' ho hv
        rw [he2, hM] at h2
        simp only at h2
        rw [this] at h2
        cases h2
    · intro h2
      have ho2 : okOf I M gr = true := by
        rw [he2] at h2
        simp only at h2
        cases hq : okOf I M gr with
        | true => rfl
        | false => rw [hq] at h2; cases h2
      rw [hw2, hl1, hl2]
      simp only
      rw [hM] at ho2 ⊢
      exact of_know hsk ho ho2
  have K3 : ∀ gr, (e1 gr != 0) = false → (e3 gr != 0) = false ∧ w3 gr = true := fun gr h => by
    have ho : okOf I S gr = true := by
      rw [he1] at h
      simp only at h
      cases hq : okOf I S gr with
      | true => rfl
      | false => rw [hq] at h; cases h
    have h3 := ok_join (b := b) ha0 ho
    have h4 := of_join (b := b) ha0 ho
    rw [he3, hw3, hl3, hl1, hnw, hJ]
    simp only
    rw [h3]
    exact ⟨rfl, h4⟩
  have hnwT : ∀ gr, gr = b → nw gr = a := fun gr h => by rw [hnw]; simp [h]
  have hnwF : ∀ gr, ¬ gr = b → nw gr = gr := fun gr h => by rw [hnw]; simp [h]
  obtain ⟨gs, hgs⟩ : ∃ l : List Int, l = [z1, a] := ⟨_, rfl⟩
  have hgl : gs.length = 2 := by rw [hgs]; rfl
  clear hBM hBJ hBI hBS hnw hl1 hl2 hl3 he1 he2 he3 hn1 hn2 hn3 hw2 hw3 hlen hB hF hflds hI12' hok hok' hokF hM hJ
  refine CodeP.seq ?_
  refine CodeP.seqTo [(0, .slm 3 (some (.var ni)) IssuedD.c I), (1, .slm 4 (some (.var ns)) SeenD.c S), (3, i64 v), (4, i64 a), (5, i64 b), (14, .slm 4 none SeenD.c M), (17, .slm 4 none SeenD.c J), (127, .slm 1 none intC gs), (128, .int .i64 (.len gs)), (129, .int .i64 (.nat 0))] [] (Nat.zero_le _) (vc_sound hT hm _ ?_) ?_
  · cbv
    refine ElemP.mk (by show (0 : Int) ≤ (k : Int) ∧ (k : Int) < (S.length : Int); omega) (fun x hx => ?_)
    replace hx : S[k]? = some x := hx
    rw [hsk] at hx
    cases hx
    cbv
    exact ⟨⟨.refl _, .refl _, .refl _, .refl _, .refl _, .refl _, .refl _, .eq (.sll (by rw [hgs]; rfl) (fun e h => by cases h)), .eq (.int (by simp only [IE.den]; rw [hgl]; rfl)), .eq (.int rfl), trivial⟩, trivial, rfl⟩
  refine CodeP.block ?_
  refine CodeP.loopP (X := Nat) (fun i => [(0, .slm 3 (some (.var ni)) IssuedD.c I), (1, .slm 4 (some (.var ns)) SeenD.c S), (3, i64 v), (4, i64 a), (5, i64 b), (14, .slm 4 none SeenD.c M), (17, .slm 4 none SeenD.c J), (127, .slm 1 none intC gs), (128, .int .i64 (.len gs)), (129, .int .i64 (.nat i))]) (fun _ => []) (fun i => i ≤ 2) (fun i => 2 - i) 0 (Nat.zero_le _) (fun _ => Nat.zero_le _) ⟨⟨.refl _, .refl _, .refl _, .refl _, .refl _, .refl _, .refl _, .refl _, .refl _, .refl _, trivial⟩, trivial, rfl⟩ ?_
  intro i hi
  refine CodeP.seq (vc_sound hT hm _ ?_)
  cbv
  refine CodeP.seq (vc_sound hT hm _ ?_)
  cbv
  refine SplitP.mk (fun hs => ?_) (fun hs => ?_)
  · have hkn : i < gs.length := by
      have h5 : decide ((i : Int) < (gs.length : Int)) = true := hs
      have := of_decide_eq_true h5
      omega
    clear hs
    obtain ⟨gr, hgr⟩ : ∃ x, gs[i]? = some x := ⟨_, List.getElem?_eq_getElem hkn⟩
    have k2 := K2 gr
    have k3 := K3 gr
    refine CodeP.seqTo [(0, .slm 3 (some (.var ni)) IssuedD.c I), (1, .slm 4 (some (.var ns)) SeenD.c S), (3, i64 v), (4, i64 a), (5, i64 b), (14, .slm 4 none SeenD.c M), (17, .slm 4 none SeenD.c J), (127, .slm 1 none intC gs), (128, .int .i64 (.len gs)), (129, .int .i64 (.nat i))] [] (Nat.zero_le _) (CodeP.block ?_) ?_
    · refine CodeP.seq (vc_sound hT hm _ ?_)
      cbv
      refine ElemP.mk (by show (0 : Int) ≤ (i : Int) ∧ (i : Int) < (gs.length : Int); omega) (fun x hx => ?_)
      replace hx : gs[i]? = some x := hx
      rw [hgr] at hx
      cases hx
      cbv
      refine CodeP.seq (vc_sound hT hm _ ?_)
      cbv
      refine CallP.pure _ (hO1 gr) rfl ?_
      cbv
      refine CodeP.seq (vc_sound hT hm _ ?_)
      cbv
      refine SplitP.mk (fun hs => ?_) (fun hs => ?_)
      · exact ⟨⟨.refl _, .refl _, .refl _, .refl _, .refl _, .refl _, .refl _, .refl _, .refl _, .refl _, trivial⟩, trivial, rfl⟩
      have q2 := k2 hs
      have q3 := k3 hs
      clear hs k2 k3
      refine CodeP.seq (vc_sound hT hm _ ?_)
      cbv
      refine CallP.pure _ (hO2 gr) rfl ?_
      cbv
      refine CodeP.seq (vc_sound hT hm _ ?_)
      cbv
      refine CodeP.seqTo [(0, .slm 3 (some (.var ni)) IssuedD.c I), (1, .slm 4 (some (.var ns)) SeenD.c S), (3, i64 v), (4, i64 a), (5, i64 b), (14, .slm 4 none SeenD.c M), (17, .slm 4 none SeenD.c J), (127, .slm 1 none intC gs), (128, .int .i64 (.len gs)), (129, .int .i64 (.nat i)), (20, i64 gr), (21, .slm 1 (some (.var (n1 gr))) intC (l1 gr)), (23, .slm 1 (some (.var (n2 gr))) intC (l2 gr)), (24, i64 (e2 gr)), (25, i64 (nw gr))] [] (Nat.zero_le _) (vc_sound hT hm _ ?_) ?_
      · cbv
        refine SplitP.mk (fun hs => ?_) (fun hs => ?_)
        · have h3 : gr = b := by simpa using (show (gr == b) = true from hs)
          exact ⟨⟨.refl _, .refl _, .refl _, .refl _, .refl _, .refl _, .refl _, .refl _, .refl _, .refl _, .refl _, .refl _, .refl _, .refl _, .eq (.int (hnwT gr h3).symm), trivial⟩, trivial, rfl⟩
        · have h3 : ¬ gr = b := by simpa using (show (gr == b) = false from hs)
          exact ⟨⟨.refl _, .refl _, .refl _, .refl _, .refl _, .refl _, .refl _, .refl _, .refl _, .refl _, .refl _, .refl _, .refl _, .refl _, .eq (.int (hnwF gr h3).symm), trivial⟩, trivial, rfl⟩
      refine CodeP.seq (vc_sound hT hm _ ?_)
      cbv
      refine CallP.pure _ (hO3 gr) rfl ?_
      cbv
      refine CodeP.seqTo [(0, .slm 3 (some (.var ni)) IssuedD.c I), (1, .slm 4 (some (.var ns)) SeenD.c S), (3, i64 v), (4, i64 a), (5, i64 b), (14, .slm 4 none SeenD.c M), (17, .slm 4 none SeenD.c J), (127, .slm 1 none intC gs), (128, .int .i64 (.len gs)), (129, .int .i64 (.nat i)), (21, .slm 1 (some (.var (n1 gr))) intC (l1 gr)), (26, .slm 1 (some (.var (n3 gr))) intC (l3 gr)), (27, i64 (e3 gr))] [] (Nat.zero_le _) (vc_sound hT hm _ ?_) ?_
      · cbv
        refine SplitP.mk (fun h4 => ?_) (fun h4 => ?_)
        · refine SplitP.mk (fun h5 => ?_) (fun h5 => ?_)
          · refine SplitP.mk (fun h6 => ?_) (fun h6 => ?_)
            · exfalso
              have h7 := q2.1 h4
              unfold valB at h7
              have h8 := of_decide_eq_false h7
              have h9 : decide (v ≥ 0) = true := h5
              have h9' := of_decide_eq_true h9
              have h11 : decide (v ≤ 1048576) = true := h6
              have h11' := of_decide_eq_true h11
              exact h8 ⟨h9', h11'⟩
            · refine SplitP.mk (fun h8 => ?_) (fun h8 => ?_)
              · exfalso
                have h9 : (e2 gr == 0) = true := h8
                have h10' : (e2 gr != 0) = true := h4
                simp at h9 h10'
                exact h10' h9
              · exact ⟨⟨.refl _, .refl _, .refl _, .refl _, .refl _, .refl _, .refl _, .refl _, .refl _, .refl _, .refl _, .refl _, .refl _, trivial⟩, trivial, rfl⟩
          · refine SplitP.mk (fun h8 => ?_) (fun h8 => ?_)
            · exfalso
              have h9 : (e2 gr == 0) = true := h8
              have h10' : (e2 gr != 0) = true := h4
              simp at h9 h10'
              exact h10' h9
            · exact ⟨⟨.refl _, .refl _, .refl _, .refl _, .refl _, .refl _, .refl _, .refl _, .refl _, .refl _, .refl _, .refl _, .refl _, trivial⟩, trivial, rfl⟩
        · refine SplitP.mk (fun h8 => ?_) (fun h8 => ?_)
          · have h9 := q2.2 h8
            refine CallP.pure _ (hW2 gr _ _) rfl ?_
            cbv
            refine SplitP.mk (fun h5 => ?_) (fun h5 => ?_)
            · exfalso
              have h6 : (!w2 gr) = true := h5
              rw [h9] at h6
              cases h6
            · exact ⟨⟨.refl _, .refl _, .refl _, .refl _, .refl _, .refl _, .refl _, .refl _, .refl _, .refl _, .refl _, .refl _, .refl _, trivial⟩, trivial, rfl⟩
          · exact ⟨⟨.refl _, .refl _, .refl _, .refl _, .refl _, .refl _, .refl _, .refl _, .refl _, .refl _, .refl _, .refl _, .refl _, trivial⟩, trivial, rfl⟩
      refine vc_sound hT hm _ ?_
      cbv
      refine SplitP.mk (fun h4 => ?_) (fun h4 => ?_)
      · exfalso
        have h5 : (e3 gr != 0) = true := h4
        rw [q3.1] at h5
        cases h5
      refine CallP.pure _ (hW3 gr _ _) rfl ?_
      cbv
      refine SplitP.mk (fun h5 => ?_) (fun h5 => ?_)
      · exfalso
        have h6 : (!w3 gr) = true := h5
        rw [q3.2] at h6
        cases h6
      exact ⟨⟨.refl _, .refl _, .refl _, .refl _, .refl _, .refl _, .refl _, .refl _, .refl _, .refl _, trivial⟩, trivial, rfl⟩
    · refine vc_sound hT hm _ ?_
      cbv
      refine BackP.intro (i + 1) (by omega) (by show 2 - (i + 1) < 2 - i; omega) ⟨⟨.refl _, .refl _, .refl _, .refl _, .refl _, .refl _, .refl _, .refl _, .refl _, .inc (by omega), trivial⟩, trivial, rfl⟩
  · refine vc_sound hT hm _ ?_
    cbv
    exact ret1
theorem own : ownKnob Tryd.prog.godebug = none := by kernel_rfl
theorem laidOut : laidOutB Tryd.prog = true := by kernel_rfl
set_option maxRecDepth 100000 in
theorem lifted (os : Os) (started : os.Started) (H : Type) (enc : TypeId × Value → H) :
    ReturnsInHanded {} Tryd.checked os 8 .any (fun w args => (Rows.possibleKnownSpec.pre enc Tryd.prog Tryd.f8 [] false w args ∧ laidMetH Tryd.prog laidR w) ∧ sizedMet enc Tryd.prog Tryd.f8 (OpenSpec.ofChange Rows.possibleKnownSpec) false w args) (Rows.possibleKnownSpec.post enc Tryd.prog Tryd.f8 false true false false) := by
  refine returnsInHanded_of_change_and (C := Tryd.checked) (X := fun w _ => laidMetH Tryd.prog laidR w) (fun _ _ _ hh h => h.of_heap hh) own started (by kernel_rfl) Tryd.func8
    (ChangeSpec.witness_shaped (enc := enc) (C := Tryd.checked) (os := os) (X := fun w _ => laidMetH Tryd.prog laidR w) false (World.doorLaid Tryd.prog 400 os) #[.slice none 0 0, .slice none 0 0, .int .u8 0, .int .i64 0, .int .i64 0, .int .i64 0] 8 rfl (World.shaped_of_RefB (by kernel_rfl) (by kernel_rfl)) (by kernel_rfl) (by kernel_rfl) (by kernel_rfl) (door_met os _)) ?_
  intro W base args ds gs before hval0 hW _ hSz hL _
  have hval : ∀ (j : Nat) t v, Tryd.f8.params[j]? = some t → args[j]? = some v → Value.okWide Tryd.prog W .any base t v := hval0
  have hW' := hW
  obtain ⟨p, q, hA0, hV, rfl, hfz, hnd⟩ := hW
  have hA : DataW.TrodAll enc Tryd.prog W 0 (fun _ => true) true Tryd.f8.params.toList args.toList ds p := hA0
  rw [Tryd.params8] at hA hval
  obtain ⟨v0, vs0, d0, ds0, p0, q0, hargs, rfl, rfl, h0, r0⟩ := trodAll_cons hA
  obtain ⟨v1, vs1, d1, ds1, p1, q1, rfl, rfl, rfl, h1, r1⟩ := trodAll_cons r0
  obtain ⟨v2, vs2, d2, ds2, p2, q2, rfl, rfl, rfl, h2, r2⟩ := trodAll_cons r1
  obtain ⟨v3, vs3, d3, ds3, p3, q3, rfl, rfl, rfl, h3, r3⟩ := trodAll_cons r2
  obtain ⟨v4, vs4, d4, ds4, p4, q4, rfl, rfl, rfl, h4, r4⟩ := trodAll_cons r3
  obtain ⟨v5, vs5, d5, ds5, p5, q5, rfl, rfl, rfl, h5, r5⟩ := trodAll_cons r4
  obtain ⟨rfl, rfl, rfl⟩ := trodAll_nil r5
  obtain rfl : args = #[v0, v1, v2, v3, v4, v5] := by cases args; simp_all
  obtain ⟨rfl, rfl⟩ := trodVars_none hV
  have k0 := h0
  have lt0 : ∀ x ∈ p0, x.block < W.heap.size := by obtain ⟨m, hm⟩ := k0; exact DataW.trod_lt m _ _ _ hm
  obtain ⟨⟨nb0, l0⟩, ⟨ln0, lk0, ll0⟩, rp0⟩ := open_sl (e := 26) (by kernel_rfl) opd_issueds (hval 0 22 v0 rfl rfl) h0
  have k1 := h1
  have lt1 : ∀ x ∈ p1, x.block < W.heap.size := by obtain ⟨m, hm⟩ := k1; exact DataW.trod_lt m _ _ _ hm
  obtain ⟨⟨nb1, l1⟩, ⟨ln1, lk1, ll1⟩, rp1⟩ := open_sl (e := 28) (by kernel_rfl) opd_seens (hval 1 23 v1 rfl rfl) h1
  have k2 := h2
  have lt2 : ∀ x ∈ p2, x.block < W.heap.size := by obtain ⟨m, hm⟩ := k2; exact DataW.trod_lt m _ _ _ hm
  obtain ⟨z2, rp2⟩ := open_u8 Tryd.underlying5 (hval 2 5 v2 rfl rfl) h2
  have k3 := h3
  have lt3 : ∀ x ∈ p3, x.block < W.heap.size := by obtain ⟨m, hm⟩ := k3; exact DataW.trod_lt m _ _ _ hm
  obtain ⟨z3, wf3, rp3⟩ := open_i Tryd.underlying3 (hval 3 3 v3 rfl rfl) h3
  have k4 := h4
  have lt4 : ∀ x ∈ p4, x.block < W.heap.size := by obtain ⟨m, hm⟩ := k4; exact DataW.trod_lt m _ _ _ hm
  obtain ⟨z4, wf4, rp4⟩ := open_i Tryd.underlying3 (hval 4 3 v4 rfl rfl) h4
  have k5 := h5
  have lt5 : ∀ x ∈ p5, x.block < W.heap.size := by obtain ⟨m, hm⟩ := k5; exact DataW.trod_lt m _ _ _ hm
  obtain ⟨z5, wf5, rp5⟩ := open_i Tryd.underlying3 (hval 5 3 v5 rfl rfl) h5
  clear hA0 hval0
  refine (Pure.law (main_pure nb0 l0 ln0 lk0 ll0 nb1 l1 ln1 lk1 ll1 z2 z3 wf3 z4 wf4 z5 wf5) (of_laid hL) (lrep_cons rp0 (lrep_cons rp1 (lrep_cons rp2 (lrep_cons rp3 (lrep_cons rp4 (lrep_cons rp5 LRep.nil))))))).mono fun e W' ⟨he, bel⟩ => ?_
  subst he
  exact ⟨_, rfl, _, _, _, [], _, [], hW', trodAll_mk1 (shut_bool Tryd.underlying4 _), (trodAll_cons_mk (Below.trod laidOut (by kernel_rfl) (of_decide_eq_true (by kernel_rfl)) k0 bel lt0) (trodAll_cons_mk (Below.trod laidOut (by kernel_rfl) (of_decide_eq_true (by kernel_rfl)) k1 bel lt1) (trodAll_cons_mk (Below.trod laidOut (by kernel_rfl) (of_decide_eq_true (by kernel_rfl)) k2 bel lt2) (trodAll_cons_mk (Below.trod laidOut (by kernel_rfl) (of_decide_eq_true (by kernel_rfl)) k3 bel lt3) (trodAll_cons_mk (Below.trod laidOut (by kernel_rfl) (of_decide_eq_true (by kernel_rfl)) k4 bel lt4) (trodAll_cons_mk (Below.trod laidOut (by kernel_rfl) (of_decide_eq_true (by kernel_rfl)) k5 bel lt5) trodAll_mk0)))))), rfl, bel.frame _, fun h => by cases h⟩

theorem over : Rows.possibleKnownRow.holds Tryd.pinned (OpenSpec.ofChange Rows.possibleKnownSpec) :=
  OpenClaim.holds_of_wide 8 Tryd.f8 rfl rfl rfl rfl rfl rfl rfl ⟨rfl, rfl, rfl, rfl, rfl⟩ rfl rfl rfl rfl rfl (by kernel_rfl) Tryd.func8 (by kernel_rfl)
    (of_decide_eq_true (by kernel_rfl)) (by unfold Func.isWrapper; first | (rw [if_pos (by decide +kernel)]; kernel_rfl) | (rw [if_neg (by decide +kernel)]; exact ⟨rfl, rfl⟩))
    (fun os started H enc _ => lifted os started H enc)
theorem card : Rows.PossibleKnownCardSaid :=
  Claim7.holds_tied_plain_at .later [] [.data] true (true, "0ba69c9015ec36225fad3d349e9e33d8c719f02d1fa742a6aef5915b5d7b3d20") false
    over (fun _ h => by cases h) (by kernel_rfl) (fun _ h => by cases h) possibleKnown_row_tie rfl ⟨rfl, rfl⟩ (by kernel_rfl) rfl
    (fun f fn hf hfn => by
      obtain rfl : f = 8 := Option.some.inj ((show Tryd.prog.funcNamed "testamur/testamurlaw30.PossibleKnown" = some 8 by kernel_rfl).symm.trans hf) |>.symm
      obtain rfl : fn = Tryd.f8 := (Option.some.inj (Tryd.func8.symm.trans hfn)).symm
      exact ⟨by kernel_rfl, fun j t ht => by
        rw [Tryd.params8] at ht
        have hm : t ∈ [22, 23, 5, 3, 3, 3] := by simpa using Array.mem_of_getElem? ht
        have hall : ([22, 23, 5, 3, 3, 3].all fun u => !Tryd.prog.wantsStandIn u) = true := by kernel_rfl
        exact (show Tryd.prog.wantsStandIn t = false by simpa using List.all_eq_true.1 hall t hm)⟩)
    (by kernel_rfl)
end possibleKnown
theorem possibleKnown_holds : Rows.PossibleKnownCardSaid := possibleKnown.card
#print axioms possibleKnown_holds

end Go.Proofs.YtffmgfehaahlhaaDoor
