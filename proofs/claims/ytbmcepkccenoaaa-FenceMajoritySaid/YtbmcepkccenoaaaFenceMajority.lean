/- FenceMajority: for every fence, list of votes and number the law returns true and leaves its arguments as they were. No condition. -/
import Derived.Test.YtbmcepkccenoaaaPart4
set_option linter.all false
set_option linter.unusedSimpArgs false
set_option linter.unusedVariables false
set_option linter.unnecessarySimpa false
namespace Go.Proofs.Ytbmcepkccenoaaa
open Go.ChangeShapes Go.WideShapes Go.ChangeAt Go.RowKit
namespace fenceMajority
set_option maxRecDepth 100000 in
set_option maxHeartbeats 4000000 in
theorem main_pure (f : FenceD) (hn : f.nil = true → f.devices = []) (hl : f.devices.length ≤ maxLen) (nv : Bool) (vs : List VoteD) (hn2 : nv = true → vs = []) (hl2 : vs.length ≤ maxLen) (dv : Int) (hd : InR .i64 dv) : Pure Try.prog 5 [f.d, .slm 3 (some (.var nv)) VoteD.c vs, i64 dv] (boolD true) := by
  have hS := sane_pure
  have hF := FFew_pure f vs (some (.var nv))
  obtain ⟨fw, hfw⟩ : ∃ b, b = decide (f.devices.length ≤ 10 ∧ vs.length ≤ 10) := ⟨_, rfl⟩
  rw [← hfw] at hF
  have hV := fun h1 h2 => Vote_pure f vs (some (.var nv)) dv h1 hn h2
  have hI0 := fun d h => Is_pure f d h
  have hbad := fun h => vote_bad (f := f) (vs := vs) (dv := dv) h
  have hok0 := fun h => vote_ok (f := f) (vs := vs) (dv := dv) h
  have hok1 : ∀ a, fvalidB f dv = true → freeB f dv a = true → (joinR f a dv.toNat).Perm (f.devices ++ [a]) ∧ incFrom dv (-1) (joinR f a dv.toNat) = true := fun a h1 h2 => by
    obtain ⟨_, _, h3, _, h4⟩ := chk_get h1 h2
    exact ⟨h4, h3⟩
  have hml := fun h a S h2 => maj_len (f := f) (dv := dv) h (a := a) (vs := vs) (S := S) h2
  have hIx0 := fun d h => Is_pure (voteP f vs dv).1 d h
  obtain ⟨x, hx⟩ : ∃ x, x = (voteP f vs dv).1 := ⟨_, rfl⟩
  obtain ⟨e, he⟩ : ∃ x, x = (voteP f vs dv).2 := ⟨_, rfl⟩
  rw [← hx, ← he] at hV
  rw [← hx] at hIx0
  have hbad1 : e ≠ 0 → x = zeroF := fun h => by rw [hx]; exact hbad (by rw [← he]; exact h)
  have hok2 : e = 0 → ∃ a, x.no = f.no + 1 ∧ 0 ≤ f.no ∧ f.no ≤ 1048576 ∧ 1 ≤ dv ∧ dv ≤ 4 ∧ x.devices.Perm (f.devices ++ [a]) ∧ incFrom dv (-1) x.devices = true ∧ 0 ≤ a ∧ ¬ a ∈ f.devices ∧ dv - f.devices.length - 1 < 2 * (agK f dv vs a vs.length : Int) := fun h => by
    obtain ⟨h1, h2, a, h3, h4, h5, h6⟩ := hok0 (by rw [← he]; exact h)
    obtain ⟨h7, h8⟩ := hok1 a h1 h4
    have h1' := h1
    unfold fvalidB at h1'
    simp only [Bool.and_eq_true, decide_eq_true_eq] at h1'
    unfold freeB at h4
    simp only [decide_eq_true_eq] at h4
    refine ⟨a, by rw [hx, h6], h1'.1.2.2.1, h1'.1.2.2.2, h1'.1.1, h1'.1.2.1, by rw [hx, h6]; exact h7, by rw [hx, h6]; exact h8, h4.1, h4.2.2, h5⟩
  clear hx he hbad hok0 hok1
  obtain ⟨no, nl, fl⟩ := f
  obtain ⟨xn, xl, J⟩ := x
  simp only at hV hI0 hfw hok2 hIx0
  have hmd : ∀ a (v : VoteD), majB ⟨no, nl, fl⟩ dv a v = decide (v.device = a ∧ v.no = inc64 no ∧ v.by_ ≠ a ∧ 0 ≤ v.by_ ∧ v.by_ < dv ∧ ¬ v.by_ ∈ fl) := fun a v => rfl
  refine Pure.intro (want := [boolD true]) T_ok follows Try.func5 rfl (by kernel_rfl) (rs := [.tmp 6]) rfl (by kernel_rfl) ?_
  generalize hP : Try.prog = P at *
  have hT : T.ok P := hP ▸ T_ok
  have hm : P.follows .mixedOrders = true := hP ▸ follows
  unfold Try.f5
  dsimp only
  cbv
  refine CallP.pure _ hS rfl ?_
  cbv
  refine SplitP.mk (fun hs => ?_) (fun hs => ?_)
  · cases (show (!true) = true from hs)
  clear hs
  refine CallP.pure _ hF rfl ?_
  cbv
  refine SplitP.mk (fun hs => ?_) (fun hs => ?_) <;> simp only [BE.not_t, BE.not_f, BE.var_d] at hs
  · exact .mk (.cons (.eq (.bool rfl)) .nil) rfl
  have h10 := of_decide_eq_true (hfw.symm.trans hs)
  clear hs
  refine CallP.pure _ (hV (by omega) (by omega)) rfl ?_
  cbv
  refine SplitP.mk (fun hs => ?_) (fun hs => ?_)
  · have h3 : (!decide (e = 0)) = true := hs
    have h4 := hbad1 (by simpa using h3)
    simp only [zeroF, FenceD.mk.injEq] at h4
    obtain ⟨rfl, rfl, rfl⟩ := h4
    refine SplitP.mk (fun _ => ?_) (fun h => ?_)
    · exact .mk (.cons (.eq (.bool rfl)) .nil) rfl
    · exact absurd (show decide ((0 : Int) = 0) = false from h) (by simp)
  have he0 : e = 0 := by
    have h3 : (!decide (e = 0)) = false := hs
    simpa using h3
  clear hs hV hbad1
  obtain ⟨a, hxn, hno0, hno1, hdv1, hdv4, hperm, hinc, ha0, hafl, hmaj⟩ := hok2 he0
  obtain ⟨hJ1, hJ2⟩ := inc_get hinc
  have hJm : ∀ d ∈ J, d ∈ fl ∨ d = a := fun d h => by
    have := hperm.mem_iff.1 h
    simpa using this
  have hJl : J.length = fl.length + 1 := by rw [hperm.length_eq]; simp
  have haJ : a ∈ J := hperm.mem_iff.2 (by simp)
  have hflJ : ∀ d ∈ fl, d ∈ J := fun d h => hperm.mem_iff.2 (by simp [h])
  obtain ⟨isf, hisf⟩ : ∃ g : Int → Bool, g = fun d => decide (d ∈ fl) := ⟨_, rfl⟩
  have hisf1 : ∀ d, isf d = decide (d ∈ fl) := fun d => by rw [hisf]
  have hI : ∀ d, Pure P 14 [.agg [i64 no, .slm 1 (some (.var nl)) intC fl], i64 d] (boolD (isf d)) := fun d => by
    rw [hisf1]
    exact hI0 d (by omega)
  have hIx : ∀ d ∈ fl, Pure P 14 [.agg [i64 xn, .slm 1 (some (.var xl)) intC J], i64 d] (boolD true) := fun d h => by
    have := hIx0 d (by omega)
    rwa [decide_eq_true (hflJ d h)] at this
  have hml := hml hdv4 a
  obtain ⟨ag, hag⟩ : ∃ g, g = agK ⟨no, nl, fl⟩ dv vs a vs.length := ⟨_, rfl⟩
  rw [← hag] at hml hmaj
  clear hok2 hperm hinc hI0 hIx0 hag
  subst hxn
  have eno : binDen .add .i64 no 1 = no + 1 := add64 (by omega) (by omega)
  have eln : binDen .add .i64 (fl.length : Int) 1 = (fl.length : Int) + 1 := add64 (by omega) (by omega)
  refine SplitP.mk (fun hs => ?_) (fun hs => ?_)
  · have h3 : (!decide (no + 1 = binDen .add .i64 no 1)) = true := hs
    rw [eno] at h3
    simp at h3
  clear hs
  refine SplitP.mk (fun hs => ?_) (fun hs => ?_)
  · have h3 : (!decide ((J.length : Int) = binDen .add .i64 (fl.length : Int) 1)) = true := hs
    rw [eln, hJl] at h3
    simp at h3
  clear hs
  obtain ⟨n, hnn⟩ : ∃ n : Nat, n = J.length := ⟨_, rfl⟩
  refine CodeP.loopc hT hm (X := Nat × Int) (fun x => [(60, .int .i64 (.nat x.1)), (9, i64 x.2)]) (fun x => x.1 ≤ n ∧ x.2 = if a ∈ J.take x.1 then a else -1) (fun x => n - x.1) (0, -1) ⟨by simp, by simp⟩ (by simp) ?_ rfl ?_
  · (cbv; (repeat' (first | exact SnD.refl _ | exact trivial | exact SnD.nat0 | refine And.intro ?_ ?_)))
    exact .eq (.int rfl)
  intro ⟨k, out⟩ ⟨hk, hout⟩
  replace hk : k ≤ n := hk
  replace hout : out = if a ∈ J.take k then a else -1 := hout
  cbv
  refine SplitP.mk (fun hs => ?_) (fun hs => ?_)
  · have hkn : k < J.length := by
      have h5 : decide ((k : Int) < (J.length : Int)) = true := hs
      have := of_decide_eq_true h5
      omega
    clear hs
    refine ElemP.mk (by show (0 : Int) ≤ (k : Int) ∧ (k : Int) < (J.length : Int); omega) (fun d hd => ?_)
    replace hd : J[k]? = some d := hd
    have hd1 := hJ1 k d hd
    cbv
    refine SplitP.mk (fun hs => ?_) (fun hs => ?_)
    · have h3 : decide (d < 0) = true := hs
      have := of_decide_eq_true h3
      omega
    clear hs
    refine SplitP.mk (fun hs => ?_) (fun hs => ?_)
    · have h3 : decide (d ≥ dv) = true := hs
      have := of_decide_eq_true h3
      omega
    clear hs
    refine SplitP.mk (fun hs => ?_) (fun hs => ?_)
    · have hk0 : 0 < k := by
        have h3 : decide ((k : Int) > 0) = true := hs
        have := of_decide_eq_true h3
        omega
      clear hs
      obtain ⟨k', rfl⟩ : ∃ k', k = k' + 1 := ⟨k - 1, by omega⟩
      have ek : binDen .sub .i64 ((k' + 1 : Nat) : Int) 1 = (k' : Int) := by rw [sub64 (by omega) (by omega)]; omega
      refine ElemP.mk (by show (0 : Int) ≤ binDen .sub .i64 ((k' + 1 : Nat) : Int) 1 ∧ binDen .sub .i64 ((k' + 1 : Nat) : Int) 1 < (J.length : Int); rw [ek]; omega) (fun c hc => ?_)
      replace hc : J[(binDen .sub .i64 ((k' + 1 : Nat) : Int) 1).toNat]? = some c := hc
      rw [ek] at hc
      have hcd := hJ2 k' c d hc hd
      cbv
      refine SplitP.mk (fun hs => ?_) (fun hs => ?_)
      · have h3 : decide (c ≥ d) = true := hs
        have := of_decide_eq_true h3
        omega
      clear hs
      refine CallP.pure _ (hI d) rfl ?_
      cbv
      refine SplitP.mk (fun hs => ?_) (fun hs => ?_)
      · have hd4 : d = a := by
          have h6 : (!isf d) = true := hs
          rw [hisf1] at h6
          rcases hJm d (List.mem_of_getElem? hd) with q | q
          · rw [decide_eq_true q] at h6; cases h6
          · exact q
        refine BackP.intro ((k' + 1) + 1, d) ⟨by show (k' + 1) + 1 ≤ n; omega, ?_⟩ (by show n - ((k' + 1) + 1) < n - (k' + 1); omega) ⟨?_, HEnt.refl _, rfl⟩
        · show d = if a ∈ J.take ((k' + 1) + 1) then a else -1
          rw [if_pos ((take_mem hd).2 (.inr hd4.symm)), hd4]
        · (cbv; (repeat' (first | exact SnD.refl _ | exact trivial | exact SnD.nat0 | refine And.intro ?_ ?_)))
          exact .inc (by omega)
      · have hd4 : d ≠ a := fun q => by
          have h6 : (!isf d) = false := hs
          rw [hisf1, q, decide_eq_false hafl] at h6
          cases h6
        refine BackP.intro ((k' + 1) + 1, out) ⟨by show (k' + 1) + 1 ≤ n; omega, ?_⟩ (by show n - ((k' + 1) + 1) < n - (k' + 1); omega) ⟨?_, HEnt.refl _, rfl⟩
        · show out = if a ∈ J.take ((k' + 1) + 1) then a else -1
          rw [hout]
          by_cases q : a ∈ J.take (k' + 1)
          · rw [if_pos q, if_pos ((take_mem hd).2 (.inl q))]
          · rw [if_neg q, if_neg fun h => q (((take_mem hd).1 h).resolve_right (Ne.symm hd4))]
        · (cbv; (repeat' (first | exact SnD.refl _ | exact trivial | exact SnD.nat0 | refine And.intro ?_ ?_)))
          exact .inc (by omega)
    · clear hs
      refine CallP.pure _ (hI d) rfl ?_
      cbv
      refine SplitP.mk (fun hs => ?_) (fun hs => ?_)
      · have hd4 : d = a := by
          have h6 : (!isf d) = true := hs
          rw [hisf1] at h6
          rcases hJm d (List.mem_of_getElem? hd) with q | q
          · rw [decide_eq_true q] at h6; cases h6
          · exact q
        refine BackP.intro (k + 1, d) ⟨by show k + 1 ≤ n; omega, ?_⟩ (by show n - (k + 1) < n - k; omega) ⟨?_, HEnt.refl _, rfl⟩
        · show d = if a ∈ J.take (k + 1) then a else -1
          rw [if_pos ((take_mem hd).2 (.inr hd4.symm)), hd4]
        · (cbv; (repeat' (first | exact SnD.refl _ | exact trivial | exact SnD.nat0 | refine And.intro ?_ ?_)))
          exact .inc (by omega)
      · have hd4 : d ≠ a := fun q => by
          have h6 : (!isf d) = false := hs
          rw [hisf1, q, decide_eq_false hafl] at h6
          cases h6
        refine BackP.intro (k + 1, out) ⟨by show k + 1 ≤ n; omega, ?_⟩ (by show n - (k + 1) < n - k; omega) ⟨?_, HEnt.refl _, rfl⟩
        · show out = if a ∈ J.take (k + 1) then a else -1
          rw [hout]
          by_cases q : a ∈ J.take k
          · rw [if_pos q, if_pos ((take_mem hd).2 (.inl q))]
          · rw [if_neg q, if_neg fun h => q (((take_mem hd).1 h).resolve_right (Ne.symm hd4))]
        · (cbv; (repeat' (first | exact SnD.refl _ | exact trivial | exact SnD.nat0 | refine And.intro ?_ ?_)))
          exact .inc (by omega)
  · have hkn : J.length ≤ k := by
      have h5 : decide ((k : Int) < (J.length : Int)) = false := hs
      have := of_decide_eq_false h5
      omega
    clear hs
    have hk2 : k = n := by omega
    have hout2 : out = a := by
      rw [hout, hk2, List.take_of_length_le (by omega), if_pos haJ]
    clear hout
    subst hout2
    clear hk2 hkn hk hJ1 hJ2 hJm haJ
    obtain ⟨n2, hn2'⟩ : ∃ n : Nat, n = fl.length := ⟨_, rfl⟩
    refine CodeP.loopc hT hm (X := Nat) (fun x => [(95, .int .i64 (.nat x))]) (fun x => x ≤ n2) (fun x => n2 - x) 0 (by simp) (by simp) ?_ rfl ?_
    · (cbv; (repeat' (first | exact SnD.refl _ | exact trivial | exact SnD.nat0 | refine And.intro ?_ ?_)))
    intro k hk
    replace hk : k ≤ n2 := hk
    cbv
    refine SplitP.mk (fun hs => ?_) (fun hs => ?_)
    · have hkn : k < fl.length := by
        have h5 : decide ((k : Int) < (fl.length : Int)) = true := hs
        have := of_decide_eq_true h5
        omega
      clear hs
      refine ElemP.mk (by show (0 : Int) ≤ (k : Int) ∧ (k : Int) < (fl.length : Int); omega) (fun d hd => ?_)
      replace hd : fl[k]? = some d := hd
      have hId := hIx d (List.mem_of_getElem? hd)
      cbv
      refine CallP.pure _ hId rfl ?_
      cbv
      refine SplitP.mk (fun hs => ?_) (fun hs => ?_)
      · cases (show (!true) = true from hs)
      clear hs
      refine BackP.intro (k + 1) (by show k + 1 ≤ n2; omega) (by show n2 - (k + 1) < n2 - k; omega) ⟨?_, HEnt.refl _, rfl⟩
      (cbv; (repeat' (first | exact SnD.refl _ | exact trivial | exact SnD.nat0 | refine And.intro ?_ ?_)))
      exact .inc (by omega)
    clear hs hk hIx
    refine SplitP.mk (fun hs => ?_) (fun hs => ?_)
    · have h3 : decide (out < 0) = true := hs
      have := of_decide_eq_true h3
      omega
    clear hs
    obtain ⟨n, hnv⟩ : ∃ n : Nat, n = vs.length := ⟨_, rfl⟩
    refine CodeP.loopm hT hm (X := Nat × (Int → Bool) × Nat × List Int) (fun x => [(109, .int .i64 (.nat x.1))])
      (fun x => [.cells [i64 no, .slm 1 (some (.var nl)) intC fl], .cells [i64 (no + 1), .slm 1 (some (.var xl)) intC J], .mp .i64 (.setb x.2.1 (.nat x.2.2.1))])
      (fun x => x.1 ≤ n ∧ x.2.2.1 ≤ x.1 ∧ x.2.2.2.length = x.2.2.1 ∧ (∀ y, x.2.1 y = decide (y ∈ x.2.2.2)) ∧ ∀ v ∈ vs.take x.1, majB ⟨no, nl, fl⟩ dv out v = true → v.by_ ∈ x.2.2.2) (fun x => n - x.1) (0, (fun _ => false), 0, []) ⟨by simp, by simp, rfl, fun y => by simp, fun v h => by simp at h⟩ (fun _ => by simp) ⟨?_, ?_, rfl⟩ ?_
    · (cbv; (repeat' (first | exact SnD.refl _ | exact trivial | exact SnD.nat0 | refine And.intro ?_ ?_)))
    · (cbv; (repeat' (first | exact trivial | exact BkEq.refl _ | exact SnD.refl _ | exact SnDs.nil | refine BkEq.cells ?_ | refine SnDs.cons ?_ ?_ | refine And.intro ?_ ?_)))
      exact mp_start fun _ => rfl
    intro ⟨k, S, c, L⟩ ⟨hk, hck, hc, hS, hL⟩
    replace hk : k ≤ n := hk
    replace hck : c ≤ k := hck
    replace hc : L.length = c := hc
    replace hS : ∀ y, S y = decide (y ∈ L) := hS
    replace hL : ∀ v ∈ vs.take k, majB ⟨no, nl, fl⟩ dv out v = true → v.by_ ∈ L := hL
    cbv
    refine SplitP.mk (fun hs => ?_) (fun hs => ?_)
    · have hkn : k < vs.length := by
        have h5 : decide ((k : Int) < (vs.length : Int)) = true := hs
        have := of_decide_eq_true h5
        omega
      clear hs
      refine ElemP.mk (by show (0 : Int) ≤ (k : Int) ∧ (k : Int) < (vs.length : Int); omega) (fun x hx => ?_)
      replace hx : vs[k]? = some x := hx
      have hmx := hmd out x
      have hL2 : ∀ L' : List Int, (∀ y ∈ L, y ∈ L') → (majB ⟨no, nl, fl⟩ dv out x = true → x.by_ ∈ L') → ∀ v ∈ vs.take (k + 1), majB ⟨no, nl, fl⟩ dv out v = true → v.by_ ∈ L' := fun L' h1 h2 v hv hm => by
        rw [List.take_add_one, hx] at hv
        simp only [Option.toList_some, List.mem_append, List.mem_singleton] at hv
        rcases hv with hv | rfl
        · exact h1 _ (hL v hv hm)
        · exact h2 hm
      obtain ⟨vb, vd, vn⟩ := x
      simp only at hmx hL2
      have hIb := hI vb
      have hSb := hS vb
      have skip : ¬ (vd = out ∧ vn = IntKind.i64.wrap (no + 1) ∧ vb ≠ out ∧ 0 ≤ vb ∧ vb < dv ∧ ¬ vb ∈ fl) → ∀ v ∈ vs.take (k + 1), majB ⟨no, nl, fl⟩ dv out v = true → v.by_ ∈ L := fun h => hL2 L (fun _ h => h) fun h3 => by
        rw [hmx] at h3
        exact absurd (of_decide_eq_true h3) h
      obtain ⟨mf, hmf⟩ : ∃ b, b = isf vb := ⟨_, rfl⟩
      rw [← hmf] at hIb
      rw [hisf1] at hmf
      cbv
      refine SplitP.mk (fun h1 => ?_) (fun h1 => ?_)
      · have h1 : decide (vd = out) = true := h1
        refine SplitP.mk (fun h2 => ?_) (fun h2 => ?_)
        · refine SplitP.mk (fun h3 => ?_) (fun h3 => ?_)
          · refine SplitP.mk (fun h4 => ?_) (fun h4 => ?_)
            · refine SplitP.mk (fun h5 => ?_) (fun h5 => ?_)
              · refine CallP.pure _ hIb rfl ?_
                cbv
                refine SplitP.mk (fun h6 => ?_) (fun h6 => ?_)
                · refine SplitP.mk (fun h => ?_) (fun h => ?_)
                  · have h7 : S vb = true := h
                    rw [hSb] at h7
                    have h8 := of_decide_eq_true h7
                    cbv
                    refine BackP.intro (k + 1, S, c, L) ⟨by show k + 1 ≤ n; omega, by show c ≤ k + 1; omega, hc, hS, hL2 L (fun _ h => h) fun _ => h8⟩ (by show n - (k + 1) < n - k; omega) ⟨?_, ?_, rfl⟩
                    · (cbv; (repeat' (first | exact SnD.refl _ | exact trivial | exact SnD.nat0 | refine And.intro ?_ ?_)))
                      exact .inc (by omega)
                    · (cbv; (repeat' (first | exact trivial | exact BkEq.refl _ | exact SnD.refl _ | exact SnDs.nil | refine BkEq.cells ?_ | refine SnDs.cons ?_ ?_ | refine And.intro ?_ ?_)))
                  · have h7 : S vb = false := h
                    rw [hSb] at h7
                    have h8 := of_decide_eq_false h7
                    refine ReqP.mk ⟨by show (c : Int) < maxLen; simp only [maxLen]; omega⟩ (fun _ => ?_)
                    cbv
                    refine BackP.intro (k + 1, fun z => z == vb || S z, c + 1, vb :: L) ⟨by show k + 1 ≤ n; omega, by show c + 1 ≤ k + 1; omega, by show (vb :: L).length = c + 1; simp [hc], fun y => ?_, hL2 (vb :: L) (fun y h => by simp [h]) fun _ => by simp⟩ (by show n - (k + 1) < n - k; omega) ⟨?_, ?_, rfl⟩
                    · show (y == vb || S y) = decide (y ∈ vb :: L)
                      rw [hS, Bool.eq_iff_iff]
                      simp
                    · (cbv; (repeat' (first | exact SnD.refl _ | exact trivial | exact SnD.nat0 | refine And.intro ?_ ?_)))
                      exact .inc (by omega)
                    · (cbv; (repeat' (first | exact trivial | exact BkEq.refl _ | exact SnD.refl _ | exact SnDs.nil | refine BkEq.cells ?_ | refine SnDs.cons ?_ ?_ | refine And.intro ?_ ?_)))
                      exact mp_same rfl fun _ => rfl
                · have h7 : (!mf) = false := h6
                  have h8 : vb ∈ fl := by
                    rw [hmf] at h7
                    simpa using h7
                  refine BackP.intro (k + 1, S, c, L) ⟨by show k + 1 ≤ n; omega, by show c ≤ k + 1; omega, hc, hS, skip (fun q => q.2.2.2.2.2 h8)⟩ (by show n - (k + 1) < n - k; omega) ⟨?_, ?_, rfl⟩
                  · (cbv; (repeat' (first | exact SnD.refl _ | exact trivial | exact SnD.nat0 | refine And.intro ?_ ?_)))
                    exact .inc (by omega)
                  · (cbv; (repeat' (first | exact trivial | exact BkEq.refl _ | exact SnD.refl _ | exact SnDs.nil | refine BkEq.cells ?_ | refine SnDs.cons ?_ ?_ | refine And.intro ?_ ?_)))
              · have h7 : decide (vb < dv) = false := h5
                refine BackP.intro (k + 1, S, c, L) ⟨by show k + 1 ≤ n; omega, by show c ≤ k + 1; omega, hc, hS, skip (fun q => of_decide_eq_false h7 q.2.2.2.2.1)⟩ (by show n - (k + 1) < n - k; omega) ⟨?_, ?_, rfl⟩
                · (cbv; (repeat' (first | exact SnD.refl _ | exact trivial | exact SnD.nat0 | refine And.intro ?_ ?_)))
                  exact .inc (by omega)
                · (cbv; (repeat' (first | exact trivial | exact BkEq.refl _ | exact SnD.refl _ | exact SnDs.nil | refine BkEq.cells ?_ | refine SnDs.cons ?_ ?_ | refine And.intro ?_ ?_)))
            · have h7 : decide (vb ≥ 0) = false := h4
              refine BackP.intro (k + 1, S, c, L) ⟨by show k + 1 ≤ n; omega, by show c ≤ k + 1; omega, hc, hS, skip (fun q => of_decide_eq_false h7 q.2.2.2.1)⟩ (by show n - (k + 1) < n - k; omega) ⟨?_, ?_, rfl⟩
              · (cbv; (repeat' (first | exact SnD.refl _ | exact trivial | exact SnD.nat0 | refine And.intro ?_ ?_)))
                exact .inc (by omega)
              · (cbv; (repeat' (first | exact trivial | exact BkEq.refl _ | exact SnD.refl _ | exact SnDs.nil | refine BkEq.cells ?_ | refine SnDs.cons ?_ ?_ | refine And.intro ?_ ?_)))
          · have h7 : (!decide (vb = out)) = false := h3
            refine BackP.intro (k + 1, S, c, L) ⟨by show k + 1 ≤ n; omega, by show c ≤ k + 1; omega, hc, hS, skip (fun q => q.2.2.1 (by simpa using h7))⟩ (by show n - (k + 1) < n - k; omega) ⟨?_, ?_, rfl⟩
            · (cbv; (repeat' (first | exact SnD.refl _ | exact trivial | exact SnD.nat0 | refine And.intro ?_ ?_)))
              exact .inc (by omega)
            · (cbv; (repeat' (first | exact trivial | exact BkEq.refl _ | exact SnD.refl _ | exact SnDs.nil | refine BkEq.cells ?_ | refine SnDs.cons ?_ ?_ | refine And.intro ?_ ?_)))
        · have h7 : decide (vn = IntKind.i64.wrap (no + 1)) = false := h2
          refine BackP.intro (k + 1, S, c, L) ⟨by show k + 1 ≤ n; omega, by show c ≤ k + 1; omega, hc, hS, skip (fun q => of_decide_eq_false h7 q.2.1)⟩ (by show n - (k + 1) < n - k; omega) ⟨?_, ?_, rfl⟩
          · (cbv; (repeat' (first | exact SnD.refl _ | exact trivial | exact SnD.nat0 | refine And.intro ?_ ?_)))
            exact .inc (by omega)
          · (cbv; (repeat' (first | exact trivial | exact BkEq.refl _ | exact SnD.refl _ | exact SnDs.nil | refine BkEq.cells ?_ | refine SnDs.cons ?_ ?_ | refine And.intro ?_ ?_)))
      · have h7 : decide (vd = out) = false := h1
        refine BackP.intro (k + 1, S, c, L) ⟨by show k + 1 ≤ n; omega, by show c ≤ k + 1; omega, hc, hS, skip (fun q => of_decide_eq_false h7 q.1)⟩ (by show n - (k + 1) < n - k; omega) ⟨?_, ?_, rfl⟩
        · (cbv; (repeat' (first | exact SnD.refl _ | exact trivial | exact SnD.nat0 | refine And.intro ?_ ?_)))
          exact .inc (by omega)
        · (cbv; (repeat' (first | exact trivial | exact BkEq.refl _ | exact SnD.refl _ | exact SnDs.nil | refine BkEq.cells ?_ | refine SnDs.cons ?_ ?_ | refine And.intro ?_ ?_)))
    have hkn : vs.length ≤ k := by
      have h5 : decide ((k : Int) < (vs.length : Int)) = false := hs
      have := of_decide_eq_false h5
      omega
    clear hs
    have hk3 : k = n := by omega
    have h6 := hml L fun v hv => hL v (by rw [List.take_of_length_le (by omega)]; exact hv)
    refine .mk (.cons (.eq (.bool ?_)) .nil) rfl
    show decide (binDen .mul .i64 2 (c : Int) > binDen .sub .i64 (binDen .sub .i64 dv (fl.length : Int)) 1) = true
    have hmaj2 : dv - (fl.length : Int) - 1 < 2 * (ag : Int) := hmaj
    clear hmaj
    rw [mul64 (by omega) (by omega), sub64 (a := dv) (by omega) (by omega), sub64 (by omega) (by omega)]
    exact decide_eq_true (by omega)
theorem own : ownKnob Try.prog.godebug = none := by kernel_rfl
theorem laidOut : laidOutB Try.prog = true := by kernel_rfl
set_option maxRecDepth 100000 in
theorem lifted (os : Os) (started : os.Started) (H : Type) (enc : TypeId × Value → H) :
    ReturnsInHanded {} Try.checked os 5 .any (Rows.fenceMajoritySpec.pre6 enc Try.prog Try.f5 Rows.fenceMajorityRow.domain false) (Rows.fenceMajoritySpec.post enc Try.prog Try.f5 false true false false) := by
  refine returnsInHanded_of_change (C := Try.checked) own started (by kernel_rfl) Try.func5
    (ChangeSpec.witness6 (enc := enc) (C := Try.checked) false ⟨#[], #[.agg #[.int .i64 0, .slice none 0 0], .slice none 0 0, .int .i64 0], []⟩ 8 (by kernel_rfl) (by kernel_rfl) (by kernel_rfl) (by kernel_rfl)) ?_
  intro W base args ds gs before hval0 hW hcnd _
  have hval : ∀ (j : Nat) t v, Try.f5.params[j]? = some t → args[j]? = some v → Value.okWide Try.prog W .any base t v := hval0
  have hW' := hW
  obtain ⟨p, q, hA0, hV, rfl, hfz, hnd⟩ := hW
  have hA : DataW.TrodAll enc Try.prog W 0 (fun _ => true) true Try.f5.params.toList args.toList ds p := hA0
  rw [Try.params5] at hA hval
  obtain ⟨v0, vs0, d0, ds0, p0, q0, hargs, rfl, rfl, h0, r0⟩ := trodAll_cons hA
  obtain ⟨v1, vs1, d1, ds1, p1, q1, rfl, rfl, rfl, h1, r1⟩ := trodAll_cons r0
  obtain ⟨v2, vs2, d2, ds2, p2, q2, rfl, rfl, rfl, h2, r2⟩ := trodAll_cons r1
  obtain ⟨rfl, rfl, rfl⟩ := trodAll_nil r2
  obtain rfl : args = #[v0, v1, v2] := by cases args; simp_all
  obtain ⟨rfl, rfl⟩ := trodVars_none hV
  have k0 := h0
  have lt0 : ∀ x ∈ p0, x.block < W.heap.size := by obtain ⟨m, hm⟩ := k0; exact DataW.trod_lt m _ _ _ hm
  obtain ⟨f0, ⟨fn0, fl0⟩, rp0⟩ := open_st Try.underlying24 opd_fence (hval 0 24 v0 rfl rfl) h0
  have k1 := h1
  have lt1 : ∀ x ∈ p1, x.block < W.heap.size := by obtain ⟨m, hm⟩ := k1; exact DataW.trod_lt m _ _ _ hm
  obtain ⟨⟨nb1, l1⟩, ⟨ln1, _, ll1⟩, rp1⟩ := open_sl (e := 52) (by kernel_rfl) opd_votes (hval 1 25 v1 rfl rfl) h1
  have k2 := h2
  have lt2 : ∀ x ∈ p2, x.block < W.heap.size := by obtain ⟨m, hm⟩ := k2; exact DataW.trod_lt m _ _ _ hm
  obtain ⟨z2, wf2, rp2⟩ := open_i Try.underlying3 (hval 2 3 v2 rfl rfl) h2
  clear hA0 hval0
  refine (Pure.law (main_pure f0 fn0 fl0 nb1 l1 ln1 ll1 z2 wf2) (lrep_cons rp0 (lrep_cons rp1 (lrep_cons rp2 LRep.nil)))).mono fun e W' ⟨he, bel⟩ => ?_
  subst he
  exact ⟨_, rfl, _, _, _, [], _, [], hW', trodAll_mk1 (shut_bool Try.underlying4 _), (trodAll_cons_mk (Below.trod laidOut (by kernel_rfl) (of_decide_eq_true (by kernel_rfl)) k0 bel lt0) (trodAll_cons_mk (Below.trod laidOut (by kernel_rfl) (of_decide_eq_true (by kernel_rfl)) k1 bel lt1) (trodAll_cons_mk (Below.trod laidOut (by kernel_rfl) (of_decide_eq_true (by kernel_rfl)) k2 bel lt2) trodAll_mk0))), rfl, bel.frame _, fun h => by cases h⟩

theorem over : Rows.fenceMajorityRow.holds Try.pinned (OpenSpec.ofChange Rows.fenceMajoritySpec) :=
  OpenClaim.holds_of_wide 5 Try.f5 rfl rfl rfl rfl rfl rfl rfl ⟨rfl, rfl, rfl, rfl, rfl⟩ rfl rfl rfl rfl rfl (by kernel_rfl) Try.func5 (by kernel_rfl)
    (of_decide_eq_true (by kernel_rfl)) (by unfold Func.isWrapper; first | (rw [if_pos (by decide +kernel)]; kernel_rfl) | (rw [if_neg (by decide +kernel)]; exact ⟨rfl, rfl⟩))
    (fun os started H enc _ => lifted os started H enc)
end fenceMajority
theorem fenceMajority_holds : Rows.FenceMajoritySaid := fenceMajority.over
#print axioms fenceMajority_holds

end Go.Proofs.Ytbmcepkccenoaaa
