/- FenceOrder: for every fence, list of votes and number the law returns true and leaves its arguments as they were. No condition. -/
import Derived.Test.YtbmcepkccenoaaaPart4
set_option linter.all false
set_option linter.unusedSimpArgs false
set_option linter.unusedVariables false
set_option linter.unnecessarySimpa false
namespace Go.Proofs.Ytbmcepkccenoaaa
open Go.ChangeShapes Go.WideShapes Go.ChangeAt Go.RowKit
namespace fenceOrder
set_option maxRecDepth 100000 in
set_option maxHeartbeats 4000000 in
theorem main_pure (f : FenceD) (hn : f.nil = true → f.devices = []) (hl : f.devices.length ≤ maxLen) (nv : Bool) (vs : List VoteD) (hn2 : nv = true → vs = []) (hl2 : vs.length ≤ maxLen) (dv : Int) (hd : InR .i64 dv) : Pure Try.prog 7 [f.d, .slm 3 (some (.var nv)) VoteD.c vs, i64 dv] (boolD true) := by
  have hS := sane_pure
  have hF := FFew_pure f vs (some (.var nv))
  obtain ⟨fw, hfw⟩ : ∃ b, b = decide (f.devices.length ≤ 10 ∧ vs.length ≤ 10) := ⟨_, rfl⟩
  rw [← hfw] at hF
  have hV := fun h1 h2 => Vote_pure f vs (some (.var nv)) dv h1 hn h2
  have hV2 : ∀ ws, f.devices.length ≤ 100000 → ws.length ≤ 100000 → voteP f ws dv = voteP f vs dv → Pure Try.prog 11 [f.d, .slm 3 none VoteD.c ws, i64 dv] (.tup [(voteP f vs dv).1.d, i64 (voteP f vs dv).2]) := fun ws h1 h2 h3 => by
    rw [← h3]
    exact Vote_pure f ws none dv h1 hn h2
  have hrev := fun h => vote_rev (f := f) (dv := dv) (vs := vs) h
  have hE := fun h => FSame_pure (voteP f vs dv).1 (voteP f vs dv).1 h
  rw [sameB_refl] at hE
  have hvl := vote_devs f vs dv
  obtain ⟨x, hx⟩ : ∃ x, x = (voteP f vs dv).1 := ⟨_, rfl⟩
  obtain ⟨e, he⟩ : ∃ x, x = (voteP f vs dv).2 := ⟨_, rfl⟩
  rw [← hx] at hE hvl
  rw [← hx, ← he] at hV
  simp only [← hx, ← he] at hV2
  clear hx he
  obtain ⟨no, nl, fl⟩ := f
  simp only at hfw hV hV2 hvl
  obtain ⟨n, hnn⟩ : ∃ n : Nat, n = vs.length := ⟨_, rfl⟩
  refine Pure.intro (want := [boolD true]) T_ok follows Try.func7 rfl (by kernel_rfl) (rs := [.tmp 6]) rfl (by kernel_rfl) ?_
  generalize hP : Try.prog = P at *
  have hT : T.ok P := hP ▸ T_ok
  have hm : P.follows .mixedOrders = true := hP ▸ follows
  unfold Try.f7
  dsimp only
  cbv
  refine CallP.pure _ hS rfl ?_
  cbv
  refine SplitP.mk (fun hs => ?_) (fun hs => ?_)
  · cases (show (!true) = true from hs)
  clear hs
  refine CallP.pure _ hF rfl ?_
  cbv
  refine SplitP.mk (fun hs => ?_) (fun hs => ?_) <;> simp only [BE.not_t, BE.not_f, BE.var_d] at hs
  · exact .mk (.cons (.eq (.bool rfl)) .nil) rfl
  have h10 := of_decide_eq_true (hfw.symm.trans hs)
  clear hs
  obtain ⟨z0, hz0⟩ : ∃ z : Int, z = (n : Int) - 1 := ⟨_, rfl⟩
  refine CodeP.virt 7 52 3 rfl ?_
  refine CodeP.loopm hT hm (X := Nat × Int × List VoteD) (fun x => [(8, i64 x.2.1), (7, .osl 3 1 (x.1 + 1) (.cmp .eql (.nat x.1) (.lit 0)) (.lit 0) (.nat x.1))])
    (fun x => [.cells [i64 no, .slm 1 (some (.var nl)) intC fl], .row 52 3 (x.1 + 1) (.map VoteD.c x.2.2)])
    (fun x => x.1 ≤ n ∧ x.2.1 = (n : Int) - 1 - x.1 ∧ x.2.2.length = x.1 ∧ x.2.2 = (vs.drop (n - x.1)).reverse ∧ ∀ (i j : Nat) u v, n - x.1 ≤ i → j < i → vs[i]? = some v → vs[j]? = some u → u.by_ ≠ v.by_) (fun x => n - x.1) (0, z0, []) ⟨by simp, by simp [hz0], rfl, by simp [hnn], fun i j u v h1 _ h2 => by have := (List.getElem?_eq_some_iff.1 h2).1; simp at h1; omega⟩ (fun _ => by simp) ⟨?_, ?_, rfl⟩ ?_
  · (cbv; (repeat' (first | exact SnD.refl _ | exact trivial | exact SnD.nat0 | refine And.intro ?_ ?_)))
    · refine .eq (.int ?_)
      simp only [ncast] at hz0
      show binDen .sub .i64 (vs.length : Int) 1 = z0
      rw [sub64 (by omega) (by omega)]
      omega
    · exact osl_start
  · (cbv; (repeat' (first | exact trivial | exact BkEq.refl _ | exact SnD.refl _ | exact SnDs.nil | refine BkEq.cells ?_ | refine SnDs.cons ?_ ?_ | refine And.intro ?_ ?_)))
    exact .row rfl
  intro ⟨m, z, acc⟩ ⟨hm0, hz, hal, hacc, hdis⟩
  replace hm0 : m ≤ n := hm0
  replace hz : z = (n : Int) - 1 - m := hz
  replace hal : acc.length = m := hal
  replace hacc : acc = (vs.drop (n - m)).reverse := hacc
  replace hdis : ∀ (i j : Nat) u v, n - m ≤ i → j < i → vs[i]? = some v → vs[j]? = some u → u.by_ ≠ v.by_ := hdis
  cbv
  refine SplitP.mk (fun hs => ?_) (fun hs => ?_)
  · have h3 : decide (z ≥ 0) = true := hs
    have h4 := of_decide_eq_true h3
    simp only [ncast] at hz
    clear hs
    obtain ⟨i, rfl⟩ : ∃ i : Nat, z = (i : Int) := ⟨z.toNat, by omega⟩
    have hi : i + 1 + m = n := by omega
    refine ReqP.mk ⟨by show (0 : Int) ≤ 0; omega, by show (0 : Int) ≤ (i : Int); omega, by show (i : Int) ≤ (vs.length : Int); omega, by show (vs.length : Int) ≤ (vs.length : Int); omega, fun _ => rfl⟩ (fun _ => ?_)
    refine LetP.mk fun l hll => ?_
    replace hll : l = vs.take i := by rw [hll]; rfl
    have hlen : l.length = i := by rw [hll, List.length_take]; omega
    have hlx : ∀ (j : Nat) u, l[j]? = some u → vs[j]? = some u ∧ j < i := fun j u h => by
      rw [hll, List.getElem?_take] at h
      split at h
      · next q => exact ⟨h, q⟩
      · cases h
    obtain ⟨v, hv⟩ : ∃ v, vs[i]? = some v := ⟨_, List.getElem?_eq_getElem (by omega)⟩
    have hll2 : ∀ (j : Nat) u, j < i → vs[j]? = some u → l[j]? = some u := fun j u h1 h2 => by
      rw [hll, List.getElem?_take, if_pos h1, h2]
    clear hll
    cbv
    refine CodeP.loopm hT hm (X := Nat) (fun x => [(32, .int .i64 (.nat x))]) (fun x => [.cells [i64 no, .slm 1 (some (.var nl)) intC fl], .row 52 3 (m + 1) (.map VoteD.c acc)]) (fun x => x ≤ i ∧ ∀ (j : Nat) u, j < x → l[j]? = some u → u.by_ ≠ v.by_) (fun x => i - x) 0 ⟨by simp, fun j u h => by omega⟩ (fun _ => by simp) ⟨?_, ?_, rfl⟩ ?_
    · (cbv; (repeat' (first | exact SnD.refl _ | exact trivial | exact SnD.nat0 | refine And.intro ?_ ?_)))
    · (cbv; (repeat' (first | exact trivial | exact BkEq.refl _ | exact SnD.refl _ | exact SnDs.nil | refine BkEq.cells ?_ | refine SnDs.cons ?_ ?_ | refine And.intro ?_ ?_)))
    intro j ⟨hj, hne⟩
    replace hj : j ≤ i := hj
    replace hne : ∀ (j' : Nat) u, j' < j → l[j']? = some u → u.by_ ≠ v.by_ := hne
    cbv
    refine SplitP.mk (fun hs => ?_) (fun hs => ?_)
    · have hkn : j < l.length := by
        have h5 : decide ((j : Int) < (l.length : Int)) = true := hs
        have := of_decide_eq_true h5
        omega
      clear hs
      refine ElemP.mk (by show (0 : Int) ≤ (j : Int) ∧ (j : Int) < (l.length : Int); omega) (fun u hu => ?_)
      replace hu : l[j]? = some u := hu
      have hvb : VoteD.mk v.by_ v.device v.no = v := rfl
      obtain ⟨vb, vd, vn⟩ := v
      obtain ⟨ub, ud, un⟩ := u
      simp only at hne
      cbv
      refine ElemP.mk (by show (0 : Int) ≤ (i : Int) ∧ (i : Int) < (vs.length : Int); omega) (fun v' hv' => ?_)
      replace hv' : vs[i]? = some v' := hv'
      rw [hv] at hv'
      cases hv'
      cbv
      refine SplitP.mk (fun hs => ?_) (fun hs => ?_)
      · exact .mk (.cons (.eq (.bool rfl)) .nil) rfl
      · have h5 : decide (ub = vb) = false := hs
        have h6 := of_decide_eq_false h5
        refine BackP.intro (j + 1) ⟨by show j + 1 ≤ i; omega, fun j' w h1 h2 => ?_⟩ (by show i - (j + 1) < i - j; omega) ⟨?_, ?_, rfl⟩
        · by_cases q : j' = j
          · rw [q, hu] at h2
            cases h2
            exact h6
          · exact hne j' w (by show j' < j; have h1' : j' < j + 1 := h1; omega) h2
        · (cbv; (repeat' (first | exact SnD.refl _ | exact trivial | exact SnD.nat0 | refine And.intro ?_ ?_)))
          exact .inc (by omega)
        · (cbv; (repeat' (first | exact trivial | exact BkEq.refl _ | exact SnD.refl _ | exact SnDs.nil | refine BkEq.cells ?_ | refine SnDs.cons ?_ ?_ | refine And.intro ?_ ?_)))
    have hkn : l.length ≤ j := by
      have h5 : decide ((j : Int) < (l.length : Int)) = false := hs
      have := of_decide_eq_false h5
      omega
    clear hs
    have hji : j = i := by omega
    refine ElemP.mk (by show (0 : Int) ≤ (i : Int) ∧ (i : Int) < (vs.length : Int); omega) (fun v' hv' => ?_)
    replace hv' : vs[i]? = some v' := hv'
    rw [hv] at hv'
    cases hv'
    obtain ⟨acc', hacc'⟩ : ∃ a, a = acc ++ [v] := ⟨_, rfl⟩
    have hnew : acc' = (vs.drop (n - (m + 1))).reverse := by
      rw [hacc', hacc, show n - (m + 1) = i by omega, show n - m = i + 1 by omega, drop_cons hv, List.reverse_cons]
    have hd2 : ∀ (i' j : Nat) u w, n - (m + 1) ≤ i' → j < i' → vs[i']? = some w → vs[j]? = some u → u.by_ ≠ w.by_ := fun i' j' u w h1 h2 h3 h4 => by
      by_cases q : i' = i
      · rw [q] at h2 h3
        rw [hv] at h3
        cases h3
        exact hne j' u (by omega) (hll2 j' u h2 h4)
      · exact hdis i' j' u w (by omega) h2 h3 h4
    obtain ⟨vb, vd, vn⟩ := v
    cbv
    refine ReqP.mk (app_ok hal (by omega) (fun _ => rfl) rfl (by decide)) (fun _ => ?_)
    cbv
    obtain ⟨z2, hz2⟩ : ∃ z : Int, z = (i : Int) - 1 := ⟨_, rfl⟩
    refine BackP.intro (m + 1, z2, acc') ⟨by show m + 1 ≤ n; omega, by show z2 = (n : Int) - 1 - ((m + 1 : Nat) : Int); omega, by show acc'.length = m + 1; rw [hacc']; simp [hal], hnew, hd2⟩ (by show n - (m + 1) < n - m; omega) ⟨?_, ?_, rfl⟩
    · (cbv; (repeat' (first | exact SnD.refl _ | exact trivial | exact SnD.nat0 | refine And.intro ?_ ?_)))
      · refine .eq (.int ?_)
        simp only [ncast] at hz2
        show binDen .sub .i64 (i : Int) 1 = z2
        rw [sub64 (by omega) (by omega)]
        omega
      · exact osl_step m
    · (cbv; (repeat' (first | exact trivial | exact BkEq.refl _ | exact SnD.refl _ | exact SnDs.nil | refine BkEq.cells ?_ | refine SnDs.cons ?_ ?_ | refine And.intro ?_ ?_)))
      · exact row_app _ hacc' (.cons (.int rfl) (.cons (.int rfl) (.cons (.int rfl) .nil)))
  have h3 : decide (z ≥ 0) = false := hs
  have h4 := of_decide_eq_false h3
  simp only [ncast] at hz
  have hmn : m = n := by omega
  have hacc2 : acc = vs.reverse := by rw [hacc, hmn, Nat.sub_self, List.drop_zero]
  have hnd : (vs.map (·.by_)).Nodup := nodup_of fun i j u v h1 h2 h3 => hdis i j u v (by omega) h1 h2 h3
  have hW := hV2 acc (by omega) (by omega) (by rw [hacc2]; exact hrev hnd)
  clear hacc hdis hacc2 hs
  refine CallP.pure _ (hV (by omega) (by omega)) rfl ?_
  cbv
  refine CallP.pre [.agg [i64 no, .slm 1 (some (.var nl)) intC fl], .slm 3 none VoteD.c acc, i64 dv] [_, .dead, _] (.cons (.eq (.refl _)) (.cons (.slm rfl (.inl ⟨_, _, rfl, rfl⟩) rfl (by show (m : Int) = (acc.length : Int); omega) (fun e h => by cases h)) (.cons (.eq (.refl _)) .nil))) ⟨.refl _, .dead _, .refl _, trivial⟩ rfl rfl ?_
  refine CallP.pure _ hW rfl ?_
  cbv
  refine SplitP.mk (fun _ => ?_) (fun h => (by have h3 : decide (e = e) = false := h; simp at h3))
  refine CallP.pure _ (hE (by have := hvl (by omega); omega)) rfl ?_
  cbv
  exact .mk (.cons (.eq (.bool rfl)) .nil) rfl
theorem own : ownKnob Try.prog.godebug = none := by kernel_rfl
theorem laidOut : laidOutB Try.prog = true := by kernel_rfl
set_option maxRecDepth 100000 in
theorem lifted (os : Os) (started : os.Started) (H : Type) (enc : TypeId × Value → H) :
    ReturnsInHanded {} Try.checked os 7 .any (Rows.fenceOrderSpec.pre6 enc Try.prog Try.f7 Rows.fenceOrderRow.domain false) (Rows.fenceOrderSpec.post enc Try.prog Try.f7 false true false false) := by
  refine returnsInHanded_of_change (C := Try.checked) own started (by kernel_rfl) Try.func7
    (ChangeSpec.witness6 (enc := enc) (C := Try.checked) false ⟨#[], #[.agg #[.int .i64 0, .slice none 0 0], .slice none 0 0, .int .i64 0], []⟩ 8 (by kernel_rfl) (by kernel_rfl) (by kernel_rfl) (by kernel_rfl)) ?_
  intro W base args ds gs before hval0 hW hcnd _
  have hval : ∀ (j : Nat) t v, Try.f7.params[j]? = some t → args[j]? = some v → Value.okWide Try.prog W .any base t v := hval0
  have hW' := hW
  obtain ⟨p, q, hA0, hV, rfl, hfz, hnd⟩ := hW
  have hA : DataW.TrodAll enc Try.prog W 0 (fun _ => true) true Try.f7.params.toList args.toList ds p := hA0
  rw [Try.params7] at hA hval
  obtain ⟨v0, vs0, d0, ds0, p0, q0, hargs, rfl, rfl, h0, r0⟩ := trodAll_cons hA
  obtain ⟨v1, vs1, d1, ds1, p1, q1, rfl, rfl, rfl, h1, r1⟩ := trodAll_cons r0
  obtain ⟨v2, vs2, d2, ds2, p2, q2, rfl, rfl, rfl, h2, r2⟩ := trodAll_cons r1
  obtain ⟨rfl, rfl, rfl⟩ := trodAll_nil r2
  obtain rfl : args = #[v0, v1, v2] := by cases args; simp_all
  obtain ⟨rfl, rfl⟩ := trodVars_none hV
  have k0 := h0
  have lt0 : ∀ x ∈ p0, x.block < W.heap.size := by obtain ⟨m, hm⟩ := k0; exact DataW.trod_lt m _ _ _ hm
  obtain ⟨f0, ⟨fn0, fl0⟩, rp0⟩ := open_st Try.underlying24 opd_fence (hval 0 24 v0 rfl rfl) h0
  have k1 := h1
  have lt1 : ∀ x ∈ p1, x.block < W.heap.size := by obtain ⟨m, hm⟩ := k1; exact DataW.trod_lt m _ _ _ hm
  obtain ⟨⟨nb1, l1⟩, ⟨ln1, _, ll1⟩, rp1⟩ := open_sl (e := 52) (by kernel_rfl) opd_votes (hval 1 25 v1 rfl rfl) h1
  have k2 := h2
  have lt2 : ∀ x ∈ p2, x.block < W.heap.size := by obtain ⟨m, hm⟩ := k2; exact DataW.trod_lt m _ _ _ hm
  obtain ⟨z2, wf2, rp2⟩ := open_i Try.underlying3 (hval 2 3 v2 rfl rfl) h2
  clear hA0 hval0
  refine (Pure.law (main_pure f0 fn0 fl0 nb1 l1 ln1 ll1 z2 wf2) (lrep_cons rp0 (lrep_cons rp1 (lrep_cons rp2 LRep.nil)))).mono fun e W' ⟨he, bel⟩ => ?_
  subst he
  exact ⟨_, rfl, _, _, _, [], _, [], hW', trodAll_mk1 (shut_bool Try.underlying4 _), (trodAll_cons_mk (Below.trod laidOut (by kernel_rfl) (of_decide_eq_true (by kernel_rfl)) k0 bel lt0) (trodAll_cons_mk (Below.trod laidOut (by kernel_rfl) (of_decide_eq_true (by kernel_rfl)) k1 bel lt1) (trodAll_cons_mk (Below.trod laidOut (by kernel_rfl) (of_decide_eq_true (by kernel_rfl)) k2 bel lt2) trodAll_mk0))), rfl, bel.frame _, fun h => by cases h⟩

theorem over : Rows.fenceOrderRow.holds Try.pinned (OpenSpec.ofChange Rows.fenceOrderSpec) :=
  OpenClaim.holds_of_wide 7 Try.f7 rfl rfl rfl rfl rfl rfl rfl ⟨rfl, rfl, rfl, rfl, rfl⟩ rfl rfl rfl rfl rfl (by kernel_rfl) Try.func7 (by kernel_rfl)
    (of_decide_eq_true (by kernel_rfl)) (by unfold Func.isWrapper; first | (rw [if_pos (by decide +kernel)]; kernel_rfl) | (rw [if_neg (by decide +kernel)]; exact ⟨rfl, rfl⟩))
    (fun os started H enc _ => lifted os started H enc)
end fenceOrder
theorem fenceOrder_holds : Rows.FenceOrderSaid := fenceOrder.over
#print axioms fenceOrder_holds

end Go.Proofs.Ytbmcepkccenoaaa
