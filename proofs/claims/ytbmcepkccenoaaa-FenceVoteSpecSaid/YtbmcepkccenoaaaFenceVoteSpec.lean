/- FenceVoteSpec: for every fence, list of votes and two numbers the law returns true and leaves its arguments as they were. No condition. -/
import Derived.Test.YtbmcepkccenoaaaPart4
set_option linter.all false
set_option linter.unusedSimpArgs false
set_option linter.unusedVariables false
set_option linter.unnecessarySimpa false
namespace Go.Proofs.Ytbmcepkccenoaaa
open Go.ChangeShapes Go.WideShapes Go.ChangeAt Go.RowKit
namespace fenceVoteSpec
set_option maxRecDepth 100000 in
set_option maxHeartbeats 4000000 in
theorem main_pure (f : FenceD) (hn : f.nil = true → f.devices = []) (hl : f.devices.length ≤ maxLen) (nv : Bool) (vs : List VoteD) (hn2 : nv = true → vs = []) (hl2 : vs.length ≤ maxLen) (dv : Int) (hd : InR .i64 dv) (dd : Int) (hd2 : InR .i64 dd) : Pure Try.prog 3 [f.d, .slm 3 (some (.var nv)) VoteD.c vs, i64 dv, i64 dd] (boolD true) := by
  have hS := sane_pure
  have hF := FFew_pure f vs (some (.var nv))
  obtain ⟨fw, hfw⟩ : ∃ b, b = decide (f.devices.length ≤ 10 ∧ vs.length ≤ 10) := ⟨_, rfl⟩
  rw [← hfw] at hF
  have hV := fun h1 h2 => Vote_pure f vs (some (.var nv)) dv h1 hn h2
  have hR := fun h1 h2 => RVote_pure f vs (some (.var nv)) dv h1 h2
  have hI := fun h => Is_pure f dd h
  have hJ := fun h => RIs_pure f dd h
  have hL := vote_law f vs dv
  have hvl : f.devices.length ≤ 10 → (voteP f vs dv).1.devices.length < 9223372036854775807 := fun h => by
    unfold voteP
    split
    · simp [zeroF]
    · split
      · simp [zeroF]
      · next q =>
        simp only [sortI, List.length_mergeSort, List.length_append]
        omega
  have hE := fun h => FSame_pure (voteP f vs dv).1 (rvoteP f vs dv).1 h
  rw [hL.1] at hE
  obtain ⟨x, hx⟩ : ∃ x, x = (voteP f vs dv).1 := ⟨_, rfl⟩
  obtain ⟨y, hy⟩ : ∃ x, x = (rvoteP f vs dv).1 := ⟨_, rfl⟩
  obtain ⟨e, he⟩ : ∃ x, x = (voteP f vs dv).2 := ⟨_, rfl⟩
  rw [← hx, ← hy] at hE
  rw [← hx, ← he] at hV
  rw [← hL.2, ← he, ← hy] at hR
  rw [← hx] at hvl
  obtain ⟨m, hmm⟩ : ∃ m, m = decide (dd ∈ f.devices) := ⟨_, rfl⟩
  rw [← hmm] at hI hJ
  clear hx hy he hL hmm
  obtain ⟨no, nl, fl⟩ := f
  simp only at hvl hI hJ hV hR hfw
  refine Pure.intro (want := [boolD true]) T_ok follows Try.func3 rfl (by kernel_rfl) (rs := [.tmp 8]) rfl (by kernel_rfl) ?_
  generalize hP : Try.prog = P at *
  have hT : T.ok P := hP ▸ T_ok
  have hm : P.follows .mixedOrders = true := hP ▸ follows
  unfold Try.f3
  dsimp only
  cbv
  refine CallP.pure _ hS rfl ?_
  cbv
  refine SplitP.mk (fun hs => ?_) (fun hs => ?_)
  · cases (show (!true) = true from hs)
  clear hs
  refine CallP.pure _ hF rfl ?_
  cbv
  refine SplitP.mk (fun hs => ?_) (fun hs => ?_) <;> simp only [BE.not_t, BE.not_f, BE.var_d] at hs
  · exact .mk (.cons (.eq (.bool rfl)) .nil) rfl
  have h10 := of_decide_eq_true (hfw.symm.trans hs)
  refine CallP.pure _ (hV (by omega) (by omega)) rfl ?_
  cbv
  refine CallP.pure _ (hR (by omega) (by omega)) rfl ?_
  cbv
  refine .mk _ (hE (hvl (by omega))) rfl ?_
  cbv
  refine SplitP.mk (fun _ => ?_) (fun h => (by cases (show true = false from h)))
  refine SplitP.mk (fun _ => ?_) (fun h => (by have h3 : decide (e = e) = false := h; simp at h3))
  refine .mk _ (hI (by omega)) rfl ?_
  cbv
  refine .mk _ (hJ (by omega)) rfl ?_
  cbv
  refine .mk (.cons (.eq (.bool ?_)) .nil) rfl
  show (m == m) = true
  cases m <;> rfl
theorem own : ownKnob Try.prog.godebug = none := by kernel_rfl
theorem laidOut : laidOutB Try.prog = true := by kernel_rfl
set_option maxRecDepth 100000 in
theorem lifted (os : Os) (started : os.Started) (H : Type) (enc : TypeId × Value → H) :
    ReturnsInHanded {} Try.checked os 3 .any (Rows.fenceVoteSpecSpec.pre6 enc Try.prog Try.f3 Rows.fenceVoteSpecRow.domain false) (Rows.fenceVoteSpecSpec.post enc Try.prog Try.f3 false true false false) := by
  refine returnsInHanded_of_change (C := Try.checked) own started (by kernel_rfl) Try.func3
    (ChangeSpec.witness6 (enc := enc) (C := Try.checked) false ⟨#[], #[.agg #[.int .i64 0, .slice none 0 0], .slice none 0 0, .int .i64 0, .int .i64 0], []⟩ 8 (by kernel_rfl) (by kernel_rfl) (by kernel_rfl) (by kernel_rfl)) ?_
  intro W base args ds gs before hval0 hW hcnd _
  have hval : ∀ (j : Nat) t v, Try.f3.params[j]? = some t → args[j]? = some v → Value.okWide Try.prog W .any base t v := hval0
  have hW' := hW
  obtain ⟨p, q, hA0, hV, rfl, hfz, hnd⟩ := hW
  have hA : DataW.TrodAll enc Try.prog W 0 (fun _ => true) true Try.f3.params.toList args.toList ds p := hA0
  rw [Try.params3] at hA hval
  obtain ⟨v0, vs0, d0, ds0, p0, q0, hargs, rfl, rfl, h0, r0⟩ := trodAll_cons hA
  obtain ⟨v1, vs1, d1, ds1, p1, q1, rfl, rfl, rfl, h1, r1⟩ := trodAll_cons r0
  obtain ⟨v2, vs2, d2, ds2, p2, q2, rfl, rfl, rfl, h2, r2⟩ := trodAll_cons r1
  obtain ⟨v3, vs3, d3, ds3, p3, q3, rfl, rfl, rfl, h3, r3⟩ := trodAll_cons r2
  obtain ⟨rfl, rfl, rfl⟩ := trodAll_nil r3
  obtain rfl : args = #[v0, v1, v2, v3] := by cases args; simp_all
  obtain ⟨rfl, rfl⟩ := trodVars_none hV
  have k0 := h0
  have lt0 : ∀ x ∈ p0, x.block < W.heap.size := by obtain ⟨m, hm⟩ := k0; exact DataW.trod_lt m _ _ _ hm
  obtain ⟨f0, ⟨fn0, fl0⟩, rp0⟩ := open_st Try.underlying24 opd_fence (hval 0 24 v0 rfl rfl) h0
  have k1 := h1
  have lt1 : ∀ x ∈ p1, x.block < W.heap.size := by obtain ⟨m, hm⟩ := k1; exact DataW.trod_lt m _ _ _ hm
  obtain ⟨⟨nb1, l1⟩, ⟨ln1, _, ll1⟩, rp1⟩ := open_sl (e := 52) (by kernel_rfl) opd_votes (hval 1 25 v1 rfl rfl) h1
  have k2 := h2
  have lt2 : ∀ x ∈ p2, x.block < W.heap.size := by obtain ⟨m, hm⟩ := k2; exact DataW.trod_lt m _ _ _ hm
  obtain ⟨z2, wf2, rp2⟩ := open_i Try.underlying3 (hval 2 3 v2 rfl rfl) h2
  have k3 := h3
  have lt3 : ∀ x ∈ p3, x.block < W.heap.size := by obtain ⟨m, hm⟩ := k3; exact DataW.trod_lt m _ _ _ hm
  obtain ⟨z3, wf3, rp3⟩ := open_i Try.underlying3 (hval 3 3 v3 rfl rfl) h3
  clear hA0 hval0
  refine (Pure.law (main_pure f0 fn0 fl0 nb1 l1 ln1 ll1 z2 wf2 z3 wf3) (lrep_cons rp0 (lrep_cons rp1 (lrep_cons rp2 (lrep_cons rp3 LRep.nil))))).mono fun e W' ⟨he, bel⟩ => ?_
  subst he
  exact ⟨_, rfl, _, _, _, [], _, [], hW', trodAll_mk1 (shut_bool Try.underlying4 _), (trodAll_cons_mk (Below.trod laidOut (by kernel_rfl) (of_decide_eq_true (by kernel_rfl)) k0 bel lt0) (trodAll_cons_mk (Below.trod laidOut (by kernel_rfl) (of_decide_eq_true (by kernel_rfl)) k1 bel lt1) (trodAll_cons_mk (Below.trod laidOut (by kernel_rfl) (of_decide_eq_true (by kernel_rfl)) k2 bel lt2) (trodAll_cons_mk (Below.trod laidOut (by kernel_rfl) (of_decide_eq_true (by kernel_rfl)) k3 bel lt3) trodAll_mk0)))), rfl, bel.frame _, fun h => by cases h⟩

theorem over : Rows.fenceVoteSpecRow.holds Try.pinned (OpenSpec.ofChange Rows.fenceVoteSpecSpec) :=
  OpenClaim.holds_of_wide 3 Try.f3 rfl rfl rfl rfl rfl rfl rfl ⟨rfl, rfl, rfl, rfl, rfl⟩ rfl rfl rfl rfl rfl (by kernel_rfl) Try.func3 (by kernel_rfl)
    (of_decide_eq_true (by kernel_rfl)) (by unfold Func.isWrapper; first | (rw [if_pos (by decide +kernel)]; kernel_rfl) | (rw [if_neg (by decide +kernel)]; exact ⟨rfl, rfl⟩))
    (fun os started H enc _ => lifted os started H enc)
end fenceVoteSpec
theorem fenceVoteSpec_holds : Rows.FenceVoteSpecSaid := fenceVoteSpec.over
#print axioms fenceVoteSpec_holds

end Go.Proofs.Ytbmcepkccenoaaa
