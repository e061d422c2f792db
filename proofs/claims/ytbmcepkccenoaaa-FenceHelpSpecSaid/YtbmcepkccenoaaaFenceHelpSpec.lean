/- FenceHelpSpec: for every fence, seed, coins, list of shares, two shares and three numbers the law returns true and leaves its arguments as they were. No condition. -/
import Derived.Test.YtbmcepkccenoaaaPart4
set_option linter.all false
set_option linter.unusedSimpArgs false
set_option linter.unusedVariables false
set_option linter.unnecessarySimpa false
namespace Go.Proofs.Ytbmcepkccenoaaa
open Go.ChangeShapes Go.WideShapes Go.ChangeAt Go.RowKit
namespace fenceHelpSpec
theorem sameS_refl (a : ShareD) : sameS a a = true := by simp [sameS]
theorem sameL_refl : ∀ l : List ShareD, sameL l l = true
  | [] => rfl
  | a :: l => by simp [sameL, sameS_refl a, sameL_refl l]
theorem split_len (seed : List (BitVec 8)) (dv : Int) (coins : List (BitVec 8)) : (fsplitL seed dv coins).length ≤ 4 := by
  unfold fsplitL splitL
  split
  · simp
  · split
    · simp; omega
    · simp
theorem seed_len (a b : ShareD) : (seedP a b).1.length = 32 := by
  have key : ∀ e l, (seedOf e l).1.length = 32 := fun e l => by
    unfold seedOf
    split
    · simp
    · split
      · simp
      · next h => simpa using h
  unfold seedP
  split <;> exact key _ _
set_option maxRecDepth 100000 in
set_option maxHeartbeats 4000000 in
theorem main_pure (f : FenceD) (hn : f.nil = true → f.devices = []) (hl : f.devices.length ≤ maxLen) (seed : List (BitVec 8)) (hs32 : seed.length = 32) (dv : Int) (hdv : InR .i64 dv) (cn : Bool) (coins : List (BitVec 8)) (hcn : cn = true → coins = []) (hcl : coins.length ≤ maxLen)
    (nv : Bool) (l : List ShareD) (hln : nv = true → l = []) (hlk : ∀ x ∈ l, (x.nil = true → x.data = []) ∧ x.data.length ≤ maxLen) (hll : l.length ≤ maxLen) (d : Int) (hd : InR .i64 d) (b : Int) (hb : InR .i64 b) (sa : ShareD) (hsa : sa.nil = true → sa.data = []) (hsal : sa.data.length ≤ maxLen)
    (sb : ShareD) (hsb : sb.nil = true → sb.data = []) (hsbl : sb.data.length ≤ maxLen) : Pure Try.prog 4 [f.d, .agg (seed.map fun b => u8D b), i64 dv, .slm 1 (some (.var cn)) u8C coins, .slm 5 (some (.var nv)) ShareD.c l, i64 d, i64 b, .agg sa.c, .agg sb.c] (boolD true) := by
  have hS := sane_pure
  unfold maxLen at hl hcl hll
  have hF := Pure.args (args' := [f.d, .slm 3 none VoteD.c []]) (args := [f.d, .nils]) (.cons (.refl _) (.cons (.nil0 rfl) .nil)) (FFew_pure f [] none)
  obtain ⟨fw, hfw⟩ : ∃ b, b = decide (f.devices.length ≤ 10 ∧ ([] : List VoteD).length ≤ 10) := ⟨_, rfl⟩
  rw [← hfw] at hF
  have hfl : fw = true → f.devices.length ≤ 10 := fun h => by
    rw [hfw] at h
    exact (of_decide_eq_true h).1
  have hG := SFew_pure l (some (.var nv)) (by omega)
  have hG2 := Pure.args (args' := [.slm 5 none ShareD.c [sa, sb]]) (args := [.sll 5 [sa.c, sb.c]]) (.cons (.sll rfl (fun e h => by cases h)) .nil) (SFew_pure [sa, sb] none (by simp))
  obtain ⟨g1, hg1⟩ : ∃ b, b = sfewB l := ⟨_, rfl⟩
  obtain ⟨g2, hg2⟩ : ∃ b, b = sfewB [sa, sb] := ⟨_, rfl⟩
  have hg1' : g1 = true → ∀ s ∈ l, (s.nil = true → s.data = []) ∧ s.data.length ≤ 100000 := fun h s hs => by
    rw [hg1] at h
    unfold sfewB at h
    simp only [Bool.and_eq_true, List.all_eq_true, decide_eq_true_eq] at h
    have := h.1 s hs
    exact ⟨(hlk s hs).1, by omega⟩
  have hg1l : g1 = true → l.length ≤ 10 := fun h => by
    rw [hg1] at h
    unfold sfewB at h
    simp only [Bool.and_eq_true, decide_eq_true_eq] at h
    exact h.2
  rw [← hg1] at hG
  rw [← hg2] at hG2
  have hQ := FSplit_pure seed coins hs32 (some (.var cn)) dv
  have hQ2 := RFSplit_pure seed coins hs32 (some (.var cn)) dv
  have hPl := split_len seed dv coins
  obtain ⟨x, hx⟩ : ∃ x, x = fsplitL seed dv coins := ⟨_, rfl⟩
  obtain ⟨e, he⟩ : ∃ x, x = fsplitE dv coins := ⟨_, rfl⟩
  rw [← hx, ← he] at hQ hQ2
  rw [← hx] at hPl
  have hPs := SSame_pure x x none none (by omega)
  rw [sameL_refl] at hPs
  have hH := fun h1 h2 h => Help_pure f l (some (.var nv)) d b h1 h2 h
  have hH2 := fun h1 h2 => RHelp_pure f l (some (.var nv)) d b h1 h2
  obtain ⟨hs, hhs⟩ : ∃ x, x = (helpP f l d b).1 := ⟨_, rfl⟩
  obtain ⟨he2, hhe⟩ : ∃ x, x = (helpP f l d b).2 := ⟨_, rfl⟩
  rw [← hhs, ← hhe] at hH hH2
  have hHs := SameShare_pure hs hs
  rw [sameS_refl] at hHs
  have hD := Seed_pure sa sb
  have hD2 := RSeed_pure sa sb
  have hsl := seed_len sa sb
  obtain ⟨sd, hsd⟩ : ∃ x, x = (seedP sa sb).1 := ⟨_, rfl⟩
  obtain ⟨se, hse⟩ : ∃ x, x = (seedP sa sb).2 := ⟨_, rfl⟩
  rw [← hsd, ← hse] at hD hD2
  rw [← hsd] at hsl
  clear hsd hse hhs hhe hx he hg1 hg2 hfw
  obtain ⟨x0, x1, x2, x3, x4, x5, x6, x7, x8, x9, x10, x11, x12, x13, x14, x15, x16, x17, x18, x19, x20, x21, x22, x23, x24, x25, x26, x27, x28, x29, x30, x31, rfl⟩ := list32 hs32
  obtain ⟨y0, y1, y2, y3, y4, y5, y6, y7, y8, y9, y10, y11, y12, y13, y14, y15, y16, y17, y18, y19, y20, y21, y22, y23, y24, y25, y26, y27, y28, y29, y30, y31, rfl⟩ := list32 hsl
  clear hs32 hsl
  obtain ⟨no, nl, fl⟩ := f
  obtain ⟨ae, ai, at_, am, an, ad⟩ := sa
  obtain ⟨be, bi, bt, bm, bn, bd⟩ := sb
  simp only at hfl hF hH hH2 hD hD2 hG2
  refine Pure.intro (want := [boolD true]) T_ok follows Try.func4 rfl (by kernel_rfl) (rs := [.tmp 18]) rfl (by kernel_rfl) ?_
  generalize hP : Try.prog = P at *
  have hT : T.ok P := hP ▸ T_ok
  have hm : P.follows .mixedOrders = true := hP ▸ follows
  unfold Try.f4
  dsimp only
  cbv
  refine CallP.pure _ hS rfl ?_
  cbv
  refine SplitP.mk (fun hs => ?_) (fun hs => ?_)
  · cases (show (!true) = true from hs)
  clear hs
  refine CallP.pure _ hF rfl ?_
  cbv
  refine SplitP.mk (fun hs => ?_) (fun hs => ?_) <;> simp only [BE.not_t, BE.not_f, BE.var_d] at hs
  · exact .mk (.cons (.eq (.bool rfl)) .nil) rfl
  have hfl := hfl hs
  clear hs
  refine SplitP.mk (fun hs => ?_) (fun hs => ?_)
  · exact .mk (.cons (.eq (.bool rfl)) .nil) rfl
  clear hs
  refine CallP.pure _ hG rfl ?_
  cbv
  refine SplitP.mk (fun hs => ?_) (fun hs => ?_) <;> simp only [BE.not_t, BE.not_f, BE.var_d] at hs
  · exact .mk (.cons (.eq (.bool rfl)) .nil) rfl
  have hg1 := hg1' hs
  have hg1l := hg1l hs
  clear hs
  refine CallP.pure _ hG2 rfl ?_
  cbv
  refine SplitP.mk (fun hs => ?_) (fun hs => ?_) <;> simp only [BE.not_t, BE.not_f, BE.var_d] at hs
  · exact .mk (.cons (.eq (.bool rfl)) .nil) rfl
  clear hs
  refine CallP.pure _ hQ rfl ?_
  cbv
  refine CallP.pure _ hQ2 rfl ?_
  cbv
  refine CallP.pure _ (hH (by omega) (by omega) hg1) rfl ?_
  cbv
  refine CallP.pure _ (hH2 (by omega) (by omega)) rfl ?_
  cbv
  refine CallP.pure _ hD rfl ?_
  cbv
  refine CallP.pure _ hD2 rfl ?_
  cbv
  refine CallP.pure _ hPs rfl ?_
  cbv
  refine SplitP.mk (fun _ => ?_) (fun h => (by cases (show true = false from h)))
  refine SplitP.mk (fun _ => ?_) (fun h => (by have h3 : decide (e = e) = false := h; simp at h3))
  refine CallP.pure _ hHs rfl ?_
  cbv
  refine SplitP.mk (fun _ => ?_) (fun h => (by cases (show true = false from h)))
  refine SplitP.mk (fun _ => ?_) (fun h => (by have h3 : decide (he2 = he2) = false := h; simp at h3))
  refine SplitP.mk (fun _ => ?_) (fun h => (by exfalso; revert h; simp [BE.den, IE.den, cmpDen]))
  refine .mk (.cons (.eq (.bool ?_)) .nil) rfl
  show decide (se = se) = true
  simp
theorem own : ownKnob Try.prog.godebug = none := by kernel_rfl
theorem laidOut : laidOutB Try.prog = true := by kernel_rfl
set_option maxRecDepth 100000 in
theorem lifted (os : Os) (started : os.Started) (H : Type) (enc : TypeId × Value → H) :
    ReturnsInHanded {} Try.checked os 4 .any (Rows.fenceHelpSpecSpec.pre6 enc Try.prog Try.f4 Rows.fenceHelpSpecRow.domain false) (Rows.fenceHelpSpecSpec.post enc Try.prog Try.f4 false true false false) := by
  refine returnsInHanded_of_change (C := Try.checked) own started (by kernel_rfl) Try.func4
    (ChangeSpec.witness6 (enc := enc) (C := Try.checked) false ⟨#[], #[.agg #[.int .i64 0, .slice none 0 0], .agg (Array.replicate 32 (.int .u8 0)), .int .i64 0, .slice none 0 0, .slice none 0 0, .int .i64 0, .int .i64 0, .agg #[.int .i64 0, .int .i64 0, .int .i64 0, .int .i64 0, .slice none 0 0], .agg #[.int .i64 0, .int .i64 0, .int .i64 0, .int .i64 0, .slice none 0 0]], []⟩ 8 (by kernel_rfl) (by kernel_rfl) (by kernel_rfl) (by kernel_rfl)) ?_
  intro W base args ds gs before hval0 hW hcnd _
  have hval : ∀ (j : Nat) t v, Try.f4.params[j]? = some t → args[j]? = some v → Value.okWide Try.prog W .any base t v := hval0
  have hW' := hW
  obtain ⟨p, q, hA0, hV, rfl, hfz, hnd⟩ := hW
  have hA : DataW.TrodAll enc Try.prog W 0 (fun _ => true) true Try.f4.params.toList args.toList ds p := hA0
  rw [Try.params4] at hA hval
  obtain ⟨v0, vs0, d0, ds0, p0, q0, hargs, rfl, rfl, h0, r0⟩ := trodAll_cons hA
  obtain ⟨v1, vs1, d1, ds1, p1, q1, rfl, rfl, rfl, h1, r1⟩ := trodAll_cons r0
  obtain ⟨v2, vs2, d2, ds2, p2, q2, rfl, rfl, rfl, h2, r2⟩ := trodAll_cons r1
  obtain ⟨v3, vs3, d3, ds3, p3, q3, rfl, rfl, rfl, h3, r3⟩ := trodAll_cons r2
  obtain ⟨v4, vs4, d4, ds4, p4, q4, rfl, rfl, rfl, h4, r4⟩ := trodAll_cons r3
  obtain ⟨v5, vs5, d5, ds5, p5, q5, rfl, rfl, rfl, h5, r5⟩ := trodAll_cons r4
  obtain ⟨v6, vs6, d6, ds6, p6, q6, rfl, rfl, rfl, h6, r6⟩ := trodAll_cons r5
  obtain ⟨v7, vs7, d7, ds7, p7, q7, rfl, rfl, rfl, h7, r7⟩ := trodAll_cons r6
  obtain ⟨v8, vs8, d8, ds8, p8, q8, rfl, rfl, rfl, h8, r8⟩ := trodAll_cons r7
  obtain ⟨rfl, rfl, rfl⟩ := trodAll_nil r8
  obtain rfl : args = #[v0, v1, v2, v3, v4, v5, v6, v7, v8] := by cases args; simp_all
  obtain ⟨rfl, rfl⟩ := trodVars_none hV
  have k0 := h0
  have lt0 : ∀ x ∈ p0, x.block < W.heap.size := by obtain ⟨m, hm⟩ := k0; exact DataW.trod_lt m _ _ _ hm
  obtain ⟨f0, ⟨fn0, fl0⟩, rp0⟩ := open_st Try.underlying24 opd_fence (hval 0 24 v0 rfl rfl) h0
  have k1 := h1
  have lt1 : ∀ x ∈ p1, x.block < W.heap.size := by obtain ⟨m, hm⟩ := k1; exact DataW.trod_lt m _ _ _ hm
  obtain ⟨g1, gl1, rp1⟩ := open_digest (hval 1 35 v1 rfl rfl) h1
  have k2 := h2
  have lt2 : ∀ x ∈ p2, x.block < W.heap.size := by obtain ⟨m, hm⟩ := k2; exact DataW.trod_lt m _ _ _ hm
  obtain ⟨z2, wf2, rp2⟩ := open_i Try.underlying3 (hval 2 3 v2 rfl rfl) h2
  have k3 := h3
  have lt3 : ∀ x ∈ p3, x.block < W.heap.size := by obtain ⟨m, hm⟩ := k3; exact DataW.trod_lt m _ _ _ hm
  obtain ⟨⟨nb3, l3⟩, ⟨ln3, _, ll3⟩, rp3⟩ := open_sl (e := 5) (by kernel_rfl) opd_bytes (hval 3 36 v3 rfl rfl) h3
  have k4 := h4
  have lt4 : ∀ x ∈ p4, x.block < W.heap.size := by obtain ⟨m, hm⟩ := k4; exact DataW.trod_lt m _ _ _ hm
  obtain ⟨⟨nb4, l4⟩, ⟨ln4, lk4, ll4⟩, rp4⟩ := open_sl (e := 39) (by kernel_rfl) opd_shares (hval 4 37 v4 rfl rfl) h4
  have k5 := h5
  have lt5 : ∀ x ∈ p5, x.block < W.heap.size := by obtain ⟨m, hm⟩ := k5; exact DataW.trod_lt m _ _ _ hm
  obtain ⟨z5, wf5, rp5⟩ := open_i Try.underlying3 (hval 5 3 v5 rfl rfl) h5
  have k6 := h6
  have lt6 : ∀ x ∈ p6, x.block < W.heap.size := by obtain ⟨m, hm⟩ := k6; exact DataW.trod_lt m _ _ _ hm
  obtain ⟨z6, wf6, rp6⟩ := open_i Try.underlying3 (hval 6 3 v6 rfl rfl) h6
  have k7 := h7
  have lt7 : ∀ x ∈ p7, x.block < W.heap.size := by obtain ⟨m, hm⟩ := k7; exact DataW.trod_lt m _ _ _ hm
  obtain ⟨s7, ⟨sn7, sl7⟩, rp7⟩ := open_st Try.underlying39 opd_share (hval 7 39 v7 rfl rfl) h7
  have k8 := h8
  have lt8 : ∀ x ∈ p8, x.block < W.heap.size := by obtain ⟨m, hm⟩ := k8; exact DataW.trod_lt m _ _ _ hm
  obtain ⟨s8, ⟨sn8, sl8⟩, rp8⟩ := open_st Try.underlying39 opd_share (hval 8 39 v8 rfl rfl) h8
  clear hA0 hval0
  refine (Pure.law (main_pure f0 fn0 fl0 g1 gl1 z2 wf2 nb3 l3 ln3 ll3 nb4 l4 ln4 lk4 ll4 z5 wf5 z6 wf6 s7 sn7 sl7 s8 sn8 sl8) (lrep_cons rp0 (lrep_cons rp1 (lrep_cons rp2 (lrep_cons rp3 (lrep_cons rp4 (lrep_cons rp5 (lrep_cons rp6 (lrep_cons rp7 (lrep_cons rp8 LRep.nil)))))))))).mono fun e W' ⟨he, bel⟩ => ?_
  subst he
  exact ⟨_, rfl, _, _, _, [], _, [], hW', trodAll_mk1 (shut_bool Try.underlying4 _), (trodAll_cons_mk (Below.trod laidOut (by kernel_rfl) (of_decide_eq_true (by kernel_rfl)) k0 bel lt0) (trodAll_cons_mk (Below.trod laidOut (by kernel_rfl) (of_decide_eq_true (by kernel_rfl)) k1 bel lt1) (trodAll_cons_mk (Below.trod laidOut (by kernel_rfl) (of_decide_eq_true (by kernel_rfl)) k2 bel lt2) (trodAll_cons_mk (Below.trod laidOut (by kernel_rfl) (of_decide_eq_true (by kernel_rfl)) k3 bel lt3) (trodAll_cons_mk (Below.trod laidOut (by kernel_rfl) (of_decide_eq_true (by kernel_rfl)) k4 bel lt4) (trodAll_cons_mk (Below.trod laidOut (by kernel_rfl) (of_decide_eq_true (by kernel_rfl)) k5 bel lt5) (trodAll_cons_mk (Below.trod laidOut (by kernel_rfl) (of_decide_eq_true (by kernel_rfl)) k6 bel lt6) (trodAll_cons_mk (Below.trod laidOut (by kernel_rfl) (of_decide_eq_true (by kernel_rfl)) k7 bel lt7) (trodAll_cons_mk (Below.trod laidOut (by kernel_rfl) (of_decide_eq_true (by kernel_rfl)) k8 bel lt8) trodAll_mk0))))))))), rfl, bel.frame _, fun h => by cases h⟩

theorem over : Rows.fenceHelpSpecRow.holds Try.pinned (OpenSpec.ofChange Rows.fenceHelpSpecSpec) :=
  OpenClaim.holds_of_wide 4 Try.f4 rfl rfl rfl rfl rfl rfl rfl ⟨rfl, rfl, rfl, rfl, rfl⟩ rfl rfl rfl rfl rfl (by kernel_rfl) Try.func4 (by kernel_rfl)
    (of_decide_eq_true (by kernel_rfl)) (by unfold Func.isWrapper; first | (rw [if_pos (by decide +kernel)]; kernel_rfl) | (rw [if_neg (by decide +kernel)]; exact ⟨rfl, rfl⟩))
    (fun os started H enc _ => lifted os started H enc)
end fenceHelpSpec
theorem fenceHelpSpec_holds : Rows.FenceHelpSpecSaid := fenceHelpSpec.over
#print axioms fenceHelpSpec_holds

end Go.Proofs.Ytbmcepkccenoaaa
