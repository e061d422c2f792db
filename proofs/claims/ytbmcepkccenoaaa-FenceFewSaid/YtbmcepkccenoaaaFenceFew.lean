/- FenceFew: for every fence, list of votes and three numbers the law returns true and leaves its arguments as they were. No condition. -/
import Derived.Test.YtbmcepkccenoaaaPart4
set_option linter.all false
set_option linter.unusedSimpArgs false
set_option linter.unusedVariables false
set_option linter.unnecessarySimpa false
namespace Go.Proofs.Ytbmcepkccenoaaa
open Go.ChangeShapes Go.WideShapes Go.ChangeAt Go.RowKit
namespace fenceFew
set_option maxRecDepth 100000 in
set_option maxHeartbeats 4000000 in
theorem main_pure (f : FenceD) (hn : f.nil = true → f.devices = []) (hl : f.devices.length ≤ maxLen) (nv : Bool) (vs : List VoteD) (hn2 : nv = true → vs = []) (hl2 : vs.length ≤ maxLen) (dv : Int) (hd : InR .i64 dv) (vb : Int) (hb : InR .i64 vb) (vd : Int) (hvd : InR .i64 vd) : Pure Try.prog 6 [f.d, .slm 3 (some (.var nv)) VoteD.c vs, i64 dv, i64 vb, i64 vd] (boolD true) := by
  have hS := sane_pure
  have hF := FFew_pure f vs (some (.var nv))
  obtain ⟨fw, hfw⟩ : ∃ b, b = decide (f.devices.length ≤ 10 ∧ vs.length ≤ 10) := ⟨_, rfl⟩
  rw [← hfw] at hF
  have hV := fun h1 h2 => Vote_pure f vs (some (.var nv)) dv h1 hn h2
  have hV1 : f.devices.length ≤ 100000 → vs.length ≤ 10 → Pure Try.prog 11 [f.d, .slm 3 none VoteD.c (vs ++ [⟨vb, vd, f.no⟩]), i64 dv] (.tup [(voteP f vs dv).1.d, i64 (voteP f vs dv).2]) := fun h1 h2 => by
    rw [← vote_snoc (good_old f dv vb vd)]
    exact Vote_pure f _ none dv h1 hn (by simp; omega)
  have hV2 : (vb ∈ f.devices ∨ vd ∈ f.devices ∨ vb = vd) → f.devices.length ≤ 100000 → vs.length ≤ 10 → Pure Try.prog 11 [f.d, .sll 3 (vs.map VoteD.c ++ [[i64 vb, i64 vd, .int .i64 (.bin .add .i64 (.var f.no) (.lit 1))]]), i64 dv] (.tup [(voteP f vs dv).1.d, i64 (voteP f vs dv).2]) := fun h h1 h2 => by
    rw [← vote_snoc (good_now (n := inc64 f.no) h)]
    refine Pure.args (args' := [f.d, .sll 3 (vs.map VoteD.c ++ [[i64 vb, i64 vd, i64 (inc64 f.no)]]), i64 dv]) (.cons (.refl _) (.cons (snocD vs (.cons (.refl _) (.cons (.refl _) (.cons (.int rfl) .nil)))) (.cons (.refl _) .nil))) ?_
    exact Pure.args (args' := [f.d, .slm 3 none VoteD.c (vs ++ [⟨vb, vd, inc64 f.no⟩]), i64 dv]) (.cons (.refl _) (.cons (.sll (by simp) (fun e h => by cases h)) (.cons (.refl _) .nil))) (Vote_pure f _ none dv h1 hn (by simp; omega))
  have hV3 : f.devices.length ≤ 100000 → Pure Try.prog 11 [f.d, .sll 3 [[i64 vb, i64 vd, .int .i64 (.bin .add .i64 (.var f.no) (.lit 1))]], i64 dv] (.tup [(voteP f [⟨vb, vd, inc64 f.no⟩] dv).1.d, i64 (voteP f [⟨vb, vd, inc64 f.no⟩] dv).2]) := fun h1 => by
    refine Pure.args (args' := [f.d, .sll 3 ([].map VoteD.c ++ [[i64 vb, i64 vd, i64 (inc64 f.no)]]), i64 dv]) (.cons (.refl _) (.cons (snocD [] (.cons (.refl _) (.cons (.refl _) (.cons (.int rfl) .nil)))) (.cons (.refl _) .nil))) ?_
    exact Pure.args (args' := [f.d, .slm 3 none VoteD.c [⟨vb, vd, inc64 f.no⟩], i64 dv]) (.cons (.refl _) (.cons (.sll rfl (fun e h => by cases h)) (.cons (.refl _) .nil))) (Vote_pure f _ none dv h1 hn (by simp))
  have hg3 := fun h => vote_one (f := f) (dv := dv) (v := ⟨vb, vd, inc64 f.no⟩) h
  have hE := fun h => FSame_pure (voteP f vs dv).1 (voteP f vs dv).1 h
  rw [sameB_refl] at hE
  have hvl := vote_devs f vs dv
  have hI1 := fun h => Is_pure f vb h
  have hI2 := fun h => Is_pure f vd h
  obtain ⟨x, hx⟩ : ∃ x, x = (voteP f vs dv).1 := ⟨_, rfl⟩
  obtain ⟨e, he⟩ : ∃ x, x = (voteP f vs dv).2 := ⟨_, rfl⟩
  obtain ⟨y, hy⟩ : ∃ x, x = (voteP f [⟨vb, vd, inc64 f.no⟩] dv).1 := ⟨_, rfl⟩
  obtain ⟨g, hg⟩ : ∃ x, x = (voteP f [⟨vb, vd, inc64 f.no⟩] dv).2 := ⟨_, rfl⟩
  rw [← hx] at hE hvl
  rw [← hx, ← he] at hV
  rw [← hx, ← he] at hV1 hV2
  rw [← hy, ← hg] at hV3
  rw [← hg] at hg3
  obtain ⟨m1, hm1⟩ : ∃ b, b = decide (vb ∈ f.devices) := ⟨_, rfl⟩
  obtain ⟨m2, hm2⟩ : ∃ b, b = decide (vd ∈ f.devices) := ⟨_, rfl⟩
  rw [← hm1] at hI1
  rw [← hm2] at hI2
  have hb1 : m1 = true → vb ∈ f.devices := fun h => of_decide_eq_true (hm1.symm.trans h)
  have hb2 : m2 = true → vd ∈ f.devices := fun h => of_decide_eq_true (hm2.symm.trans h)
  clear hx he hy hg hm1 hm2
  obtain ⟨no, nl, fl⟩ := f
  simp only at hfw hV hV1 hV2 hV3 hvl hg3 hI1 hI2 hb1 hb2
  refine Pure.intro (want := [boolD true]) T_ok follows Try.func6 rfl (by kernel_rfl) (rs := [.tmp 10]) rfl (by kernel_rfl) ?_
  generalize hP : Try.prog = P at *
  have hT : T.ok P := hP ▸ T_ok
  have hm : P.follows .mixedOrders = true := hP ▸ follows
  unfold Try.f6
  dsimp only
  cbv
  refine CallP.pure _ hS rfl ?_
  cbv
  refine SplitP.mk (fun hs => ?_) (fun hs => ?_)
  · cases (show (!true) = true from hs)
  clear hs
  refine CallP.pure _ hF rfl ?_
  cbv
  refine SplitP.mk (fun hs => ?_) (fun hs => ?_) <;> simp only [BE.not_t, BE.not_f, BE.var_d] at hs
  · exact .mk (.cons (.eq (.bool rfl)) .nil) rfl
  have h10 := of_decide_eq_true (hfw.symm.trans hs)
  clear hs
  refine CallP.pure _ (hV (by omega) (by omega)) rfl ?_
  cbv
  refine FootP.intro hT hm [(3, [3]), (6, [3]), (8, [3]), (13, [4])] (by kernel_rfl) ?_
  cbv
  refine ReqP.mk ⟨by show (vs.length : Int) = (((RE.map VoteD.c vs).den.length : Nat) : Int); simp [RE.den], rfl, map_cells (fun _ => rfl), (by intro e he; cases he), by show (0 : Int) + (vs.length : Int) ≤ _; omega, by show ((0 : Int) + (vs.length : Int)) * ((24 : Nat) : Int) ≤ _; omega⟩ (fun _ => ?_)
  refine ReqP.mk ⟨rfl, by show (vs.length : Int) = _; simp [RE.den], (by intro e he; simp only [RE.den, List.mem_singleton] at he; subst he; rfl), (by intro e he; simp only [RE.den, List.nil_append, List.mem_map] at he; obtain ⟨x, _, rfl⟩ := he; rfl), by show (vs.length : Int) + 1 ≤ _; omega, by show ((vs.length : Int) + 1) * ((24 : Nat) : Int) ≤ _; omega⟩ (fun _ => ?_)
  refine .mk [.agg [i64 no, .slm 1 (some (.var nl)) intC fl], .slm 3 none VoteD.c (vs ++ [⟨vb, vd, no⟩]), i64 dv] _ (hV1 (by omega) (by omega)) (.cons (.eq (.refl _)) (.cons (.slm rfl (.inl ⟨_, _, rfl, by simp [RE.den]⟩) rfl (by simp [IE.den]) (fun e h => by cases h)) (.cons (.eq (.refl _)) .nil))) rfl ?_
  cbv
  refine SplitP.mk (fun h => (by have h3 : (!decide (e = e)) = true := h; simp at h3)) (fun _ => ?_)
  refine CallP.pure _ (hE (by have := hvl (by omega); omega)) rfl ?_
  cbv
  refine SplitP.mk (fun h => (by cases (show (!true) = true from h))) (fun _ => ?_)
  refine CallP.pure _ (hI1 (by omega)) rfl ?_
  cbv
  refine SplitP.mk (fun h1 => ?_) (fun h1 => ?_) <;> simp only [BE.var_d] at h1
  · refine FootP.intro hT hm [(3, [6]), (6, [6]), (8, [6]), (13, [7])] (by kernel_rfl) ?_
    cbv
    refine ReqP.mk ⟨by show (vs.length : Int) = (((RE.map VoteD.c vs).den.length : Nat) : Int); simp [RE.den], rfl, map_cells (fun _ => rfl), (by intro e he; cases he), by show (0 : Int) + (vs.length : Int) ≤ _; omega, by show ((0 : Int) + (vs.length : Int)) * ((24 : Nat) : Int) ≤ _; omega⟩ (fun _ => ?_)
    refine ReqP.mk ⟨rfl, by show (vs.length : Int) = _; simp [RE.den], (by intro e he; simp only [RE.den, List.mem_singleton] at he; subst he; rfl), (by intro e he; simp only [RE.den, List.nil_append, List.mem_map] at he; obtain ⟨x, _, rfl⟩ := he; rfl), by show (vs.length : Int) + 1 ≤ _; omega, by show ((vs.length : Int) + 1) * ((24 : Nat) : Int) ≤ _; omega⟩ (fun _ => ?_)
    refine .mk [.agg [i64 no, .slm 1 (some (.var nl)) intC fl], .sll 3 (vs.map VoteD.c ++ [[i64 vb, i64 vd, .int .i64 (.bin .add .i64 (.var no) (.lit 1))]]), i64 dv] _ (hV2 (.inl (hb1 h1)) (by omega) (by omega)) (.cons (.eq (.refl _)) (.cons (.sll rfl (.inl ⟨_, _, rfl, by simp [RE.den]⟩) rfl (by simp [IE.den]) rfl) (.cons (.eq (.refl _)) .nil))) (by simp [D.dataB]) ?_
    cbv
    refine SplitP.mk (fun h => (by have h3 : (!decide (e = e)) = true := h; simp at h3)) (fun _ => ?_)
    refine CallP.pure _ (hE (by have := hvl (by omega); omega)) rfl ?_
    cbv
    refine SplitP.mk (fun h => (by cases (show (!true) = true from h))) (fun _ => ?_)
    refine CallP.pure _ (hV3 (by omega)) rfl ?_
    cbv
    refine SplitP.mk (fun h => ?_) (fun h => ?_)
    · exact .mk (.cons (.eq (.bool rfl)) .nil) rfl
    · have h3 : (!decide (g = 0)) = false := h
      obtain ⟨k1, k2, k3⟩ := hg3 (by simpa using h3)
      refine .mk (.cons (.eq (.bool ?_)) .nil) rfl
      have k4 : dv - (fl.length : Int) - 1 ≤ 1 := k3
      clear k3
      show decide (binDen .sub .i64 (binDen .sub .i64 dv (fl.length : Int)) 1 ≤ 1) = true
      rw [sub64 (a := dv) (by omega) (by omega), sub64 (by omega) (by omega)]
      exact decide_eq_true k4
  · refine CallP.pure _ (hI2 (by omega)) rfl ?_
    cbv
    refine SplitP.mk (fun h2 => ?_) (fun h2 => ?_) <;> simp only [BE.var_d] at h2
    · refine FootP.intro hT hm [(3, [6]), (6, [6]), (8, [6]), (13, [7])] (by kernel_rfl) ?_
      cbv
      refine ReqP.mk ⟨by show (vs.length : Int) = (((RE.map VoteD.c vs).den.length : Nat) : Int); simp [RE.den], rfl, map_cells (fun _ => rfl), (by intro e he; cases he), by show (0 : Int) + (vs.length : Int) ≤ _; omega, by show ((0 : Int) + (vs.length : Int)) * ((24 : Nat) : Int) ≤ _; omega⟩ (fun _ => ?_)
      refine ReqP.mk ⟨rfl, by show (vs.length : Int) = _; simp [RE.den], (by intro e he; simp only [RE.den, List.mem_singleton] at he; subst he; rfl), (by intro e he; simp only [RE.den, List.nil_append, List.mem_map] at he; obtain ⟨x, _, rfl⟩ := he; rfl), by show (vs.length : Int) + 1 ≤ _; omega, by show ((vs.length : Int) + 1) * ((24 : Nat) : Int) ≤ _; omega⟩ (fun _ => ?_)
      refine .mk [.agg [i64 no, .slm 1 (some (.var nl)) intC fl], .sll 3 (vs.map VoteD.c ++ [[i64 vb, i64 vd, .int .i64 (.bin .add .i64 (.var no) (.lit 1))]]), i64 dv] _ (hV2 (.inr (.inl (hb2 h2))) (by omega) (by omega)) (.cons (.eq (.refl _)) (.cons (.sll rfl (.inl ⟨_, _, rfl, by simp [RE.den]⟩) rfl (by simp [IE.den]) rfl) (.cons (.eq (.refl _)) .nil))) (by simp [D.dataB]) ?_
      cbv
      refine SplitP.mk (fun h => (by have h3 : (!decide (e = e)) = true := h; simp at h3)) (fun _ => ?_)
      refine CallP.pure _ (hE (by have := hvl (by omega); omega)) rfl ?_
      cbv
      refine SplitP.mk (fun h => (by cases (show (!true) = true from h))) (fun _ => ?_)
      refine CallP.pure _ (hV3 (by omega)) rfl ?_
      cbv
      refine SplitP.mk (fun h => ?_) (fun h => ?_)
      · exact .mk (.cons (.eq (.bool rfl)) .nil) rfl
      · have h3 : (!decide (g = 0)) = false := h
        obtain ⟨k1, k2, k3⟩ := hg3 (by simpa using h3)
        refine .mk (.cons (.eq (.bool ?_)) .nil) rfl
        have k4 : dv - (fl.length : Int) - 1 ≤ 1 := k3
        clear k3
        show decide (binDen .sub .i64 (binDen .sub .i64 dv (fl.length : Int)) 1 ≤ 1) = true
        rw [sub64 (a := dv) (by omega) (by omega), sub64 (by omega) (by omega)]
        exact decide_eq_true k4
    · refine SplitP.mk (fun h3 => ?_) (fun h3 => ?_)
      · have h4 : decide (vb = vd) = true := h3
        refine FootP.intro hT hm [(3, [6]), (6, [6]), (8, [6]), (13, [7])] (by kernel_rfl) ?_
        cbv
        refine ReqP.mk ⟨by show (vs.length : Int) = (((RE.map VoteD.c vs).den.length : Nat) : Int); simp [RE.den], rfl, map_cells (fun _ => rfl), (by intro e he; cases he), by show (0 : Int) + (vs.length : Int) ≤ _; omega, by show ((0 : Int) + (vs.length : Int)) * ((24 : Nat) : Int) ≤ _; omega⟩ (fun _ => ?_)
        refine ReqP.mk ⟨rfl, by show (vs.length : Int) = _; simp [RE.den], (by intro e he; simp only [RE.den, List.mem_singleton] at he; subst he; rfl), (by intro e he; simp only [RE.den, List.nil_append, List.mem_map] at he; obtain ⟨x, _, rfl⟩ := he; rfl), by show (vs.length : Int) + 1 ≤ _; omega, by show ((vs.length : Int) + 1) * ((24 : Nat) : Int) ≤ _; omega⟩ (fun _ => ?_)
        refine .mk [.agg [i64 no, .slm 1 (some (.var nl)) intC fl], .sll 3 (vs.map VoteD.c ++ [[i64 vb, i64 vd, .int .i64 (.bin .add .i64 (.var no) (.lit 1))]]), i64 dv] _ (hV2 (.inr (.inr (of_decide_eq_true h4))) (by omega) (by omega)) (.cons (.eq (.refl _)) (.cons (.sll rfl (.inl ⟨_, _, rfl, by simp [RE.den]⟩) rfl (by simp [IE.den]) rfl) (.cons (.eq (.refl _)) .nil))) (by simp [D.dataB]) ?_
        cbv
        refine SplitP.mk (fun h => (by have h3 : (!decide (e = e)) = true := h; simp at h3)) (fun _ => ?_)
        refine CallP.pure _ (hE (by have := hvl (by omega); omega)) rfl ?_
        cbv
        refine SplitP.mk (fun h => (by cases (show (!true) = true from h))) (fun _ => ?_)
        refine CallP.pure _ (hV3 (by omega)) rfl ?_
        cbv
        refine SplitP.mk (fun h => ?_) (fun h => ?_)
        · exact .mk (.cons (.eq (.bool rfl)) .nil) rfl
        · have h3 : (!decide (g = 0)) = false := h
          obtain ⟨k1, k2, k3⟩ := hg3 (by simpa using h3)
          refine .mk (.cons (.eq (.bool ?_)) .nil) rfl
          have k4 : dv - (fl.length : Int) - 1 ≤ 1 := k3
          clear k3
          show decide (binDen .sub .i64 (binDen .sub .i64 dv (fl.length : Int)) 1 ≤ 1) = true
          rw [sub64 (a := dv) (by omega) (by omega), sub64 (by omega) (by omega)]
          exact decide_eq_true k4
      · refine CallP.pure _ (hV3 (by omega)) rfl ?_
        cbv
        refine SplitP.mk (fun h => ?_) (fun h => ?_)
        · exact .mk (.cons (.eq (.bool rfl)) .nil) rfl
        · have h3 : (!decide (g = 0)) = false := h
          obtain ⟨k1, k2, k3⟩ := hg3 (by simpa using h3)
          refine .mk (.cons (.eq (.bool ?_)) .nil) rfl
          have k4 : dv - (fl.length : Int) - 1 ≤ 1 := k3
          clear k3
          show decide (binDen .sub .i64 (binDen .sub .i64 dv (fl.length : Int)) 1 ≤ 1) = true
          rw [sub64 (a := dv) (by omega) (by omega), sub64 (by omega) (by omega)]
          exact decide_eq_true k4
theorem own : ownKnob Try.prog.godebug = none := by kernel_rfl
theorem laidOut : laidOutB Try.prog = true := by kernel_rfl
set_option maxRecDepth 100000 in
theorem lifted (os : Os) (started : os.Started) (H : Type) (enc : TypeId × Value → H) :
    ReturnsInHanded {} Try.checked os 6 .any (Rows.fenceFewSpec.pre6 enc Try.prog Try.f6 Rows.fenceFewRow.domain false) (Rows.fenceFewSpec.post enc Try.prog Try.f6 false true false false) := by
  refine returnsInHanded_of_change (C := Try.checked) own started (by kernel_rfl) Try.func6
    (ChangeSpec.witness6 (enc := enc) (C := Try.checked) false ⟨#[], #[.agg #[.int .i64 0, .slice none 0 0], .slice none 0 0, .int .i64 0, .int .i64 0, .int .i64 0], []⟩ 8 (by kernel_rfl) (by kernel_rfl) (by kernel_rfl) (by kernel_rfl)) ?_
  intro W base args ds gs before hval0 hW hcnd _
  have hval : ∀ (j : Nat) t v, Try.f6.params[j]? = some t → args[j]? = some v → Value.okWide Try.prog W .any base t v := hval0
  have hW' := hW
  obtain ⟨p, q, hA0, hV, rfl, hfz, hnd⟩ := hW
  have hA : DataW.TrodAll enc Try.prog W 0 (fun _ => true) true Try.f6.params.toList args.toList ds p := hA0
  rw [Try.params6] at hA hval
  obtain ⟨v0, vs0, d0, ds0, p0, q0, hargs, rfl, rfl, h0, r0⟩ := trodAll_cons hA
  obtain ⟨v1, vs1, d1, ds1, p1, q1, rfl, rfl, rfl, h1, r1⟩ := trodAll_cons r0
  obtain ⟨v2, vs2, d2, ds2, p2, q2, rfl, rfl, rfl, h2, r2⟩ := trodAll_cons r1
  obtain ⟨v3, vs3, d3, ds3, p3, q3, rfl, rfl, rfl, h3, r3⟩ := trodAll_cons r2
  obtain ⟨v4, vs4, d4, ds4, p4, q4, rfl, rfl, rfl, h4, r4⟩ := trodAll_cons r3
  obtain ⟨rfl, rfl, rfl⟩ := trodAll_nil r4
  obtain rfl : args = #[v0, v1, v2, v3, v4] := by cases args; simp_all
  obtain ⟨rfl, rfl⟩ := trodVars_none hV
  have k0 := h0
  have lt0 : ∀ x ∈ p0, x.block < W.heap.size := by obtain ⟨m, hm⟩ := k0; exact DataW.trod_lt m _ _ _ hm
  obtain ⟨f0, ⟨fn0, fl0⟩, rp0⟩ := open_st Try.underlying24 opd_fence (hval 0 24 v0 rfl rfl) h0
  have k1 := h1
  have lt1 : ∀ x ∈ p1, x.block < W.heap.size := by obtain ⟨m, hm⟩ := k1; exact DataW.trod_lt m _ _ _ hm
  obtain ⟨⟨nb1, l1⟩, ⟨ln1, _, ll1⟩, rp1⟩ := open_sl (e := 52) (by kernel_rfl) opd_votes (hval 1 25 v1 rfl rfl) h1
  have k2 := h2
  have lt2 : ∀ x ∈ p2, x.block < W.heap.size := by obtain ⟨m, hm⟩ := k2; exact DataW.trod_lt m _ _ _ hm
  obtain ⟨z2, wf2, rp2⟩ := open_i Try.underlying3 (hval 2 3 v2 rfl rfl) h2
  have k3 := h3
  have lt3 : ∀ x ∈ p3, x.block < W.heap.size := by obtain ⟨m, hm⟩ := k3; exact DataW.trod_lt m _ _ _ hm
  obtain ⟨z3, wf3, rp3⟩ := open_i Try.underlying3 (hval 3 3 v3 rfl rfl) h3
  have k4 := h4
  have lt4 : ∀ x ∈ p4, x.block < W.heap.size := by obtain ⟨m, hm⟩ := k4; exact DataW.trod_lt m _ _ _ hm
  obtain ⟨z4, wf4, rp4⟩ := open_i Try.underlying3 (hval 4 3 v4 rfl rfl) h4
  clear hA0 hval0
  refine (Pure.law (main_pure f0 fn0 fl0 nb1 l1 ln1 ll1 z2 wf2 z3 wf3 z4 wf4) (lrep_cons rp0 (lrep_cons rp1 (lrep_cons rp2 (lrep_cons rp3 (lrep_cons rp4 LRep.nil)))))).mono fun e W' ⟨he, bel⟩ => ?_
  subst he
  exact ⟨_, rfl, _, _, _, [], _, [], hW', trodAll_mk1 (shut_bool Try.underlying4 _), (trodAll_cons_mk (Below.trod laidOut (by kernel_rfl) (of_decide_eq_true (by kernel_rfl)) k0 bel lt0) (trodAll_cons_mk (Below.trod laidOut (by kernel_rfl) (of_decide_eq_true (by kernel_rfl)) k1 bel lt1) (trodAll_cons_mk (Below.trod laidOut (by kernel_rfl) (of_decide_eq_true (by kernel_rfl)) k2 bel lt2) (trodAll_cons_mk (Below.trod laidOut (by kernel_rfl) (of_decide_eq_true (by kernel_rfl)) k3 bel lt3) (trodAll_cons_mk (Below.trod laidOut (by kernel_rfl) (of_decide_eq_true (by kernel_rfl)) k4 bel lt4) trodAll_mk0))))), rfl, bel.frame _, fun h => by cases h⟩

theorem over : Rows.fenceFewRow.holds Try.pinned (OpenSpec.ofChange Rows.fenceFewSpec) :=
  OpenClaim.holds_of_wide 6 Try.f6 rfl rfl rfl rfl rfl rfl rfl ⟨rfl, rfl, rfl, rfl, rfl⟩ rfl rfl rfl rfl rfl (by kernel_rfl) Try.func6 (by kernel_rfl)
    (of_decide_eq_true (by kernel_rfl)) (by unfold Func.isWrapper; first | (rw [if_pos (by decide +kernel)]; kernel_rfl) | (rw [if_neg (by decide +kernel)]; exact ⟨rfl, rfl⟩))
    (fun os started H enc _ => lifted os started H enc)
end fenceFew
theorem fenceFew_holds : Rows.FenceFewSaid := fenceFew.over
#print axioms fenceFew_holds

end Go.Proofs.Ytbmcepkccenoaaa
