/- FenceAlone: for every fence, two seeds, coins and two numbers the law returns true and leaves its arguments as they were. No condition. -/
import Derived.Test.YtbmcepkccenoaaaPart5
set_option linter.all false
set_option linter.unusedSimpArgs false
set_option linter.unusedVariables false
set_option linter.unnecessarySimpa false
namespace Go.Proofs.Ytbmcepkccenoaaa
open Go.ChangeShapes Go.WideShapes Go.ChangeAt Go.RowKit
namespace fenceAlone
theorem bad_split {seed coins : List (BitVec 8)} {dv : Int} (h : fsplitE dv coins ≠ 0) : fsplitL seed dv coins = [] := by
  unfold fsplitE at h
  unfold fsplitL
  split
  · rfl
  · next q =>
    rw [if_neg q] at h
    unfold splitE at h
    unfold splitL
    split at h
    · exact absurd rfl h
    · next q2 => rw [if_neg q2]
theorem ok_split {seed coins : List (BitVec 8)} {dv : Int} (h : fsplitE dv coins = 0) : 2 ≤ dv ∧ dv ≤ 4 ∧ coins.length = 32 ∧ fsplitL seed dv coins = splitL seed coins dv := by
  unfold fsplitE at h
  split at h
  · cases h
  · next q =>
    unfold splitE at h
    split at h
    · next q2 => exact ⟨by omega, by omega, q2, by unfold fsplitL; rw [if_neg q]⟩
    · cases h
theorem rem_nat {x : BitVec 8} {dv : Int} (h1 : 2 ≤ dv) (h2 : dv ≤ 4) : binDen .rem .i64 (x.toNat : Int) dv = ((x.toNat % dv.toNat : Nat) : Int) := by
  have hx := x.isLt
  have hd : dv = 2 ∨ dv = 3 ∨ dv = 4 := by omega
  rcases hd with rfl | rfl | rfl <;> (simp [binDen, IntKind.wrap, IntKind.signed, IntKind.bits]; try (rw [Int.tmod_eq_emod_of_nonneg (by omega)]); try omega)
/-- what the calls give, once the seed is split -/
structure Facts (f : FenceD) (seed other coins : List (BitVec 8)) (dv : Int) (p q : Nat) : Prop where
  out : ∃ (Sp Sq mp : ShareD) (cx : List (BitVec 8)) (m : List ShareD), (fsplitL seed dv coins)[p]? = some Sp ∧ (fsplitL seed dv coins).length = dv.toNat ∧ (∀ s ∈ fsplitL seed dv coins, (s.nil = true → s.data = []) ∧ s.data.length ≤ 100000) ∧
    helpP f (fsplitL seed dv coins) (p : Int) (q : Int) = (if (p : Int) ∈ f.devices ∨ (q : Int) ∈ f.devices then (zeroS, 440) else (Sq, 0)) ∧
    Pure Try.prog 21 [.agg Sp.c, .agg Sq.c] (.tup [.agg (seed.map fun b => u8D b), .int .i64 (.lit 0)]) ∧ Pure Try.prog 21 [.agg Sq.c, .agg Sp.c] (.tup [.agg (seed.map fun b => u8D b), .int .i64 (.lit 0)]) ∧
    Pure Try.prog 25 [.slm 5 none ShareD.c [Sp], .sll 1 (other.map u8C)] (.tup [.slm 1 none u8C cx, .int .i64 (.lit 0)]) ∧ Pure Try.prog 17 [.agg (other.map fun b => u8D b), i64 dv, .slm 1 none u8C cx] (.tup [.slm 5 none ShareD.c m, .int .i64 (.lit 0)]) ∧
    (m.length : Int) = dv ∧ m[p]? = some mp ∧ Pure Try.prog 24 [.agg mp.c, .agg Sp.c] (.bool (.lit true))
theorem facts {f : FenceD} {seed other coins : List (BitVec 8)} {dv : Int} {p q : Nat} (hs : seed.length = 32) (ho : other.length = 32) (h : fsplitE dv coins = 0) (hp : p < dv.toNat) (hq : q < dv.toNat) (hpq : p ≠ q) : Facts f seed other coins dv p q := by
  obtain ⟨h1, h2, hc, hx⟩ := ok_split (seed := seed) h
  have hxp := one_chk hs hc h1 h2 hp
  have hsl := share_len seed coins hs hc dv p
  have hxi : xi (shareAt (seed.zip coins) dv p) ≠ 0#8 := fun e => by
    rw [xi_share] at e
    have := congrArg BitVec.toNat e
    simp only [BitVec.toNat_ofInt] at this
    simp at this
    omega
  have hcl : (explL (shareAt (seed.zip coins) dv p) other).length = 32 := by simp [explL, ho]
  obtain ⟨mp, hm1, hm2⟩ := expl_split hs hc ho h2 hp
  have hE := Explain_pure (shareAt (seed.zip coins) dv p) none other hxp rfl (by rw [ho, hsl]) hxi (by omega)
  have hS := FSplit_pure other (explL (shareAt (seed.zip coins) dv p) other) ho none dv
  have e1 : fsplitL other dv (explL (shareAt (seed.zip coins) dv p) other) = splitL other (explL (shareAt (seed.zip coins) dv p) other) dv := by unfold fsplitL; rw [if_neg (by omega)]
  have e2 : fsplitE dv (explL (shareAt (seed.zip coins) dv p) other) = 0 := by unfold fsplitE splitE; rw [if_neg (by omega), if_pos hcl]
  rw [e1, e2] at hS
  have hD1 := Seed_pure (shareAt (seed.zip coins) dv p) (shareAt (seed.zip coins) dv q)
  rw [seed_split hs hc h1 h2 hp hq hpq] at hD1
  have hD2 := Seed_pure (shareAt (seed.zip coins) dv q) (shareAt (seed.zip coins) dv p)
  rw [seed_split hs hc h1 h2 hq hp (Ne.symm hpq)] at hD2
  have hSS := SameShare_pure mp (shareAt (seed.zip coins) dv p)
  rw [hm2] at hSS
  refine ⟨shareAt (seed.zip coins) dv p, shareAt (seed.zip coins) dv q, mp, _, _, by rw [hx]; exact splitL_get hc hp, by rw [hx]; exact splitL_len hc, fun s hs' => ?_, by rw [hx]; exact help_split hs hc h1 h2 hp hq hpq, Pure.res hD1 (litR _ _), Pure.res hD2 (litR _ _), ?_, Pure.res hS (litR _ _), by rw [splitL_len hcl]; omega, hm1, Pure.res hSS (boolR true)⟩
  · rw [hx] at hs'
    unfold splitL at hs'
    rw [if_pos hc, List.mem_map] at hs'
    obtain ⟨k, _, rfl⟩ := hs'
    exact ⟨fun h => (by cases h), (by rw [share_len seed coins hs hc]; omega)⟩
  · exact Pure.res (Pure.args (args' := [.slm 5 none ShareD.c [shareAt (seed.zip coins) dv p], .slm 1 none u8C other]) (.cons (.refl _) (.cons (.sll rfl (fun e h => by cases h)) .nil)) hE) (litR _ _)
set_option maxRecDepth 100000 in
set_option maxHeartbeats 4000000 in
theorem main_pure (f : FenceD) (hn : f.nil = true → f.devices = []) (hl : f.devices.length ≤ maxLen) (seed : List (BitVec 8)) (hs32 : seed.length = 32) (other : List (BitVec 8)) (ho32 : other.length = 32) (dv : Int) (hdv : InR .i64 dv) (cn : Bool) (coins : List (BitVec 8)) (hcn : cn = true → coins = []) (hcl : coins.length ≤ maxLen) (a b : BitVec 8) :
    Pure Try.prog 8 [f.d, .agg (seed.map fun b => u8D b), .agg (other.map fun b => u8D b), i64 dv, .slm 1 (some (.var cn)) u8C coins, u8D a, u8D b] (boolD true) := by
  have e0 : (boolD true : D) = retD [boolD true] := rfl
  rw [e0]
  have hS := sane_pure
  have hF := Pure.args (args' := [f.d, .slm 3 none VoteD.c []]) (args := [f.d, .nils]) (.cons (.refl _) (.cons (.nil0 rfl) .nil)) (FFew_pure f [] none)
  obtain ⟨fw, hfw⟩ : ∃ b, b = decide (f.devices.length ≤ 10 ∧ ([] : List VoteD).length ≤ 10) := ⟨_, rfl⟩
  rw [← hfw] at hF
  have hfl : fw = true → f.devices.length ≤ 10 := fun h => by
    rw [hfw] at h
    exact (of_decide_eq_true h).1
  have hQ := FSplit_pure seed coins hs32 (some (.var cn)) dv
  have hbad := fun h => bad_split (seed := seed) (coins := coins) (dv := dv) h
  have hok := fun h => ok_split (seed := seed) (coins := coins) (dv := dv) h
  have hfa := fun h p q hp hq hpq => (facts (f := f) (seed := seed) (other := other) (coins := coins) (dv := dv) (p := p) (q := q) hs32 ho32 h hp hq hpq).out
  have hHe : ∀ p q : Nat, f.devices.length < 9223372036854775807 → (fsplitL seed dv coins).length < 9223372036854775807 → (∀ s ∈ fsplitL seed dv coins, (s.nil = true → s.data = []) ∧ s.data.length ≤ 100000) → Pure Try.prog 19 [f.d, .slm 5 none ShareD.c (fsplitL seed dv coins), .int .i64 (.nat p), .int .i64 (.nat q)] (.tup [.agg (helpP f (fsplitL seed dv coins) (p : Int) (q : Int)).1.c, .int .i64 (.lit (helpP f (fsplitL seed dv coins) (p : Int) (q : Int)).2)]) := fun p q h1 h2 h3 => Pure.res (Pure.args (args' := [f.d, .slm 5 none ShareD.c (fsplitL seed dv coins), i64 (p : Int), i64 (q : Int)]) (.cons (.refl _) (.cons (.refl _) (.cons (.int rfl) (.cons (.int rfl) .nil)))) (Help_pure f (fsplitL seed dv coins) none (p : Int) (q : Int) h1 h2 h3)) (litR _ _)
  obtain ⟨isd, hisd⟩ : ∃ g : Nat → Bool, ∀ d, g d = decide ((d : Int) ∈ f.devices) := ⟨_, fun _ => rfl⟩
  have hI : ∀ d : Nat, f.devices.length < 9223372036854775807 → Pure Try.prog 14 [f.d, .int .i64 (.nat d)] (boolD (isd d)) := fun d h => by
    rw [hisd]
    exact Pure.args (args' := [f.d, i64 (d : Int)]) (.cons (.refl _) (.cons (.int rfl) .nil)) (Is_pure f (d : Int) h)
  have hcw : ∀ x : BitVec 8, IntKind.i64.wrap (x.toNat : Int) = (x.toNat : Int) := fun x => by
    have := x.isLt
    simp [IntKind.wrap, IntKind.signed, IntKind.bits]
    omega
  obtain ⟨x, hx⟩ : ∃ x, x = fsplitL seed dv coins := ⟨_, rfl⟩
  obtain ⟨e, he⟩ : ∃ x, x = fsplitE dv coins := ⟨_, rfl⟩
  rw [← hx, ← he] at hQ
  rw [← he] at hbad hok hfa
  rw [← hx] at hbad
  simp only [← hx] at hfa hHe
  have hxl : e = 0 → x.length = dv.toNat := fun h => by
    obtain ⟨_, _, h3, h4⟩ := hok h
    rw [hx, h4]
    exact splitL_len h3
  have hok2 : e = 0 → 2 ≤ dv ∧ dv ≤ 4 := fun h => ⟨(hok h).1, (hok h).2.1⟩
  clear hok hx he hfw
  have hcl2 := hcl
  clear hcl
  obtain ⟨x0, x1, x2, x3, x4, x5, x6, x7, x8, x9, x10, x11, x12, x13, x14, x15, x16, x17, x18, x19, x20, x21, x22, x23, x24, x25, x26, x27, x28, x29, x30, x31, rfl⟩ := list32 hs32
  obtain ⟨y0, y1, y2, y3, y4, y5, y6, y7, y8, y9, y10, y11, y12, y13, y14, y15, y16, y17, y18, y19, y20, y21, y22, y23, y24, y25, y26, y27, y28, y29, y30, y31, rfl⟩ := list32 ho32
  clear hs32 ho32
  refine Pure.introC T_ok Try.func8 rfl (by kernel_rfl) (rs := [.tmp 14]) rfl (by kernel_rfl) ?_
  generalize hP : Try.prog = P at *
  have hT : T.ok P := hP ▸ T_ok
  have hm : P.follows .mixedOrders = true := hP ▸ follows
  unfold Try.f8
  dsimp only
  refine CodeP.seq (vc_sound hT hm _ ?_)
  cbv
  refine CodeP.pre [(3, i64 dv), (4, .slm 1 (some (.var cn)) u8C coins), (5, u8D a), (6, u8D b), (7, .ptr 0 1 0), (8, .ptr 1 1 0), (9, .dp [u8D y0, u8D y1, u8D y2, u8D y3, u8D y4, u8D y5, u8D y6, u8D y7, u8D y8, u8D y9, u8D y10, u8D y11, u8D y12, u8D y13, u8D y14, u8D y15, u8D y16, u8D y17, u8D y18, u8D y19, u8D y20, u8D y21, u8D y22, u8D y23, u8D y24, u8D y25, u8D y26, u8D y27, u8D y28, u8D y29, u8D y30, u8D y31] 0)] [.cells f.c, .cells [u8D x0, u8D x1, u8D x2, u8D x3, u8D x4, u8D x5, u8D x6, u8D x7, u8D x8, u8D x9, u8D x10, u8D x11, u8D x12, u8D x13, u8D x14, u8D x15, u8D x16, u8D x17, u8D x18, u8D x19, u8D x20, u8D x21, u8D x22, u8D x23, u8D x24, u8D x25, u8D x26, u8D x27, u8D x28, u8D x29, u8D x30, u8D x31], .dead] ⟨?_, ?_, rfl⟩ (Nat.zero_le _) ?_
  · cbv
    exact ⟨.refl _, .refl _, .refl _, .refl _, .refl _, .refl _, .dp rfl rfl rfl, trivial⟩
  · exact ⟨.refl _, .refl _, .dead _, trivial⟩
  refine CodeP.seq (vc_sound hT hm _ ?_)
  cbv
  refine CallP.pure _ hS rfl ?_
  cbv
  refine SplitP.mk (fun h => (by cases (show (!true) = true from h))) (fun _ => ?_)
  refine CodeP.seq (vc_sound hT hm _ ?_)
  cbv
  refine CallP.pure _ hF rfl ?_
  cbv
  refine SplitP.mk (fun hs => ?_) (fun hs => ?_) <;> simp only [BE.not_t, BE.not_f, BE.var_d] at hs
  · exact .mk (.cons (.eq (.bool rfl)) .nil) rfl
  have hfl := hfl hs
  clear hs
  refine SplitP.mk (fun hs => ?_) (fun hs => ?_)
  · exact .mk (.cons (.eq (.bool rfl)) .nil) rfl
  clear hs
  refine CodeP.seq (vc_sound hT hm _ ?_)
  cbv
  refine CallP.pure _ hQ rfl ?_
  cbv
  refine CodeP.keep [3, 4, 5, 6, 7, 8, 9, 15, 16] ?_
  refine CodeP.seq (vc_sound hT hm _ ?_)
  cbv
  refine SplitP.mk (fun hs => ?_) (fun hs => ?_)
  · have h3 : (!decide (e = 0)) = true := hs
    have h4 := hbad (by simpa using h3)
    refine .mk (.cons (.eq (.bool ?_)) .nil) rfl
    show decide ((x.length : Int) = 0) = true
    rw [h4]
    rfl
  have he0 : e = 0 := by
    have h3 : (!decide (e = 0)) = false := hs
    simpa using h3
  clear hs hbad hQ hF hS
  obtain ⟨d2, d4⟩ := hok2 he0
  have hfa := hfa he0
  clear hok2
  have rp := rem_nat (x := a) d2 d4
  have rq := rem_nat (x := b) d2 d4
  have hp : a.toNat % dv.toNat < dv.toNat := Nat.mod_lt _ (by omega)
  have hq : b.toNat % dv.toNat < dv.toNat := Nat.mod_lt _ (by omega)
  obtain ⟨p, hp0⟩ : ∃ p, p = a.toNat % dv.toNat := ⟨_, rfl⟩
  obtain ⟨q, hq0⟩ : ∃ p, p = b.toNat % dv.toNat := ⟨_, rfl⟩
  rw [← hp0] at rp hp
  rw [← hq0] at rq hq
  clear hp0 hq0
  refine CodeP.seq (vc_sound hT hm _ ?_)
  cbv
  refine ReqP.mk (by show ¬ dv = 0; omega) (fun _ => ?_)
  refine ReqP.mk (by show ¬ dv = 0; omega) (fun _ => ?_)
  refine CodeP.pre [(3, i64 dv), (7, .ptr 0 1 0), (8, .ptr 1 1 0), (9, .dp [u8D y0, u8D y1, u8D y2, u8D y3, u8D y4, u8D y5, u8D y6, u8D y7, u8D y8, u8D y9, u8D y10, u8D y11, u8D y12, u8D y13, u8D y14, u8D y15, u8D y16, u8D y17, u8D y18, u8D y19, u8D y20, u8D y21, u8D y22, u8D y23, u8D y24, u8D y25, u8D y26, u8D y27, u8D y28, u8D y29, u8D y30, u8D y31] 0), (15, .slm 5 none ShareD.c x), (17, .int .i64 (.nat p)), (18, .int .i64 (.nat q))] [.cells f.c, .cells [u8D x0, u8D x1, u8D x2, u8D x3, u8D x4, u8D x5, u8D x6, u8D x7, u8D x8, u8D x9, u8D x10, u8D x11, u8D x12, u8D x13, u8D x14, u8D x15, u8D x16, u8D x17, u8D x18, u8D x19, u8D x20, u8D x21, u8D x22, u8D x23, u8D x24, u8D x25, u8D x26, u8D x27, u8D x28, u8D x29, u8D x30, u8D x31], .dead] ⟨?_, ?_, rfl⟩ (Nat.zero_le _) ?_
  · cbv
    exact ⟨.refl _, .refl _, .refl _, .refl _, .refl _, .eq (.int (by show binDen .rem .i64 (IntKind.i64.wrap (a.toNat : Int)) dv = (p : Int); rw [hcw a]; exact rp)), .eq (.int (by show binDen .rem .i64 (IntKind.i64.wrap (b.toNat : Int)) dv = (q : Int); rw [hcw b]; exact rq)), trivial⟩
  · exact ⟨.refl _, .refl _, .dead _, trivial⟩
  clear rp rq
  refine CodeP.seq (vc_sound hT hm _ ?_)
  cbv
  refine SplitP.mk (fun hs => ?_) (fun hs => ?_)
  · refine .mk (.cons (.eq (.bool ?_)) .nil) rfl
    show decide ((x.length : Int) = dv) = true
    exact decide_eq_true (by rw [hxl he0]; omega)
  have hpq : p ≠ q := by
    have h3 : decide ((p : Int) = (q : Int)) = false := hs
    have := of_decide_eq_false h3
    omega
  clear hs
  refine SplitP.mk (fun hs => ?_) (fun _ => ?_)
  · have h3 : (!decide ((x.length : Int) = dv)) = true := hs
    rw [decide_eq_true (show (x.length : Int) = dv by rw [hxl he0]; omega)] at h3
    cases h3
  obtain ⟨Sp, Sq, mp, cx, m, hxp, _, hsh, hhelp, hD1, hD2, hEx, hQ2, hml, hmp, hSS⟩ := hfa p q hp hq hpq
  have hxl2 := hxl he0
  have hH := hHe p q (by omega) (by omega) hsh
  rw [hhelp] at hH
  have hI1 := hI p (by omega)
  have hI2 := hI q (by omega)
  obtain ⟨b1, hb1⟩ : ∃ b, b = isd p := ⟨_, rfl⟩
  obtain ⟨b2, hb2⟩ : ∃ b, b = isd q := ⟨_, rfl⟩
  rw [← hb1] at hI1
  rw [← hb2] at hI2
  rw [hisd] at hb1 hb2
  clear hfa hHe hI hhelp hsh hfl hxl
  by_cases hfen : (p : Int) ∈ f.devices ∨ (q : Int) ∈ f.devices
  · rw [if_pos hfen] at hH
    refine CodeP.seq (vc_sound hT hm _ ?_)
    cbv
    refine CallP.pure _ hH rfl ?_
    cbv
    refine CodeP.keep [3, 7, 8, 9, 15, 17, 18, 19, 20] ?_
    refine CodeP.seq (vc_sound hT hm _ ?_)
    cbv
    refine CallP.pure _ hI1 rfl ?_
    cbv
    refine SplitP.mk (fun hs => ?_) (fun hs => ?_) <;> simp only [BE.var_d] at hs
    · refine CodeP.keep [3, 9, 15, 17] ?_
      refine CodeP.seq (vc_sound hT hm _ ?_)
      cbv
      have ep1 : binDen .add .i64 (p : Int) 1 = ((p + 1 : Nat) : Int) := by rw [add64 (by omega) (by omega)]; omega
      refine ReqP.mk ⟨by show (0 : Int) ≤ (p : Int); omega, by show (p : Int) ≤ binDen .add .i64 (p : Int) 1; rw [ep1]; omega, by show binDen .add .i64 (p : Int) 1 ≤ (x.length : Int); rw [ep1]; omega, by show (x.length : Int) ≤ (x.length : Int); omega, fun _ => rfl⟩ (fun _ => ?_)
      refine LetP.mk fun l hl => ?_
      replace hl : l = [Sp] := by
        rw [hl]
        show (x.take (binDen .add .i64 (p : Int) 1).toNat).drop ((p : Int)).toNat = [Sp]
        rw [ep1]
        exact take_drop_one hxp
      subst hl
      cbv
      refine .mk _ hEx rfl ?_
      cbv
      refine CodeP.keep [3, 9, 15, 17, 25, 26] ?_
      refine CodeP.seq (vc_sound hT hm _ ?_)
      cbv
      refine CallP.pure _ hQ2 rfl ?_
      cbv
      refine CodeP.keep [3, 15, 17, 26, 27, 28] ?_
      refine vc_sound hT hm _ ?_
      cbv
      have hml2 : (m.length : Int) = dv := hml
      refine SplitP.mk (fun _ => ?_) (fun h => (by have h3 : decide ((m.length : Int) = dv) = false := h; rw [decide_eq_true hml2] at h3; cases h3))
      refine ElemP.mk (by show (0 : Int) ≤ (p : Int) ∧ (p : Int) < (m.length : Int); omega) (fun z hz => ?_)
      replace hz : m[p]? = some z := hz
      rw [hmp] at hz
      cases hz
      cbv
      refine ElemP.mk (by show (0 : Int) ≤ (p : Int) ∧ (p : Int) < (x.length : Int); omega) (fun z hz => ?_)
      replace hz : x[p]? = some z := hz
      rw [hxp] at hz
      cases hz
      cbv
      refine .mk _ hSS rfl ?_
      cbv
      exact .mk (.cons (.eq (.bool rfl)) .nil) rfl
    · refine CallP.pure _ hI2 rfl ?_
      cbv
      refine SplitP.mk (fun hs2 => ?_) (fun hs2 => ?_) <;> simp only [BE.var_d] at hs2
      · refine CodeP.keep [3, 9, 15, 17] ?_
        refine CodeP.seq (vc_sound hT hm _ ?_)
        cbv
        have ep1 : binDen .add .i64 (p : Int) 1 = ((p + 1 : Nat) : Int) := by rw [add64 (by omega) (by omega)]; omega
        refine ReqP.mk ⟨by show (0 : Int) ≤ (p : Int); omega, by show (p : Int) ≤ binDen .add .i64 (p : Int) 1; rw [ep1]; omega, by show binDen .add .i64 (p : Int) 1 ≤ (x.length : Int); rw [ep1]; omega, by show (x.length : Int) ≤ (x.length : Int); omega, fun _ => rfl⟩ (fun _ => ?_)
        refine LetP.mk fun l hl => ?_
        replace hl : l = [Sp] := by
          rw [hl]
          show (x.take (binDen .add .i64 (p : Int) 1).toNat).drop ((p : Int)).toNat = [Sp]
          rw [ep1]
          exact take_drop_one hxp
        subst hl
        cbv
        refine .mk _ hEx rfl ?_
        cbv
        refine CodeP.keep [3, 9, 15, 17, 25, 26] ?_
        refine CodeP.seq (vc_sound hT hm _ ?_)
        cbv
        refine CallP.pure _ hQ2 rfl ?_
        cbv
        refine CodeP.keep [3, 15, 17, 26, 27, 28] ?_
        refine vc_sound hT hm _ ?_
        cbv
        have hml2 : (m.length : Int) = dv := hml
        refine SplitP.mk (fun _ => ?_) (fun h => (by have h3 : decide ((m.length : Int) = dv) = false := h; rw [decide_eq_true hml2] at h3; cases h3))
        refine ElemP.mk (by show (0 : Int) ≤ (p : Int) ∧ (p : Int) < (m.length : Int); omega) (fun z hz => ?_)
        replace hz : m[p]? = some z := hz
        rw [hmp] at hz
        cases hz
        cbv
        refine ElemP.mk (by show (0 : Int) ≤ (p : Int) ∧ (p : Int) < (x.length : Int); omega) (fun z hz => ?_)
        replace hz : x[p]? = some z := hz
        rw [hxp] at hz
        cases hz
        cbv
        refine .mk _ hSS rfl ?_
        cbv
        exact .mk (.cons (.eq (.bool rfl)) .nil) rfl
      · exfalso
        rw [hs] at hb1
        rw [hs2] at hb2
        rcases hfen with h | h
        · rw [decide_eq_true h] at hb1; cases hb1
        · rw [decide_eq_true h] at hb2; cases hb2
  · rw [if_neg hfen] at hH
    have hf1 : b1 = false := by rw [hb1]; exact decide_eq_false fun h => hfen (.inl h)
    have hf2 : b2 = false := by rw [hb2]; exact decide_eq_false fun h => hfen (.inr h)
    refine CodeP.seq (vc_sound hT hm _ ?_)
    cbv
    refine CallP.pure _ hH rfl ?_
    cbv
    refine CodeP.keep [3, 7, 8, 9, 15, 17, 18, 19, 20] ?_
    refine CodeP.seq (vc_sound hT hm _ ?_)
    cbv
    refine CallP.pure _ hI1 rfl ?_
    cbv
    refine SplitP.mk (fun hs => ?_) (fun _ => ?_)
    · have h3 : b1 = true := hs
      rw [hf1] at h3
      cases h3
    refine CallP.pure _ hI2 rfl ?_
    cbv
    refine SplitP.mk (fun hs => ?_) (fun _ => ?_)
    · have h3 : b2 = true := hs
      rw [hf2] at h3
      cases h3
    refine FootP.intro hT hm [(10, [4])] (by kernel_rfl) ?_
    cbv
    refine ElemP.mk (by show (0 : Int) ≤ (p : Int) ∧ (p : Int) < (x.length : Int); omega) (fun z hz => ?_)
    replace hz : x[p]? = some z := hz
    rw [hxp] at hz
    cases hz
    cbv
    refine .mk _ hD1 rfl ?_
    cbv
    refine FootP.intro hT hm [(10, [5])] (by kernel_rfl) ?_
    cbv
    refine ElemP.mk (by show (0 : Int) ≤ (p : Int) ∧ (p : Int) < (x.length : Int); omega) (fun z hz => ?_)
    replace hz : x[p]? = some z := hz
    rw [hxp] at hz
    cases hz
    cbv
    refine .mk _ hD2 rfl ?_
    cbv
    refine SplitP.mk (fun h => (by exfalso; revert h; simp [BE.den, IE.den, cmpDen])) (fun _ => ?_)
    refine SplitP.mk (fun h => (by exfalso; revert h; simp [BE.den, IE.den, cmpDen])) (fun _ => ?_)
    refine CodeP.keep [3, 9, 15, 17] ?_
    refine CodeP.seq (vc_sound hT hm _ ?_)
    cbv
    have ep1 : binDen .add .i64 (p : Int) 1 = ((p + 1 : Nat) : Int) := by rw [add64 (by omega) (by omega)]; omega
    refine ReqP.mk ⟨by show (0 : Int) ≤ (p : Int); omega, by show (p : Int) ≤ binDen .add .i64 (p : Int) 1; rw [ep1]; omega, by show binDen .add .i64 (p : Int) 1 ≤ (x.length : Int); rw [ep1]; omega, by show (x.length : Int) ≤ (x.length : Int); omega, fun _ => rfl⟩ (fun _ => ?_)
    refine LetP.mk fun l hl => ?_
    replace hl : l = [Sp] := by
      rw [hl]
      show (x.take (binDen .add .i64 (p : Int) 1).toNat).drop ((p : Int)).toNat = [Sp]
      rw [ep1]
      exact take_drop_one hxp
    subst hl
    cbv
    refine .mk _ hEx rfl ?_
    cbv
    refine CodeP.keep [3, 9, 15, 17, 25, 26] ?_
    refine CodeP.seq (vc_sound hT hm _ ?_)
    cbv
    refine CallP.pure _ hQ2 rfl ?_
    cbv
    refine CodeP.keep [3, 15, 17, 26, 27, 28] ?_
    refine vc_sound hT hm _ ?_
    cbv
    have hml2 : (m.length : Int) = dv := hml
    refine SplitP.mk (fun _ => ?_) (fun h => (by have h3 : decide ((m.length : Int) = dv) = false := h; rw [decide_eq_true hml2] at h3; cases h3))
    refine ElemP.mk (by show (0 : Int) ≤ (p : Int) ∧ (p : Int) < (m.length : Int); omega) (fun z hz => ?_)
    replace hz : m[p]? = some z := hz
    rw [hmp] at hz
    cases hz
    cbv
    refine ElemP.mk (by show (0 : Int) ≤ (p : Int) ∧ (p : Int) < (x.length : Int); omega) (fun z hz => ?_)
    replace hz : x[p]? = some z := hz
    rw [hxp] at hz
    cases hz
    cbv
    refine .mk _ hSS rfl ?_
    cbv
    exact .mk (.cons (.eq (.bool rfl)) .nil) rfl
theorem own : ownKnob Try.prog.godebug = none := by kernel_rfl
theorem laidOut : laidOutB Try.prog = true := by kernel_rfl
set_option maxRecDepth 100000 in
theorem lifted (os : Os) (started : os.Started) (H : Type) (enc : TypeId × Value → H) :
    ReturnsInHanded {} Try.checked os 8 .any (Rows.fenceAloneSpec.pre6 enc Try.prog Try.f8 Rows.fenceAloneRow.domain false) (Rows.fenceAloneSpec.post enc Try.prog Try.f8 false true false false) := by
  refine returnsInHanded_of_change (C := Try.checked) own started (by kernel_rfl) Try.func8
    (ChangeSpec.witness6 (enc := enc) (C := Try.checked) false ⟨#[], #[.agg #[.int .i64 0, .slice none 0 0], .agg (Array.replicate 32 (.int .u8 0)), .agg (Array.replicate 32 (.int .u8 0)), .int .i64 0, .slice none 0 0, .int .u8 0, .int .u8 0], []⟩ 8 (by kernel_rfl) (by kernel_rfl) (by kernel_rfl) (by kernel_rfl)) ?_
  intro W base args ds gs before hval0 hW hcnd _
  have hval : ∀ (j : Nat) t v, Try.f8.params[j]? = some t → args[j]? = some v → Value.okWide Try.prog W .any base t v := hval0
  have hW' := hW
  obtain ⟨p, q, hA0, hV, rfl, hfz, hnd⟩ := hW
  have hA : DataW.TrodAll enc Try.prog W 0 (fun _ => true) true Try.f8.params.toList args.toList ds p := hA0
  rw [Try.params8] at hA hval
  obtain ⟨v0, vs0, d0, ds0, p0, q0, hargs, rfl, rfl, h0, r0⟩ := trodAll_cons hA
  obtain ⟨v1, vs1, d1, ds1, p1, q1, rfl, rfl, rfl, h1, r1⟩ := trodAll_cons r0
  obtain ⟨v2, vs2, d2, ds2, p2, q2, rfl, rfl, rfl, h2, r2⟩ := trodAll_cons r1
  obtain ⟨v3, vs3, d3, ds3, p3, q3, rfl, rfl, rfl, h3, r3⟩ := trodAll_cons r2
  obtain ⟨v4, vs4, d4, ds4, p4, q4, rfl, rfl, rfl, h4, r4⟩ := trodAll_cons r3
  obtain ⟨v5, vs5, d5, ds5, p5, q5, rfl, rfl, rfl, h5, r5⟩ := trodAll_cons r4
  obtain ⟨v6, vs6, d6, ds6, p6, q6, rfl, rfl, rfl, h6, r6⟩ := trodAll_cons r5
  obtain ⟨rfl, rfl, rfl⟩ := trodAll_nil r6
  obtain rfl : args = #[v0, v1, v2, v3, v4, v5, v6] := by cases args; simp_all
  obtain ⟨rfl, rfl⟩ := trodVars_none hV
  have k0 := h0
  have lt0 : ∀ x ∈ p0, x.block < W.heap.size := by obtain ⟨m, hm⟩ := k0; exact DataW.trod_lt m _ _ _ hm
  obtain ⟨f0, ⟨fn0, fl0⟩, rp0⟩ := open_st Try.underlying24 opd_fence (hval 0 24 v0 rfl rfl) h0
  have k1 := h1
  have lt1 : ∀ x ∈ p1, x.block < W.heap.size := by obtain ⟨m, hm⟩ := k1; exact DataW.trod_lt m _ _ _ hm
  obtain ⟨g1, gl1, rp1⟩ := open_digest (hval 1 35 v1 rfl rfl) h1
  have k2 := h2
  have lt2 : ∀ x ∈ p2, x.block < W.heap.size := by obtain ⟨m, hm⟩ := k2; exact DataW.trod_lt m _ _ _ hm
  obtain ⟨g2, gl2, rp2⟩ := open_digest (hval 2 35 v2 rfl rfl) h2
  have k3 := h3
  have lt3 : ∀ x ∈ p3, x.block < W.heap.size := by obtain ⟨m, hm⟩ := k3; exact DataW.trod_lt m _ _ _ hm
  obtain ⟨z3, wf3, rp3⟩ := open_i Try.underlying3 (hval 3 3 v3 rfl rfl) h3
  have k4 := h4
  have lt4 : ∀ x ∈ p4, x.block < W.heap.size := by obtain ⟨m, hm⟩ := k4; exact DataW.trod_lt m _ _ _ hm
  obtain ⟨⟨nb4, l4⟩, ⟨ln4, _, ll4⟩, rp4⟩ := open_sl (e := 5) (by kernel_rfl) opd_bytes (hval 4 36 v4 rfl rfl) h4
  have k5 := h5
  have lt5 : ∀ x ∈ p5, x.block < W.heap.size := by obtain ⟨m, hm⟩ := k5; exact DataW.trod_lt m _ _ _ hm
  obtain ⟨z5, rp5⟩ := open_u8 Try.underlying5 (hval 5 5 v5 rfl rfl) h5
  have k6 := h6
  have lt6 : ∀ x ∈ p6, x.block < W.heap.size := by obtain ⟨m, hm⟩ := k6; exact DataW.trod_lt m _ _ _ hm
  obtain ⟨z6, rp6⟩ := open_u8 Try.underlying5 (hval 6 5 v6 rfl rfl) h6
  clear hA0 hval0
  refine (Pure.law (main_pure f0 fn0 fl0 g1 gl1 g2 gl2 z3 wf3 nb4 l4 ln4 ll4 z5 z6) (lrep_cons rp0 (lrep_cons rp1 (lrep_cons rp2 (lrep_cons rp3 (lrep_cons rp4 (lrep_cons rp5 (lrep_cons rp6 LRep.nil)))))))).mono fun e W' ⟨he, bel⟩ => ?_
  subst he
  exact ⟨_, rfl, _, _, _, [], _, [], hW', trodAll_mk1 (shut_bool Try.underlying4 _), (trodAll_cons_mk (Below.trod laidOut (by kernel_rfl) (of_decide_eq_true (by kernel_rfl)) k0 bel lt0) (trodAll_cons_mk (Below.trod laidOut (by kernel_rfl) (of_decide_eq_true (by kernel_rfl)) k1 bel lt1) (trodAll_cons_mk (Below.trod laidOut (by kernel_rfl) (of_decide_eq_true (by kernel_rfl)) k2 bel lt2) (trodAll_cons_mk (Below.trod laidOut (by kernel_rfl) (of_decide_eq_true (by kernel_rfl)) k3 bel lt3) (trodAll_cons_mk (Below.trod laidOut (by kernel_rfl) (of_decide_eq_true (by kernel_rfl)) k4 bel lt4) (trodAll_cons_mk (Below.trod laidOut (by kernel_rfl) (of_decide_eq_true (by kernel_rfl)) k5 bel lt5) (trodAll_cons_mk (Below.trod laidOut (by kernel_rfl) (of_decide_eq_true (by kernel_rfl)) k6 bel lt6) trodAll_mk0))))))), rfl, bel.frame _, fun h => by cases h⟩

theorem over : Rows.fenceAloneRow.holds Try.pinned (OpenSpec.ofChange Rows.fenceAloneSpec) :=
  OpenClaim.holds_of_wide 8 Try.f8 rfl rfl rfl rfl rfl rfl rfl ⟨rfl, rfl, rfl, rfl, rfl⟩ rfl rfl rfl rfl rfl (by kernel_rfl) Try.func8 (by kernel_rfl)
    (of_decide_eq_true (by kernel_rfl)) (by unfold Func.isWrapper; first | (rw [if_pos (by decide +kernel)]; kernel_rfl) | (rw [if_neg (by decide +kernel)]; exact ⟨rfl, rfl⟩))
    (fun os started H enc _ => lifted os started H enc)
end fenceAlone
theorem fenceAlone_holds : Rows.FenceAloneSaid := fenceAlone.over
#print axioms fenceAlone_holds

end Go.Proofs.Ytbmcepkccenoaaa
