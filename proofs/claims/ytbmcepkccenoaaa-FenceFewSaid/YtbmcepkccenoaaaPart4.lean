/- Part 4 of the walks and laws that these claims rest on. No condition. -/
import Derived.ProofKit
import Derived.OpenShut
import Derived.ShutString
import Derived.ChangeOld
import Derived.Test.YtbmcepkccenoaaaPart3
set_option linter.all false
set_option linter.unusedSimpArgs false
set_option linter.unusedVariables false
set_option linter.unnecessarySimpa false
namespace Go.Proofs.Ytbmcepkccenoaaa
open Go.RowKit

/-! testamurref07: Inv, over, Eval, Points, Through; field.Through. -/
theorem ginv_ne {a : BitVec 8} (h : a ≠ 0#8) : ginv a ≠ 0#8 := fun e => by
  have := gmul_inv h
  rw [e, gmul_zero'] at this
  cases this
set_option maxRecDepth 100000 in
set_option maxHeartbeats 4000000 in
theorem RInv_pure (a : BitVec 8) (ha : a ≠ 0#8) : Pure Try.prog 93 [u8D a] (.tup [u8D (ginv a), .int .i64 (.lit 0)]) := by
  obtain ⟨r, hr⟩ : ∃ r, r = ginv a := ⟨_, rfl⟩
  rw [← hr]
  have hg : gmul a r = 1#8 := by rw [hr]; exact gmul_inv ha
  have hr0 : r ≠ 0#8 := by rw [hr]; exact ginv_ne ha
  obtain ⟨j0, hj0⟩ : ∃ j : Nat, j = r.toNat := ⟨_, rfl⟩
  have hj1 : 1 ≤ j0 := by
    rcases Nat.eq_zero_or_pos j0 with q | q
    · exact absurd (BitVec.eq_of_toNat_eq (by rw [← hj0, q]; rfl)) hr0
    · exact q
  have hj2 : j0 < 256 := by rw [hj0]; exact r.isLt
  have hMul := fun e1 e2 => Pure.args (.cons (.byte rfl) (.cons (.byte rfl) .nil)) (RMul_pure (b8 e1) (b8 e2))
  obtain ⟨gm, hgm⟩ : ∃ gm, gm = gmul := ⟨_, rfl⟩
  obtain ⟨bb, hbb⟩ : ∃ bb, bb = b8 := ⟨_, rfl⟩
  replace hMul : ∀ e1 e2 : IE, Pure Try.prog 82 [.int .u8 e1, .int .u8 e2] (u8D (gm (bb e1) (bb e2))) := by rw [hgm, hbb]; exact hMul
  refine Pure.intro (want := [u8D r, .int .i64 (.lit 0)]) T_ok follows Try.func93 rfl (by kernel_rfl) (rs := [.tmp 2, .tmp 3]) rfl (by kernel_rfl) ?_
  generalize hP : Try.prog = P at *
  have hT : T.ok P := hP ▸ T_ok
  have hm : P.follows .mixedOrders = true := hP ▸ follows
  unfold Try.f93
  dsimp only
  cbv
  refine CodeP.loopc hT hm (X := Nat) (fun k => [(4, .int .i64 (.nat k))]) (fun k => 1 ≤ k ∧ k ≤ j0) (fun k => 256 - k) 1 ⟨by omega, hj1⟩ (Nat.zero_le _) ?_ rfl ?_
  · (cbv; (repeat' (first | exact SnD.refl _ | exact trivial | exact SnD.nat0 | refine And.intro ?_ ?_)))
    exact .eq (.int rfl)
  intro k ⟨h1, h2⟩
  cbv
  refine SplitP.mk (fun hs => ?_) (fun hs => ?_)
  · refine CallP.pure _ (hMul _ _) rfl ?_
    cbv
    have hbk : b8 (.conv .u8 (.nat k)) = BitVec.ofNat 8 k := by
      show BitVec.ofInt 8 (IntKind.u8.wrap (k : Int)) = _
      rw [wrap_u8 k (by omega)]
      simp
    have hcond : ∀ c : Bool, (BE.cmp .eql (.u8 (gm (bb (.u8 a)) (bb (.conv .u8 (.nat k))))) (.lit 1)).den = c → (gmul a (BitVec.ofNat 8 k) == 1#8) = c := fun c hc => by
      rw [← hc, hgm, hbb, b8_u8, hbk]
      show _ = ((gmul a (BitVec.ofNat 8 k)).toNat == (1 : Int))
      generalize gmul a (BitVec.ofNat 8 k) = z
      revert z
      decide +kernel
    refine SplitP.mk (fun hs2 => ?_) (fun hs2 => ?_)
    · have hz := hcond _ hs2
      refine .mk (.cons (.eq (.byte ?_)) (.cons (.eq (.refl _)) .nil)) rfl
      show r = b8 (.conv .u8 (.nat k))
      rw [hbk, hr]
      exact (inv_unique (by simpa using hz) ha).symm
    · have hz := hcond _ hs2
      have hne : k ≠ j0 := fun e => by
        subst e
        have : BitVec.ofNat 8 k = r := by rw [hj0]; simp
        rw [this, hg] at hz
        cases hz
      refine BackP.intro (k + 1) ⟨by omega, by omega⟩ (show 256 - (k + 1) < 256 - k by omega) ⟨?_, HEnt.refl _, rfl⟩
      (cbv; (repeat' (first | exact SnD.refl _ | exact trivial | exact SnD.nat0 | refine And.intro ?_ ?_)))
      exact .inc (by omega)
  · exfalso
    have h : decide ((k : Int) < 256) = false := hs
    have := of_decide_eq_false h
    omega
set_option maxRecDepth 100000 in
set_option maxHeartbeats 4000000 in
theorem ROver_pure (a b : BitVec 8) (hb : b ≠ 0#8) : Pure Try.prog 84 [u8D a, u8D b] (u8D (gmul a (ginv b))) := by
  obtain ⟨r, hr⟩ : ∃ r, r = gmul a (ginv b) := ⟨_, rfl⟩
  rw [← hr]
  have hI := RInv_pure b hb
  obtain ⟨i, hi⟩ : ∃ i, i = ginv b := ⟨_, rfl⟩
  rw [← hi] at hI
  have hM := RMul_pure a i
  rw [show gmul a i = r by rw [hr, hi]] at hM
  refine Pure.intro (want := [u8D r]) T_ok follows Try.func84 rfl (by kernel_rfl) (rs := [.tmp 4]) rfl (by kernel_rfl) ?_
  generalize hP : Try.prog = P at *
  have hT : T.ok P := hP ▸ T_ok
  have hm : P.follows .mixedOrders = true := hP ▸ follows
  unfold Try.f84
  dsimp only
  cbv
  refine CallP.pure _ hI rfl ?_
  cbv
  refine CallP.pure _ hM rfl ?_
  cbv
  exact .mk (.cons (.eq (.refl _)) .nil) rfl
set_option maxRecDepth 100000 in
set_option maxHeartbeats 4000000 in
theorem REval2_pure (s c at_ : BitVec 8) : Pure Try.prog 58 [.sll 1 [u8C s, u8C c], u8D at_] (u8D (geval [s, c] at_)) := by
  obtain ⟨r, hr⟩ : ∃ r, r = geval [s, c] at_ := ⟨_, rfl⟩
  rw [← hr]
  have hMul := fun e1 e2 => Pure.args (.cons (.byte rfl) (.cons (.byte rfl) .nil)) (RMul_pure (b8 e1) (b8 e2))
  obtain ⟨gm, hgm⟩ : ∃ gm, gm = gmul := ⟨_, rfl⟩
  obtain ⟨bb, hbb⟩ : ∃ bb, bb = b8 := ⟨_, rfl⟩
  replace hMul : ∀ e1 e2 : IE, Pure Try.prog 82 [.int .u8 e1, .int .u8 e2] (u8D (gm (bb e1) (bb e2))) := by rw [hgm, hbb]; exact hMul
  refine Pure.intro (want := [u8D r]) T_ok follows Try.func58 rfl (by kernel_rfl) (rs := [.tmp 4]) rfl (by kernel_rfl) ?_
  generalize hP : Try.prog = P at *
  have hT : T.ok P := hP ▸ T_ok
  have hm : P.follows .mixedOrders = true := hP ▸ follows
  unfold Try.f58
  dsimp only
  cbv
  repeat' (first | (refine CodeP.rounds hT hm 4 ?_; cbv) | (refine CallP.pure _ (hMul _ _) rfl ?_; cbv) | (refine PureP.mk _ (hMul _ _) rfl ?_; cbv))
  refine .mk (.cons (.eq (.byte ?_)) .nil) rfl
  subst hgm hbb hr
  show _ = b8 _
  simp only [geval, List.foldr, b8_u8, b8_xor, b8_lit0, b8_lit1, one8, zero8, g_one, g_one', gmul_zero, BitVec.xor_zero, BitVec.zero_xor]
  exact BitVec.xor_comm _ _
end Go.Proofs.Ytbmcepkccenoaaa
namespace Go.Proofs.Ytbmcepkccenoaaa
open Go.RowKit

/-! The reference's Split with threshold 2, of 32 bytes. -/
theorem OpsP.prek {P : Program} {cx : Cx} {ops : Array Oper} {os : List Oper} {fr : Fr} {H : List Bk} {K : Fr → List Bk → Prop} (hT : cx.T.ok P) (mods : Fr) (H' : List Bk) (he : EntP fr H (mods ++ fr.filter fun p => p.2.undr 8 H'.length) H') (hh : cx.h0 ≤ H'.length)
    (h : vops P cx ops os (mods ++ fr.filter fun p => p.2.undr 8 H'.length) H' K) : OpsP P cx ops os fr H K := OpsP.pre hT _ H' he hh h
set_option maxRecDepth 100000 in
set_option maxHeartbeats 4000000 in
theorem RSplit_pure (secret coins : List (BitVec 8)) (nb nb' : Option BE) (many : Int) (hl : secret.length = 32) (h1 : 2 ≤ many) (h2 : many ≤ 4) : Pure Try.prog 37 [.slm 1 nb u8C secret, .int .i64 (.lit 0), .int .i64 (.lit 2), .int .i64 (.var many), .slm 1 nb' u8C coins] (.tup [.slm 5 none ShareD.c (splitL secret coins many), i64 (splitE coins)]) := by
  obtain ⟨rl, hrl⟩ : ∃ r, r = splitL secret coins many := ⟨_, rfl⟩
  obtain ⟨re, hre⟩ : ∃ r, r = splitE coins := ⟨_, rfl⟩
  rw [← hrl, ← hre]
  refine Pure.intro (want := [.slm 5 none ShareD.c rl, i64 re]) T_ok follows Try.func37 rfl (by kernel_rfl) (rs := [.tmp 10, .tmp 11]) rfl (by kernel_rfl) ?_
  generalize hP : Try.prog = P at *
  have hT : T.ok P := hP ▸ T_ok
  have hm : P.follows .mixedOrders = true := hP ▸ follows
  unfold Try.f37
  dsimp only
  cbv
  refine SplitP.mk (fun hs => ?_) (fun hs => ?_) <;> simp only [BE.lss_t, BE.lss_f, BE.leq_t, BE.leq_f, BE.gtr_t, BE.gtr_f, BE.geq_t, BE.geq_f, BE.eql_t, BE.eql_f, BE.neq_t, BE.neq_f, BE.not_t, BE.not_f, BE.var_d, BE.lit_d, BE.seq_t, BE.seq_f, BE.beq_t, BE.beq_f, IE.var_d, IE.lit_d, IE.nat_d, IE.len_d, IE.sum_d, IE.u8_d, ncast, Int.ofNat_lt, Int.ofNat_le, Int.ofNat_inj] at hs
  · exact absurd hs (by omega)
  clear hs
  refine SplitP.mk (fun hs => ?_) (fun hs => ?_) <;> simp only [BE.lss_t, BE.lss_f, BE.leq_t, BE.leq_f, BE.gtr_t, BE.gtr_f, BE.geq_t, BE.geq_f, BE.eql_t, BE.eql_f, BE.neq_t, BE.neq_f, BE.not_t, BE.not_f, BE.var_d, BE.lit_d, BE.seq_t, BE.seq_f, BE.beq_t, BE.beq_f, IE.var_d, IE.lit_d, IE.nat_d, IE.len_d, IE.sum_d, IE.u8_d, ncast, Int.ofNat_lt, Int.ofNat_le, Int.ofNat_inj] at hs
  · exact absurd hs (by omega)
  clear hs
  refine SplitP.mk (fun hs => ?_) (fun hs => ?_) <;> simp only [BE.lss_t, BE.lss_f, BE.leq_t, BE.leq_f, BE.gtr_t, BE.gtr_f, BE.geq_t, BE.geq_f, BE.eql_t, BE.eql_f, BE.neq_t, BE.neq_f, BE.not_t, BE.not_f, BE.var_d, BE.lit_d, BE.seq_t, BE.seq_f, BE.beq_t, BE.beq_f, IE.var_d, IE.lit_d, IE.nat_d, IE.len_d, IE.sum_d, IE.u8_d, ncast, Int.ofNat_lt, Int.ofNat_le, Int.ofNat_inj] at hs
  · exact absurd hs (by omega)
  clear hs
  have em : binDen .mul .i64 (secret.length : Int) 1 = 32 := by rw [hl]; rfl
  refine SplitP.mk (fun hs => ?_) (fun hs => ?_)
  · replace hs : (!decide ((coins.length : Int) = binDen .mul .i64 (secret.length : Int) 1)) = true := hs
    rw [em] at hs
    have hc : coins.length ≠ 32 := fun e => by rw [e] at hs; cases hs
    exact .mk (.cons (.eq (.nil0 (by rw [hrl]; unfold splitL; rw [if_neg hc]))) (.cons (.eq (.int (by rw [IE.lit_d, IE.var_d, hre]; unfold splitE; rw [if_neg hc]))) .nil)) rfl
  replace hs : (!decide ((coins.length : Int) = binDen .mul .i64 (secret.length : Int) 1)) = false := hs
  rw [em] at hs
  have hc : coins.length = 32 := by
    have h3 : decide ((coins.length : Int) = 32) = true := by simpa using hs
    have := of_decide_eq_true h3
    omega
  clear hs em
  obtain ⟨ps, hps⟩ : ∃ ps, ps = secret.zip coins := ⟨_, rfl⟩
  have hpl : ps.length = 32 := by rw [hps, List.length_zip, hl, hc]; rfl
  have hpg : ∀ (i : Nat) (p : BitVec 8 × BitVec 8), ps[i]? = some p → secret[i]? = some p.1 ∧ coins[i]? = some p.2 := fun i p h => by
    rw [hps, List.getElem?_zip_eq_some] at h
    exact h
  have hre0 : re = 0 := by rw [hre]; unfold splitE; rw [if_pos hc]
  have hrl0 : rl = (List.range many.toNat).map (shareAt ps many) := by rw [hrl]; unfold splitL; rw [if_pos hc, hps]
  clear hrl hre hps
  have hEv := fun s c a => REval2_pure s c a
  obtain ⟨gm, hgm⟩ : ∃ g : BitVec 8 → BitVec 8 → BitVec 8 → BitVec 8, g = fun s c a => geval [s, c] a := ⟨_, rfl⟩
  have hEv2 : ∀ s c a, Pure Try.prog 58 [.sll 1 [u8C s, u8C c], u8D a] (u8D (gm s c a)) := fun s c a => by rw [hgm]; exact hEv s c a
  clear hEv
  rw [hP] at hEv2
  obtain ⟨shA, hshA⟩ : ∃ f, f = shareAt ps many := ⟨_, rfl⟩
  have hsh : ∀ k : Nat, shA k = ⟨0, (k : Int) + 1, 2, many, false, ps.map fun p => gm p.1 p.2 (BitVec.ofInt 8 ((k : Int) + 1))⟩ := fun k => by rw [hshA, hgm]; rfl
  rw [← hshA] at hrl0
  clear hshA hgm
  obtain ⟨mn, hmn⟩ : ∃ mn : Nat, (mn : Int) = many := ⟨many.toNat, by omega⟩
  have hm2 : many.toNat = mn := by omega
  have hm4 : mn ≤ 4 := by omega
  rw [hm2] at hrl0
  clear hm2
  refine CodeP.virt 12 39 5 rfl ?_
  refine CodeP.loopm hT hm (X := Nat × List ShareD) (fun x => [(13, .int .i64 (.nat (x.1 + 1))), (12, .osl 5 0 (x.1 + 1) (.cmp .eql (.nat x.1) (.lit 0)) (.lit 0) (.nat x.1))])
    (fun x => [.row 39 5 (x.1 + 1) (.map ShareD.c x.2)]) (fun x => x.1 ≤ mn ∧ x.2 = (List.range x.1).map shA) (fun x => mn - x.1) (0, []) ⟨by simp, rfl⟩ (fun _ => by simp) ⟨?_, ?_, rfl⟩ ?_
  · (cbv; (repeat' (first | exact SnD.refl _ | exact trivial | exact SnD.nat0 | refine And.intro ?_ ?_)))
    · exact .eq (.int rfl)
    · exact osl_start
  · (cbv; (repeat' (first | exact trivial | exact BkEq.refl _ | exact SnD.refl _ | exact SnDs.nil | refine BkEq.cells ?_ | refine SnDs.cons ?_ ?_ | refine And.intro ?_ ?_)))
    exact .row rfl
  intro ⟨k, acc⟩ ⟨hk, hacc⟩
  replace hk : k ≤ mn := hk
  replace hacc : acc = (List.range k).map shA := hacc
  cbv
  have hcl : acc.length = k := by rw [hacc]; simp
  refine SplitP.mk (fun hs => ?_) (fun hs => ?_) <;> simp only [BE.lss_t, BE.lss_f, BE.leq_t, BE.leq_f, BE.gtr_t, BE.gtr_f, BE.geq_t, BE.geq_f, BE.eql_t, BE.eql_f, BE.neq_t, BE.neq_f, BE.not_t, BE.not_f, BE.var_d, BE.lit_d, BE.seq_t, BE.seq_f, BE.beq_t, BE.beq_f, IE.var_d, IE.lit_d, IE.nat_d, IE.len_d, IE.sum_d, IE.u8_d, ncast, Int.ofNat_lt, Int.ofNat_le, Int.ofNat_inj] at hs
  · have hlt : k < mn := by ((try simp only [ncast] at *); omega)
    clear hs
    refine CodeP.virtc 1 4 5 1 _ rfl rfl ?_
    obtain ⟨at_, hat⟩ : ∃ a : BitVec 8, a = BitVec.ofInt 8 ((k : Int) + 1) := ⟨_, rfl⟩
    refine CodeP.loopm hT hm (X := Nat × List (BitVec 8)) (fun x => [(15, .int .i64 (.nat x.1))])
      (fun x => [.row 39 5 (k + 1) (.map ShareD.c acc), .cells [.int .i64 (.lit 0), .int .i64 (.nat (k + 1)), .int .i64 (.lit 2), .int .i64 (.var many), .osl 1 2 (x.1 + 1) (.cmp .eql (.nat x.1) (.lit 0)) (.lit 0) (.nat x.1)], .row 5 1 (x.1 + 1) (.map u8C x.2)]) (fun x => x.1 ≤ 32 ∧ x.2 = (ps.take x.1).map fun p => gm p.1 p.2 at_) (fun x => 32 - x.1) (0, []) ⟨by simp, rfl⟩ (fun _ => by simp) ⟨?_, ?_, rfl⟩ ?_
    · (cbv; (repeat' (first | exact SnD.refl _ | exact trivial | exact SnD.nat0 | refine And.intro ?_ ?_)))
    · (cbv; (repeat' (first | exact trivial | exact BkEq.refl _ | exact SnD.refl _ | exact SnDs.nil | refine BkEq.cells ?_ | refine SnDs.cons ?_ ?_ | refine And.intro ?_ ?_)))
      · exact osl_start
      · exact .row rfl
    intro ⟨j, bs⟩ ⟨hj, hbs⟩
    replace hj : j ≤ 32 := hj
    replace hbs : bs = (ps.take j).map fun p => gm p.1 p.2 at_ := hbs
    cbv
    have hbl : bs.length = j := by rw [hbs, List.length_map, List.length_take]; omega
    refine SplitP.mk (fun hs2 => ?_) (fun hs2 => ?_)
    · have hkn : j < secret.length := by
        have h5 : decide ((j : Int) < (secret.length : Int)) = true := hs2
        have := of_decide_eq_true h5
        omega
      clear hs2
      refine ElemP.mk (by show (0 : Int) ≤ (j : Int) ∧ (j : Int) < (secret.length : Int); omega) (fun s g1 => ?_)
      replace g1 : secret[j]? = some s := g1
      cbv
      have e1 : binDen .mul .i64 (j : Int) 1 = (j : Int) := by rw [mul64 (by omega) (by omega)]; omega
      have e2 : binDen .mul .i64 (binDen .add .i64 (j : Int) 1) 1 = ((j + 1 : Nat) : Int) := by rw [add64 (by omega) (by omega), mul64 (by omega) (by omega)]; omega
      refine ReqP.mk ?_ (fun _ => ?_)
      · show 0 ≤ binDen .mul .i64 (j : Int) 1 ∧ binDen .mul .i64 (j : Int) 1 ≤ binDen .mul .i64 (binDen .add .i64 (j : Int) 1) 1 ∧ binDen .mul .i64 (binDen .add .i64 (j : Int) 1) 1 ≤ (coins.length : Int) ∧ (coins.length : Int) ≤ (coins.length : Int) ∧ _
        rw [e1, e2]
        exact ⟨by omega, by omega, by omega, by omega, fun _ => rfl⟩
      refine LetP.mk (fun l' hl' => ?_)
      obtain ⟨p, hp⟩ : ∃ p, ps[j]? = some p := ⟨_, List.getElem?_eq_getElem (by omega)⟩
      obtain ⟨g3, g2⟩ := hpg j p hp
      obtain ⟨s', c⟩ := p
      simp only at g2 g3
      rw [g1] at g3
      cases g3
      replace hl' : l' = (coins.take (binDen .mul .i64 (binDen .add .i64 (j : Int) 1) 1).toNat).drop (binDen .mul .i64 (j : Int) 1).toNat := hl'
      rw [e1, e2, Int.toNat_natCast, Int.toNat_natCast, take_drop_one g2] at hl'
      subst hl'
      cbv
      refine ReqP.mk ⟨rfl, rfl, map_cells (fun _ => rfl), fun e' he' => ?_, by show (1 : Int) + ((1 : Nat) : Int) ≤ 9223372036854775807; decide, by show ((1 : Int) + ((1 : Nat) : Int)) * ((1 : Nat) : Int) ≤ 140737488355328; decide⟩ (fun _ => ?_)
      · simp [RE.den] at he'
        subst he'
        rfl
      cbv
      obtain ⟨z, hz⟩ : ∃ z, z = gm s c at_ := ⟨_, rfl⟩
      have hpz : Pure P 58 [.sll 1 [u8C s, u8C c], u8D at_] (u8D z) := by rw [hz]; exact hEv2 s c at_
      have hpz2 : Pure P 58 [.sll 1 [u8C s, u8C c], .int .u8 (.conv .u8 (.nat (k + 1)))] (u8D z) := Pure.args (.cons (.refl _) (.cons (.byte (by rw [hat]; exact conv8 _)) .nil)) hpz
      refine PureP.lend _ _ hpz2 ?_ rfl rfl ?_
      · refine .cons (.sll rfl (.inl ⟨_, _, rfl, rfl⟩) rfl rfl rfl) (.cons (.refl _) .nil)
      cbv
      refine ReqP.mk (app_ok hbl (by omega) (fun _ => rfl) rfl (by decide)) (fun _ => ?_)
      cbv
      obtain ⟨bs', hbs'⟩ : ∃ cur', cur' = bs ++ [z] := ⟨_, rfl⟩
      refine BackP.intro (j + 1, bs') ⟨by show j + 1 ≤ 32; omega, ?_⟩ (by show 32 - (j + 1) < 32 - j; omega) ⟨?_, ?_, rfl⟩
      · show bs' = (ps.take (j + 1)).map fun p => gm p.1 p.2 at_
        rw [hbs', hbs, List.take_add_one, hp, hz]
        simp
      · (cbv; (repeat' (first | exact SnD.refl _ | exact trivial | exact SnD.nat0 | refine And.intro ?_ ?_)))
        exact .inc (by omega)
      · (cbv; (repeat' (first | exact trivial | exact BkEq.refl _ | exact SnD.refl _ | exact SnDs.nil | refine BkEq.cells ?_ | refine SnDs.cons ?_ ?_ | refine And.intro ?_ ?_)))
        · exact osl_step j
        · exact row_app z hbs' (.cons (.refl _) .nil)
    · have hkn : secret.length ≤ j := by
        have h5 : decide ((j : Int) < (secret.length : Int)) = false := hs2
        have := of_decide_eq_false h5
        omega
      clear hs2
      have hj2 : j = 32 := by omega
      have hbs3 : bs = ps.map fun p => gm p.1 p.2 at_ := by rw [hbs, hj2, ← hpl, List.take_length]
      obtain ⟨sk, hsk⟩ : ∃ sk, sk = shA k := ⟨_, rfl⟩
      have hsk2 : sk = ⟨0, (k : Int) + 1, 2, many, false, bs⟩ := by rw [hsk, hsh, hbs3, hat]
      have hds : SnDs [.row 39 5 (k + 1) (.map ShareD.c acc), .cells [.int .i64 (.lit 0), .int .i64 (.nat (k + 1)), .int .i64 (.lit 2), .int .i64 (.var many), .osl 1 2 (j + 1) (.cmp .eql (.nat j) (.lit 0)) (.lit 0) (.nat j)], .row 5 1 (j + 1) (.map u8C bs)]
          [.row 39 5 (k + 1) (.map ShareD.c acc), .cells [.int .i64 (.var 0), .int .i64 (.nat (k + 1)), .int .i64 (.var 2), .int .i64 (.var many), .slm 1 (some (.var false)) u8C bs]]
          [.int .i64 (.lit 0), .int .i64 (.nat (k + 1)), .int .i64 (.lit 2), .int .i64 (.var many), .osl 1 2 (j + 1) (.cmp .eql (.nat j) (.lit 0)) (.lit 0) (.nat j)]
          [.int .i64 (.var 0), .int .i64 (.nat (k + 1)), .int .i64 (.var 2), .int .i64 (.var many), .slm 1 (some (.var false)) u8C bs] := by
        refine .cons (.eq (.int rfl)) (.cons (.refl _) (.cons (.eq (.int rfl)) (.cons (.refl _) (.cons (.slm rfl (.inl ⟨_, _, rfl, rfl⟩) rfl ?_ (fun e h => ?_)) .nil))))
        · show (j : Int) = (bs.length : Int)
          omega
        · cases h
          show (false : Bool) = decide ((j : Int) = 0)
          exact (decide_eq_false (by omega)).symm
      obtain ⟨acc', hacc'⟩ : ∃ acc', acc' = acc ++ [sk] := ⟨_, rfl⟩
      have hacc2 : acc' = (List.range (k + 1)).map shA := by rw [hacc', hacc, hsk, List.range_succ]; simp
      have hrow : DsEq [.int .i64 (.var 0), .int .i64 (.nat (k + 1)), .int .i64 (.var 2), .int .i64 (.var many), .slm 1 (some (.var false)) u8C bs] (ShareD.c sk) := by
        rw [hsk2]
        exact .cons (.refl _) (.cons (.int (by show ((k + 1 : Nat) : Int) = (k : Int) + 1; omega)) (DsEq.refl _))
      have hag := SnD.aggs hds
      clear hsk hsk2 hacc hbs hbs3 hj hj2 hbl hkn hat
      cbv
      refine OpsP.prek hT [(88, .agg [.int .i64 (.var 0), .int .i64 (.nat (k + 1)), .int .i64 (.var 2), .int .i64 (.var many), .slm 1 (some (.var false)) u8C bs])] [.row 39 5 (k + 1) (.map ShareD.c acc), .cells [.int .i64 (.var 0), .int .i64 (.nat (k + 1)), .int .i64 (.var 2), .int .i64 (.var many), .slm 1 (some (.var false)) u8C bs]] ⟨⟨hag, ?_⟩, ⟨.refl _, .cells hds, trivial⟩, rfl⟩ (by simp) ?_
      · (cbv; (repeat' (first | exact SnD.refl _ | exact trivial | exact SnD.nat0 | refine And.intro ?_ ?_)))
      cbv
      refine ReqP.mk (app_ok hcl (by omega) (fun _ => rfl) rfl (by decide)) (fun _ => ?_)
      cbv
      refine BackP.intro (k + 1, acc') ⟨by show k + 1 ≤ mn; omega, hacc2⟩ (by show mn - (k + 1) < mn - k; omega) ⟨?_, ?_, rfl⟩
      · (cbv; (repeat' (first | exact SnD.refl _ | exact trivial | exact SnD.nat0 | refine And.intro ?_ ?_)))
        · exact .inc (by omega)
        · exact osl_step k
      · (cbv; (repeat' (first | exact trivial | exact BkEq.refl _ | exact SnD.refl _ | exact SnDs.nil | refine BkEq.cells ?_ | refine SnDs.cons ?_ ?_ | refine And.intro ?_ ?_)))
        exact row_app _ hacc' hrow
  · have hk2 : k = mn := by ((try simp only [ncast] at *); omega)
    subst hk2
    refine .mk (.cons (.slm rfl (.inl ⟨_, _, rfl, ?_⟩) rfl ?_ (fun e h => by cases h)) (.cons (.eq (.int hre0.symm)) .nil)) rfl
    · show acc.map ShareD.c = rl.map ShareD.c
      rw [hacc, hrl0]
    · show (k : Int) = (rl.length : Int)
      rw [hrl0]
      simp
end Go.Proofs.Ytbmcepkccenoaaa
namespace Go.Proofs.Ytbmcepkccenoaaa
open Go.RowKit

/-! fence.Split and its reference. -/
theorem cons_len {α : Type} {l : List α} {n : Nat} (h : l.length = n + 1) : ∃ x l', l = x :: l' ∧ l'.length = n := by
  cases l with
  | nil => cases h
  | cons x l' => exact ⟨x, l', rfl, by simpa using h⟩
theorem list32 {α : Type} {l : List α} (h : l.length = 32) : ∃ x0 x1 x2 x3 x4 x5 x6 x7 x8 x9 x10 x11 x12 x13 x14 x15 x16 x17 x18 x19 x20 x21 x22 x23 x24 x25 x26 x27 x28 x29 x30 x31, l = [x0, x1, x2, x3, x4, x5, x6, x7, x8, x9, x10, x11, x12, x13, x14, x15, x16, x17, x18, x19, x20, x21, x22, x23, x24, x25, x26, x27, x28, x29, x30, x31] := by
  obtain ⟨x0, l0, rfl, h0⟩ := cons_len h
  obtain ⟨x1, l1, rfl, h1⟩ := cons_len h0
  obtain ⟨x2, l2, rfl, h2⟩ := cons_len h1
  obtain ⟨x3, l3, rfl, h3⟩ := cons_len h2
  obtain ⟨x4, l4, rfl, h4⟩ := cons_len h3
  obtain ⟨x5, l5, rfl, h5⟩ := cons_len h4
  obtain ⟨x6, l6, rfl, h6⟩ := cons_len h5
  obtain ⟨x7, l7, rfl, h7⟩ := cons_len h6
  obtain ⟨x8, l8, rfl, h8⟩ := cons_len h7
  obtain ⟨x9, l9, rfl, h9⟩ := cons_len h8
  obtain ⟨x10, l10, rfl, h10⟩ := cons_len h9
  obtain ⟨x11, l11, rfl, h11⟩ := cons_len h10
  obtain ⟨x12, l12, rfl, h12⟩ := cons_len h11
  obtain ⟨x13, l13, rfl, h13⟩ := cons_len h12
  obtain ⟨x14, l14, rfl, h14⟩ := cons_len h13
  obtain ⟨x15, l15, rfl, h15⟩ := cons_len h14
  obtain ⟨x16, l16, rfl, h16⟩ := cons_len h15
  obtain ⟨x17, l17, rfl, h17⟩ := cons_len h16
  obtain ⟨x18, l18, rfl, h18⟩ := cons_len h17
  obtain ⟨x19, l19, rfl, h19⟩ := cons_len h18
  obtain ⟨x20, l20, rfl, h20⟩ := cons_len h19
  obtain ⟨x21, l21, rfl, h21⟩ := cons_len h20
  obtain ⟨x22, l22, rfl, h22⟩ := cons_len h21
  obtain ⟨x23, l23, rfl, h23⟩ := cons_len h22
  obtain ⟨x24, l24, rfl, h24⟩ := cons_len h23
  obtain ⟨x25, l25, rfl, h25⟩ := cons_len h24
  obtain ⟨x26, l26, rfl, h26⟩ := cons_len h25
  obtain ⟨x27, l27, rfl, h27⟩ := cons_len h26
  obtain ⟨x28, l28, rfl, h28⟩ := cons_len h27
  obtain ⟨x29, l29, rfl, h29⟩ := cons_len h28
  obtain ⟨x30, l30, rfl, h30⟩ := cons_len h29
  obtain ⟨x31, l31, rfl, h31⟩ := cons_len h30
  obtain rfl := List.length_eq_zero_iff.1 h31
  exact ⟨_, _, _, _, _, _, _, _, _, _, _, _, _, _, _, _, _, _, _, _, _, _, _, _, _, _, _, _, _, _, _, _, rfl⟩
def fsplitL (seed : List (BitVec 8)) (devices : Int) (coins : List (BitVec 8)) : List ShareD := if devices < 2 ∨ 4 < devices then [] else splitL seed coins devices
def fsplitE (devices : Int) (coins : List (BitVec 8)) : Int := if devices < 2 ∨ 4 < devices then 1 else splitE coins
set_option maxRecDepth 100000 in
set_option maxHeartbeats 4000000 in
theorem FSplit_pure (seed coins : List (BitVec 8)) (hs : seed.length = 32) (nb : Option BE) (devices : Int) : Pure Try.prog 17 [.agg (seed.map fun b => u8D b), i64 devices, .slm 1 nb u8C coins] (.tup [.slm 5 none ShareD.c (fsplitL seed devices coins), i64 (fsplitE devices coins)]) := by
  obtain ⟨rl, hrl⟩ : ∃ r, r = fsplitL seed devices coins := ⟨_, rfl⟩
  obtain ⟨re, hre⟩ : ∃ r, r = fsplitE devices coins := ⟨_, rfl⟩
  rw [← hrl, ← hre]
  have hSp := fun (h1 : 2 ≤ devices) (h2 : devices ≤ 4) => Split_pure seed coins none nb devices hs h1 h2
  obtain ⟨sl, hsl⟩ : ∃ s, s = splitL seed coins devices := ⟨_, rfl⟩
  obtain ⟨se, hse⟩ : ∃ s, s = splitE coins := ⟨_, rfl⟩
  rw [← hsl, ← hse] at hSp
  have hr1 : ¬ (devices < 2 ∨ 4 < devices) → rl = sl ∧ re = se := fun h => by
    rw [hrl, hre, hsl, hse]
    unfold fsplitL fsplitE
    rw [if_neg h, if_neg h]
    exact ⟨rfl, rfl⟩
  have hr2 : devices < 2 ∨ 4 < devices → rl = [] ∧ re = 1 := fun h => by
    rw [hrl, hre]
    unfold fsplitL fsplitE
    rw [if_pos h, if_pos h]
    exact ⟨rfl, rfl⟩
  clear hsl hse hrl hre
  obtain ⟨x0, x1, x2, x3, x4, x5, x6, x7, x8, x9, x10, x11, x12, x13, x14, x15, x16, x17, x18, x19, x20, x21, x22, x23, x24, x25, x26, x27, x28, x29, x30, x31, rfl⟩ := list32 hs
  refine Pure.intro (want := [.slm 5 none ShareD.c rl, i64 re]) T_ok follows Try.func17 rfl (by kernel_rfl) (rs := [.tmp 6, .tmp 7]) rfl (by kernel_rfl) ?_
  generalize hP : Try.prog = P at *
  have hT : T.ok P := hP ▸ T_ok
  have hm : P.follows .mixedOrders = true := hP ▸ follows
  unfold Try.f17
  dsimp only
  cbv
  have bad : devices < 2 ∨ 4 < devices → RetP [.cells [u8D x0, u8D x1, u8D x2, u8D x3, u8D x4, u8D x5, u8D x6, u8D x7, u8D x8, u8D x9, u8D x10, u8D x11, u8D x12, u8D x13, u8D x14, u8D x15, u8D x16, u8D x17, u8D x18, u8D x19, u8D x20, u8D x21, u8D x22, u8D x23, u8D x24, u8D x25, u8D x26, u8D x27, u8D x28, u8D x29, u8D x30, u8D x31]] [.nils, .int .i64 (.lit 1)] [.slm 5 none ShareD.c rl, i64 re] := fun h => by
    obtain ⟨e1, e2⟩ := hr2 h
    exact .mk (.cons (.eq (.nil0 e1)) (.cons (.eq (.int e2.symm)) .nil)) rfl
  refine SplitP.mk (fun h1 => ?_) (fun h1 => ?_) <;> simp only [BE.lss_t, BE.lss_f, BE.leq_t, BE.leq_f, BE.gtr_t, BE.gtr_f, BE.geq_t, BE.geq_f, BE.eql_t, BE.eql_f, BE.neq_t, BE.neq_f, BE.not_t, BE.not_f, BE.var_d, BE.lit_d, BE.seq_t, BE.seq_f, BE.beq_t, BE.beq_f, IE.var_d, IE.lit_d, IE.nat_d, IE.len_d, IE.sum_d, IE.u8_d, ncast, Int.ofNat_lt, Int.ofNat_le, Int.ofNat_inj] at h1
  · exact bad (.inl h1)
  refine SplitP.mk (fun h2 => ?_) (fun h2 => ?_) <;> simp only [BE.lss_t, BE.lss_f, BE.leq_t, BE.leq_f, BE.gtr_t, BE.gtr_f, BE.geq_t, BE.geq_f, BE.eql_t, BE.eql_f, BE.neq_t, BE.neq_f, BE.not_t, BE.not_f, BE.var_d, BE.lit_d, BE.seq_t, BE.seq_f, BE.beq_t, BE.beq_f, IE.var_d, IE.lit_d, IE.nat_d, IE.len_d, IE.sum_d, IE.u8_d, ncast, Int.ofNat_lt, Int.ofNat_le, Int.ofNat_inj] at h2
  · exact bad (.inr h2)
  obtain ⟨e1, e2⟩ := hr1 (by omega)
  subst e1 e2
  refine CallP.pre [.sll 1 [u8C x0, u8C x1, u8C x2, u8C x3, u8C x4, u8C x5, u8C x6, u8C x7, u8C x8, u8C x9, u8C x10, u8C x11, u8C x12, u8C x13, u8C x14, u8C x15, u8C x16, u8C x17, u8C x18, u8C x19, u8C x20, u8C x21, u8C x22, u8C x23, u8C x24, u8C x25, u8C x26, u8C x27, u8C x28, u8C x29, u8C x30, u8C x31], .int .i64 (.lit 0), .int .i64 (.lit 2), i64 devices, .slm 1 nb u8C coins] [.dead] (.cons (.sll rfl ?_ rfl rfl rfl) (SnDs.refl _)) ⟨.dead _, trivial⟩ rfl rfl ?_
  · refine .inr ⟨rfl, _, rfl, rfl, fun e he => ?_⟩
    replace he : e ∈ [x0, x1, x2, x3, x4, x5, x6, x7, x8, x9, x10, x11, x12, x13, x14, x15, x16, x17, x18, x19, x20, x21, x22, x23, x24, x25, x26, x27, x28, x29, x30, x31].map fun b => u8C b := he
    obtain ⟨b, _, rfl⟩ := List.mem_map.1 he
    exact ⟨rfl, rfl⟩
  refine CallP.pure _ (Pure.args (.cons (.sll rfl (fun e h => by cases h)) (DsEq.refl _)) (hSp (by omega) (by omega))) rfl ?_
  cbv
  exact .mk (SnDs.refl _) rfl
set_option maxRecDepth 100000 in
set_option maxHeartbeats 4000000 in
theorem RFSplit_pure (seed coins : List (BitVec 8)) (hs : seed.length = 32) (nb : Option BE) (devices : Int) : Pure Try.prog 18 [.agg (seed.map fun b => u8D b), i64 devices, .slm 1 nb u8C coins] (.tup [.slm 5 none ShareD.c (fsplitL seed devices coins), i64 (fsplitE devices coins)]) := by
  obtain ⟨rl, hrl⟩ : ∃ r, r = fsplitL seed devices coins := ⟨_, rfl⟩
  obtain ⟨re, hre⟩ : ∃ r, r = fsplitE devices coins := ⟨_, rfl⟩
  rw [← hrl, ← hre]
  have hSp := fun (h1 : 2 ≤ devices) (h2 : devices ≤ 4) => RSplit_pure seed coins none nb devices hs h1 h2
  obtain ⟨sl, hsl⟩ : ∃ s, s = splitL seed coins devices := ⟨_, rfl⟩
  obtain ⟨se, hse⟩ : ∃ s, s = splitE coins := ⟨_, rfl⟩
  rw [← hsl, ← hse] at hSp
  have hr1 : ¬ (devices < 2 ∨ 4 < devices) → rl = sl ∧ re = se := fun h => by
    rw [hrl, hre, hsl, hse]
    unfold fsplitL fsplitE
    rw [if_neg h, if_neg h]
    exact ⟨rfl, rfl⟩
  have hr2 : devices < 2 ∨ 4 < devices → rl = [] ∧ re = 1 := fun h => by
    rw [hrl, hre]
    unfold fsplitL fsplitE
    rw [if_pos h, if_pos h]
    exact ⟨rfl, rfl⟩
  clear hsl hse hrl hre
  obtain ⟨x0, x1, x2, x3, x4, x5, x6, x7, x8, x9, x10, x11, x12, x13, x14, x15, x16, x17, x18, x19, x20, x21, x22, x23, x24, x25, x26, x27, x28, x29, x30, x31, rfl⟩ := list32 hs
  refine Pure.intro (want := [.slm 5 none ShareD.c rl, i64 re]) T_ok follows Try.func18 rfl (by kernel_rfl) (rs := [.tmp 6, .tmp 7]) rfl (by kernel_rfl) ?_
  generalize hP : Try.prog = P at *
  have hT : T.ok P := hP ▸ T_ok
  have hm : P.follows .mixedOrders = true := hP ▸ follows
  unfold Try.f18
  dsimp only
  cbv
  have bad : devices < 2 ∨ 4 < devices → RetP [.cells [u8D x0, u8D x1, u8D x2, u8D x3, u8D x4, u8D x5, u8D x6, u8D x7, u8D x8, u8D x9, u8D x10, u8D x11, u8D x12, u8D x13, u8D x14, u8D x15, u8D x16, u8D x17, u8D x18, u8D x19, u8D x20, u8D x21, u8D x22, u8D x23, u8D x24, u8D x25, u8D x26, u8D x27, u8D x28, u8D x29, u8D x30, u8D x31]] [.nils, .int .i64 (.lit 1)] [.slm 5 none ShareD.c rl, i64 re] := fun h => by
    obtain ⟨e1, e2⟩ := hr2 h
    exact .mk (.cons (.eq (.nil0 e1)) (.cons (.eq (.int e2.symm)) .nil)) rfl
  refine SplitP.mk (fun h1 => ?_) (fun h1 => ?_) <;> simp only [BE.lss_t, BE.lss_f, BE.leq_t, BE.leq_f, BE.gtr_t, BE.gtr_f, BE.geq_t, BE.geq_f, BE.eql_t, BE.eql_f, BE.neq_t, BE.neq_f, BE.not_t, BE.not_f, BE.var_d, BE.lit_d, BE.seq_t, BE.seq_f, BE.beq_t, BE.beq_f, IE.var_d, IE.lit_d, IE.nat_d, IE.len_d, IE.sum_d, IE.u8_d, ncast, Int.ofNat_lt, Int.ofNat_le, Int.ofNat_inj] at h1
  · exact bad (.inl h1)
  refine SplitP.mk (fun h2 => ?_) (fun h2 => ?_) <;> simp only [BE.lss_t, BE.lss_f, BE.leq_t, BE.leq_f, BE.gtr_t, BE.gtr_f, BE.geq_t, BE.geq_f, BE.eql_t, BE.eql_f, BE.neq_t, BE.neq_f, BE.not_t, BE.not_f, BE.var_d, BE.lit_d, BE.seq_t, BE.seq_f, BE.beq_t, BE.beq_f, IE.var_d, IE.lit_d, IE.nat_d, IE.len_d, IE.sum_d, IE.u8_d, ncast, Int.ofNat_lt, Int.ofNat_le, Int.ofNat_inj] at h2
  · exact bad (.inr h2)
  obtain ⟨e1, e2⟩ := hr1 (by omega)
  subst e1 e2
  refine CallP.pre [.sll 1 [u8C x0, u8C x1, u8C x2, u8C x3, u8C x4, u8C x5, u8C x6, u8C x7, u8C x8, u8C x9, u8C x10, u8C x11, u8C x12, u8C x13, u8C x14, u8C x15, u8C x16, u8C x17, u8C x18, u8C x19, u8C x20, u8C x21, u8C x22, u8C x23, u8C x24, u8C x25, u8C x26, u8C x27, u8C x28, u8C x29, u8C x30, u8C x31], .int .i64 (.lit 0), .int .i64 (.lit 2), i64 devices, .slm 1 nb u8C coins] [.dead] (.cons (.sll rfl ?_ rfl rfl rfl) (SnDs.refl _)) ⟨.dead _, trivial⟩ rfl rfl ?_
  · refine .inr ⟨rfl, _, rfl, rfl, fun e he => ?_⟩
    replace he : e ∈ [x0, x1, x2, x3, x4, x5, x6, x7, x8, x9, x10, x11, x12, x13, x14, x15, x16, x17, x18, x19, x20, x21, x22, x23, x24, x25, x26, x27, x28, x29, x30, x31].map fun b => u8C b := he
    obtain ⟨b, _, rfl⟩ := List.mem_map.1 he
    exact ⟨rfl, rfl⟩
  refine CallP.pure _ (Pure.args (.cons (.sll rfl (fun e h => by cases h)) (DsEq.refl _)) (hSp (by omega) (by omega))) rfl ?_
  cbv
  exact .mk (SnDs.refl _) rfl
end Go.Proofs.Ytbmcepkccenoaaa
namespace Go.Proofs.Ytbmcepkccenoaaa
open Go.RowKit

set_option maxRecDepth 100000 in
set_option maxHeartbeats 4000000 in
theorem RAlike_pure (l : List ShareD) (nb : Option BE) (hl : l.length < 9223372036854775807) : Pure Try.prog 60 [.slm 5 nb ShareD.c l] (boolD (alikeB l)) := by
  obtain ⟨r, hr⟩ : ∃ r, r = alikeB l := ⟨_, rfl⟩
  rw [← hr]
  obtain ⟨n, hn⟩ : ∃ n : Nat, n = l.length := ⟨_, rfl⟩
  refine Pure.intro (want := [boolD r]) T_ok follows Try.func60 rfl (by kernel_rfl) (rs := [.tmp 2]) rfl (by kernel_rfl) ?_
  generalize hP : Try.prog = P
  have hT : T.ok P := hP ▸ T_ok
  have hm : P.follows .mixedOrders = true := hP ▸ follows
  unfold Try.f60
  dsimp only
  cbv
  refine SplitP.mk (fun hs => ?_) (fun hs => ?_)
  · have h0 : l = [] := List.length_eq_zero_iff.1 (by have : ((l.length : Int) == 0) = true := hs; simpa using this)
    refine .mk (.cons (.eq (.bool ?_)) .nil) rfl
    rw [BE.lit_d, BE.var_d, hr, h0]
    rfl
  have hne : 0 < l.length := by
    have : ((l.length : Int) == 0) = false := hs
    rcases Nat.eq_zero_or_pos l.length with q | q
    · rw [q] at this; cases this
    · exact q
  refine ElemP.mk (by show (0 : Int) ≤ 0 ∧ (0 : Int) < (l.length : Int); omega) (fun f hf => ?_)
  replace hf : l[0]? = some f := hf
  have hal : alikeB l = (okHead f && okFrom f 0 l) := by
    cases l with
    | nil => simp at hf
    | cons a t => simp at hf; subst hf; rfl
  rw [hal] at hr
  clear hal hs
  obtain ⟨fe, fi, ft, fm, fn, fd⟩ := f
  cbv
  have bad : okHead ⟨fe, fi, ft, fm, fn, fd⟩ = false → r = false := fun h => by rw [hr, h]; rfl
  refine SplitP.mk (fun hs => ?_) (fun hs => ?_) <;> simp only [BE.lss_t, BE.lss_f, BE.leq_t, BE.leq_f, BE.gtr_t, BE.gtr_f, BE.geq_t, BE.geq_f, BE.eql_t, BE.eql_f, BE.neq_t, BE.neq_f, BE.not_t, BE.not_f, BE.var_d, BE.lit_d, BE.seq_t, BE.seq_f, BE.beq_t, BE.beq_f, IE.var_d, IE.lit_d, IE.nat_d, IE.len_d, IE.sum_d, IE.u8_d, ncast, Int.ofNat_lt, Int.ofNat_le, Int.ofNat_inj] at hs
  · refine .mk (.cons (.eq (.bool ?_)) .nil) rfl
    rw [BE.lit_d, BE.var_d, bad (decide_eq_false (by simp only; omega))]
  refine SplitP.mk (fun hs => ?_) (fun hs => ?_) <;> simp only [BE.lss_t, BE.lss_f, BE.leq_t, BE.leq_f, BE.gtr_t, BE.gtr_f, BE.geq_t, BE.geq_f, BE.eql_t, BE.eql_f, BE.neq_t, BE.neq_f, BE.not_t, BE.not_f, BE.var_d, BE.lit_d, BE.seq_t, BE.seq_f, BE.beq_t, BE.beq_f, IE.var_d, IE.lit_d, IE.nat_d, IE.len_d, IE.sum_d, IE.u8_d, ncast, Int.ofNat_lt, Int.ofNat_le, Int.ofNat_inj] at hs
  · refine .mk (.cons (.eq (.bool ?_)) .nil) rfl
    rw [BE.lit_d, BE.var_d, bad (decide_eq_false (by simp only; omega))]
  refine SplitP.mk (fun hs => ?_) (fun hs => ?_) <;> simp only [BE.lss_t, BE.lss_f, BE.leq_t, BE.leq_f, BE.gtr_t, BE.gtr_f, BE.geq_t, BE.geq_f, BE.eql_t, BE.eql_f, BE.neq_t, BE.neq_f, BE.not_t, BE.not_f, BE.var_d, BE.lit_d, BE.seq_t, BE.seq_f, BE.beq_t, BE.beq_f, IE.var_d, IE.lit_d, IE.nat_d, IE.len_d, IE.sum_d, IE.u8_d, ncast, Int.ofNat_lt, Int.ofNat_le, Int.ofNat_inj] at hs
  · refine .mk (.cons (.eq (.bool ?_)) .nil) rfl
    rw [BE.lit_d, BE.var_d, bad (decide_eq_false (by simp only; omega))]
  refine SplitP.mk (fun h4 => ?_) (fun h4 => ?_)
  · refine .mk (.cons (.eq (.bool ?_)) .nil) rfl
    have h5 : decide ((fd.length : Int) > 64) = true := h4
    have h6 := of_decide_eq_true h5
    rw [BE.lit_d, BE.var_d, bad (decide_eq_false (by simp only; omega))]
  have h64 : fd.length ≤ 64 := by
    have h5 : decide ((fd.length : Int) > 64) = false := h4
    have h6 := of_decide_eq_false h5
    omega
  have hhead : okHead ⟨fe, fi, ft, fm, fn, fd⟩ = true := decide_eq_true ⟨by omega, by omega, by omega, h64⟩
  rw [hhead, Bool.true_and] at hr
  clear h4
  refine CodeP.loopc hT hm (X := Nat × Int) (fun x => [(4, .int .i64 (.nat x.1))]) (fun x => x.1 ≤ n ∧ r = okFrom ⟨fe, fi, ft, fm, fn, fd⟩ x.2 (l.drop x.1) ∧ (x.1 = 0 → x.2 = 0) ∧ (0 < x.1 → ∃ s, l[x.1 - 1]? = some s ∧ s.index = x.2 ∧ 1 ≤ x.2)) (fun x => n - x.1) (0, 0) ⟨by simp, hr, fun _ => rfl, fun h => absurd h (by simp)⟩ (Nat.zero_le _) ?_ rfl ?_
  · (cbv; (repeat' (first | exact SnD.refl _ | exact trivial | exact SnD.nat0 | refine And.intro ?_ ?_)))
  intro ⟨k, last⟩ ⟨hk, hq, hz, hpv⟩
  replace hk : k ≤ n := hk
  replace hq : r = okFrom ⟨fe, fi, ft, fm, fn, fd⟩ last (l.drop k) := hq
  replace hz : k = 0 → last = 0 := hz
  replace hpv : 0 < k → ∃ s, l[k - 1]? = some s ∧ s.index = last ∧ 1 ≤ last := hpv
  have hlast : 0 ≤ last := by
    rcases Nat.eq_zero_or_pos k with q | q
    · rw [hz q]; omega
    · obtain ⟨_, _, _, h⟩ := hpv q; omega
  cbv
  refine SplitP.mk (fun hs => ?_) (fun hs => ?_)
  · have hkn : k < n := by
      have h5 : decide ((k : Int) < (l.length : Int)) = true := hs
      have := of_decide_eq_true h5
      omega
    refine ElemP.mk (by show (0 : Int) ≤ (k : Int) ∧ (k : Int) < (l.length : Int); omega) (fun s hx => ?_)
    replace hx : l[k]? = some s := hx
    rw [drop_cons hx] at hq
    obtain ⟨se, si, st, sm, sn, sd⟩ := s
    clear hs
    cbv
    refine ⟨by kernel_rfl, ?_⟩
    cbv
    simp only [okFrom] at hq
    have no : (¬ (st = ft ∧ sm = fm ∧ sd.length = fd.length ∧ last < si ∧ si ≤ fm)) → r = false := fun h => by rw [hq, decide_eq_false h]; rfl
    refine SplitP.mk (fun hs => ?_) (fun hs => ?_) <;> simp only [BE.lss_t, BE.lss_f, BE.leq_t, BE.leq_f, BE.gtr_t, BE.gtr_f, BE.geq_t, BE.geq_f, BE.eql_t, BE.eql_f, BE.neq_t, BE.neq_f, BE.not_t, BE.not_f, BE.var_d, BE.lit_d, BE.seq_t, BE.seq_f, BE.beq_t, BE.beq_f, IE.var_d, IE.lit_d, IE.nat_d, IE.len_d, IE.sum_d, IE.u8_d, ncast, Int.ofNat_lt, Int.ofNat_le, Int.ofNat_inj] at hs
    · refine .mk (.cons (.eq (.bool ?_)) .nil) rfl
      rw [BE.lit_d, BE.var_d, no (by omega)]
    refine SplitP.mk (fun hs => ?_) (fun hs => ?_) <;> simp only [BE.lss_t, BE.lss_f, BE.leq_t, BE.leq_f, BE.gtr_t, BE.gtr_f, BE.geq_t, BE.geq_f, BE.eql_t, BE.eql_f, BE.neq_t, BE.neq_f, BE.not_t, BE.not_f, BE.var_d, BE.lit_d, BE.seq_t, BE.seq_f, BE.beq_t, BE.beq_f, IE.var_d, IE.lit_d, IE.nat_d, IE.len_d, IE.sum_d, IE.u8_d, ncast, Int.ofNat_lt, Int.ofNat_le, Int.ofNat_inj] at hs
    · refine .mk (.cons (.eq (.bool ?_)) .nil) rfl
      rw [BE.lit_d, BE.var_d, no (by omega)]
    refine SplitP.mk (fun h7 => ?_) (fun h7 => ?_)
    · have h8 : ((sd.length : Int) != (fd.length : Int)) = true := h7
      refine .mk (.cons (.eq (.bool ?_)) .nil) rfl
      rw [BE.lit_d, BE.var_d, no (by simp at h8; omega)]
    have h9 : sd.length = fd.length := by
      have h8 : ((sd.length : Int) != (fd.length : Int)) = false := h7
      simp at h8
      omega
    clear h7
    refine SplitP.mk (fun hs => ?_) (fun hs => ?_) <;> simp only [BE.lss_t, BE.lss_f, BE.leq_t, BE.leq_f, BE.gtr_t, BE.gtr_f, BE.geq_t, BE.geq_f, BE.eql_t, BE.eql_f, BE.neq_t, BE.neq_f, BE.not_t, BE.not_f, BE.var_d, BE.lit_d, BE.seq_t, BE.seq_f, BE.beq_t, BE.beq_f, IE.var_d, IE.lit_d, IE.nat_d, IE.len_d, IE.sum_d, IE.u8_d, ncast, Int.ofNat_lt, Int.ofNat_le, Int.ofNat_inj] at hs
    · refine .mk (.cons (.eq (.bool ?_)) .nil) rfl
      rw [BE.lit_d, BE.var_d, no (by omega)]
    refine SplitP.mk (fun hs => ?_) (fun hs => ?_) <;> simp only [BE.lss_t, BE.lss_f, BE.leq_t, BE.leq_f, BE.gtr_t, BE.gtr_f, BE.geq_t, BE.geq_f, BE.eql_t, BE.eql_f, BE.neq_t, BE.neq_f, BE.not_t, BE.not_f, BE.var_d, BE.lit_d, BE.seq_t, BE.seq_f, BE.beq_t, BE.beq_f, IE.var_d, IE.lit_d, IE.nat_d, IE.len_d, IE.sum_d, IE.u8_d, ncast, Int.ofNat_lt, Int.ofNat_le, Int.ofNat_inj] at hs
    · refine .mk (.cons (.eq (.bool ?_)) .nil) rfl
      rw [BE.lit_d, BE.var_d, no (by omega)]
    refine SplitP.mk (fun h10 => ?_) (fun h10 => ?_)
    · have hk0 : 0 < k := by
        have h11 : decide ((k : Int) > 0) = true := h10
        have := of_decide_eq_true h11
        omega
      obtain ⟨p, hp1, hp2, hp3⟩ := hpv hk0
      have ek : binDen .sub .i64 (k : Int) 1 = ((k - 1 : Nat) : Int) := by rw [sub64 (by omega) (by omega)]; omega
      refine ElemP.mk (by show (0 : Int) ≤ binDen .sub .i64 (k : Int) 1 ∧ binDen .sub .i64 (k : Int) 1 < (l.length : Int); rw [ek]; omega) (fun p' hp' => ?_)
      replace hp' : l[(binDen .sub .i64 (k : Int) 1).toNat]? = some p' := hp'
      rw [ek, Int.toNat_natCast, hp1] at hp'
      obtain ⟨pe, pi, pt, pm, pn, pd⟩ := p
      simp only [Option.some.injEq] at hp'
      subst hp'
      simp only at hp2
      clear h10
      cbv
      refine SplitP.mk (fun hs => ?_) (fun hs => ?_) <;> simp only [BE.lss_t, BE.lss_f, BE.leq_t, BE.leq_f, BE.gtr_t, BE.gtr_f, BE.geq_t, BE.geq_f, BE.eql_t, BE.eql_f, BE.neq_t, BE.neq_f, BE.not_t, BE.not_f, BE.var_d, BE.lit_d, BE.seq_t, BE.seq_f, BE.beq_t, BE.beq_f, IE.var_d, IE.lit_d, IE.nat_d, IE.len_d, IE.sum_d, IE.u8_d, ncast, Int.ofNat_lt, Int.ofNat_le, Int.ofNat_inj] at hs
      · refine .mk (.cons (.eq (.bool ?_)) .nil) rfl
        rw [BE.lit_d, BE.var_d, no (by omega)]
      refine BackP.intro (k + 1, si) ⟨by show k + 1 ≤ n; omega, ?_, fun h => absurd h (by simp), fun _ => ⟨_, hx, rfl, by show 1 ≤ si; omega⟩⟩ (by show n - (k + 1) < n - k; omega) ⟨?_, ?_, rfl⟩
      · show r = okFrom _ si (l.drop (k + 1))
        rw [hq, decide_eq_true (by refine ⟨?_, ?_, h9, ?_, ?_⟩ <;> omega), Bool.true_and]
      · (cbv; (repeat' (first | exact SnD.refl _ | exact trivial | exact SnD.nat0 | refine And.intro ?_ ?_)))
        exact .inc (by omega)
      · (cbv; (repeat' (first | exact trivial | exact BkEq.refl _ | exact SnD.refl _ | exact SnDs.nil | refine BkEq.cells ?_ | refine SnDs.cons ?_ ?_ | refine And.intro ?_ ?_)))
    · have hk0 : k = 0 := by
        have h11 : decide ((k : Int) > 0) = false := h10
        have := of_decide_eq_false h11
        omega
      have hl0 := hz hk0
      clear h10
      refine BackP.intro (k + 1, si) ⟨by show k + 1 ≤ n; omega, ?_, fun h => absurd h (by simp), fun _ => ⟨_, hx, rfl, by show 1 ≤ si; omega⟩⟩ (by show n - (k + 1) < n - k; omega) ⟨?_, ?_, rfl⟩
      · show r = okFrom _ si (l.drop (k + 1))
        rw [hq, decide_eq_true (by refine ⟨?_, ?_, h9, ?_, ?_⟩ <;> omega), Bool.true_and]
      · (cbv; (repeat' (first | exact SnD.refl _ | exact trivial | exact SnD.nat0 | refine And.intro ?_ ?_)))
        exact .inc (by omega)
      · (cbv; (repeat' (first | exact trivial | exact BkEq.refl _ | exact SnD.refl _ | exact SnDs.nil | refine BkEq.cells ?_ | refine SnDs.cons ?_ ?_ | refine And.intro ?_ ?_)))
  · refine .mk (.cons (.eq (.bool ?_)) .nil) rfl
    have h5 : decide ((k : Int) < (l.length : Int)) = false := hs
    have h6 := of_decide_eq_false h5
    rw [BE.lit_d, BE.var_d, hq, List.drop_of_length_le (by omega)]
    rfl
/-! Check -/
def epOK (e : Int) (s : ShareD) : Bool := decide (s.epoch = e ∧ 0 ≤ s.epoch ∧ s.epoch ≤ 1048576)
def c01 : Bool → Int
  | true => 0
  | false => 81
def chkB (l : List ShareD) : Int := if alikeB l then (match l with | [] => 80 | f :: _ => c01 (l.all (epOK f.epoch))) else 80
set_option maxRecDepth 100000 in
set_option maxHeartbeats 4000000 in
theorem Check_pure (l : List ShareD) (nb : Option BE) (hl : l.length < 9223372036854775807) : Pure Try.prog 38 [.slm 5 nb ShareD.c l] (i64 (chkB l)) := by
  obtain ⟨r, hr⟩ : ∃ r, r = chkB l := ⟨_, rfl⟩
  rw [← hr]
  obtain ⟨n, hn⟩ : ∃ n : Nat, n = l.length := ⟨_, rfl⟩
  have hA := alike_pure l nb hl
  obtain ⟨ab, hab⟩ : ∃ ab, ab = alikeB l := ⟨_, rfl⟩
  rw [← hab] at hA
  refine Pure.intro (want := [i64 r]) T_ok follows Try.func38 rfl (by kernel_rfl) (rs := [.tmp 2]) rfl (by kernel_rfl) ?_
  generalize hP : Try.prog = P at *
  have hT : T.ok P := hP ▸ T_ok
  have hm : P.follows .mixedOrders = true := hP ▸ follows
  unfold Try.f38
  dsimp only
  cbv
  refine CallP.pure _ hA rfl ?_
  cbv
  refine SplitP.mk (fun hs => ?_) (fun hs => ?_) <;> simp only [BE.lss_t, BE.lss_f, BE.leq_t, BE.leq_f, BE.gtr_t, BE.gtr_f, BE.geq_t, BE.geq_f, BE.eql_t, BE.eql_f, BE.neq_t, BE.neq_f, BE.not_t, BE.not_f, BE.var_d, BE.lit_d, BE.seq_t, BE.seq_f, BE.beq_t, BE.beq_f, IE.var_d, IE.lit_d, IE.nat_d, IE.len_d, IE.sum_d, IE.u8_d, ncast, Int.ofNat_lt, Int.ofNat_le, Int.ofNat_inj] at hs
  · refine .mk (.cons (.eq (.int ?_)) .nil) rfl
    rw [IE.lit_d, IE.var_d, hr]
    have : alikeB l = false := by rw [← hab]; exact hs
    simp [chkB, this]
  have hal : alikeB l = true := by rw [← hab]; simpa using hs
  have hne : 0 < l.length := by
    rcases Nat.eq_zero_or_pos l.length with q | q
    · rw [List.length_eq_zero_iff.1 q] at hal; cases hal
    · exact q
  obtain ⟨f, hf⟩ : ∃ f, l[0]? = some f := ⟨_, List.getElem?_eq_getElem hne⟩
  have hc : chkB l = c01 (l.all (epOK f.epoch)) := by
    unfold chkB
    rw [hal]
    cases l with
    | nil => simp at hf
    | cons a t => simp at hf; subst hf; rfl
  rw [hc] at hr
  obtain ⟨fe, fi, ft, fm, fn, fd⟩ := f
  simp only at hr
  clear hc hs hal hab
  refine CodeP.loopc hT hm (X := Nat) (fun k => [(10, .int .i64 (.nat k))]) (fun k => k ≤ n ∧ r = c01 ((l.drop k).all (epOK fe))) (fun k => n - k) 0 ⟨by simp, hr⟩ (Nat.zero_le _) ?_ rfl ?_
  · (cbv; (repeat' (first | exact SnD.refl _ | exact trivial | exact SnD.nat0 | refine And.intro ?_ ?_)))
  intro k ⟨hk, hq⟩
  cbv
  refine SplitP.mk (fun hs => ?_) (fun hs => ?_)
  · have hkn : k < n := by
      have h5 : decide ((k : Int) < (l.length : Int)) = true := hs
      have := of_decide_eq_true h5
      omega
    refine ElemP.mk (by show (0 : Int) ≤ (k : Int) ∧ (k : Int) < (l.length : Int); omega) (fun s hx => ?_)
    replace hx : l[k]? = some s := hx
    rw [drop_cons hx, List.all_cons] at hq
    obtain ⟨se, si, st, sm, sn, sd⟩ := s
    clear hs
    cbv
    refine ElemP.mk (by show (0 : Int) ≤ 0 ∧ (0 : Int) < (l.length : Int); omega) (fun f' hf' => ?_)
    replace hf' : l[0]? = some f' := hf'
    rw [hf] at hf'
    simp only [Option.some.injEq] at hf'
    subst hf'
    cbv
    replace hq : r = c01 (decide (se = fe ∧ 0 ≤ se ∧ se ≤ 1048576) && (l.drop (k + 1)).all (epOK fe)) := hq
    have no : (¬ (se = fe ∧ 0 ≤ se ∧ se ≤ 1048576)) → r = 81 := fun h => by rw [hq, decide_eq_false h]; rfl
    refine SplitP.mk (fun hs => ?_) (fun hs => ?_) <;> simp only [BE.lss_t, BE.lss_f, BE.leq_t, BE.leq_f, BE.gtr_t, BE.gtr_f, BE.geq_t, BE.geq_f, BE.eql_t, BE.eql_f, BE.neq_t, BE.neq_f, BE.not_t, BE.not_f, BE.var_d, BE.lit_d, BE.seq_t, BE.seq_f, BE.beq_t, BE.beq_f, IE.var_d, IE.lit_d, IE.nat_d, IE.len_d, IE.sum_d, IE.u8_d, ncast, Int.ofNat_lt, Int.ofNat_le, Int.ofNat_inj] at hs
    · refine .mk (.cons (.eq (.int ?_)) .nil) rfl
      rw [IE.lit_d, IE.var_d, no (by omega)]
    refine SplitP.mk (fun hs => ?_) (fun hs => ?_) <;> simp only [BE.lss_t, BE.lss_f, BE.leq_t, BE.leq_f, BE.gtr_t, BE.gtr_f, BE.geq_t, BE.geq_f, BE.eql_t, BE.eql_f, BE.neq_t, BE.neq_f, BE.not_t, BE.not_f, BE.var_d, BE.lit_d, BE.seq_t, BE.seq_f, BE.beq_t, BE.beq_f, IE.var_d, IE.lit_d, IE.nat_d, IE.len_d, IE.sum_d, IE.u8_d, ncast, Int.ofNat_lt, Int.ofNat_le, Int.ofNat_inj] at hs
    · refine .mk (.cons (.eq (.int ?_)) .nil) rfl
      rw [IE.lit_d, IE.var_d, no (by omega)]
    refine SplitP.mk (fun hs => ?_) (fun hs => ?_) <;> simp only [BE.lss_t, BE.lss_f, BE.leq_t, BE.leq_f, BE.gtr_t, BE.gtr_f, BE.geq_t, BE.geq_f, BE.eql_t, BE.eql_f, BE.neq_t, BE.neq_f, BE.not_t, BE.not_f, BE.var_d, BE.lit_d, BE.seq_t, BE.seq_f, BE.beq_t, BE.beq_f, IE.var_d, IE.lit_d, IE.nat_d, IE.len_d, IE.sum_d, IE.u8_d, ncast, Int.ofNat_lt, Int.ofNat_le, Int.ofNat_inj] at hs
    · refine .mk (.cons (.eq (.int ?_)) .nil) rfl
      rw [IE.lit_d, IE.var_d, no (by omega)]
    refine BackP.intro (k + 1) ⟨by omega, ?_⟩ (by show n - (k + 1) < n - k; omega) ⟨?_, ?_, rfl⟩
    · rw [hq, decide_eq_true (by omega), Bool.true_and]
    · (cbv; (repeat' (first | exact SnD.refl _ | exact trivial | exact SnD.nat0 | refine And.intro ?_ ?_)))
      exact .inc (by omega)
    · (cbv; (repeat' (first | exact trivial | exact BkEq.refl _ | exact SnD.refl _ | exact SnDs.nil | refine BkEq.cells ?_ | refine SnDs.cons ?_ ?_ | refine And.intro ?_ ?_)))
  · refine .mk (.cons (.eq (.int ?_)) .nil) rfl
    have h5 : decide ((k : Int) < (l.length : Int)) = false := hs
    have h6 := of_decide_eq_false h5
    rw [IE.lit_d, IE.var_d, hq, List.drop_of_length_le (by omega)]
    rfl
set_option maxRecDepth 100000 in
set_option maxHeartbeats 4000000 in
theorem RCheck_pure (l : List ShareD) (nb : Option BE) (hl : l.length < 9223372036854775807) : Pure Try.prog 40 [.slm 5 nb ShareD.c l] (i64 (chkB l)) := by
  obtain ⟨r, hr⟩ : ∃ r, r = chkB l := ⟨_, rfl⟩
  rw [← hr]
  obtain ⟨n, hn⟩ : ∃ n : Nat, n = l.length := ⟨_, rfl⟩
  have hA := RAlike_pure l nb hl
  obtain ⟨ab, hab⟩ : ∃ ab, ab = alikeB l := ⟨_, rfl⟩
  rw [← hab] at hA
  refine Pure.intro (want := [i64 r]) T_ok follows Try.func40 rfl (by kernel_rfl) (rs := [.tmp 2]) rfl (by kernel_rfl) ?_
  generalize hP : Try.prog = P at *
  have hT : T.ok P := hP ▸ T_ok
  have hm : P.follows .mixedOrders = true := hP ▸ follows
  unfold Try.f40
  dsimp only
  cbv
  refine CallP.pure _ hA rfl ?_
  cbv
  refine SplitP.mk (fun hs => ?_) (fun hs => ?_) <;> simp only [BE.lss_t, BE.lss_f, BE.leq_t, BE.leq_f, BE.gtr_t, BE.gtr_f, BE.geq_t, BE.geq_f, BE.eql_t, BE.eql_f, BE.neq_t, BE.neq_f, BE.not_t, BE.not_f, BE.var_d, BE.lit_d, BE.seq_t, BE.seq_f, BE.beq_t, BE.beq_f, IE.var_d, IE.lit_d, IE.nat_d, IE.len_d, IE.sum_d, IE.u8_d, ncast, Int.ofNat_lt, Int.ofNat_le, Int.ofNat_inj] at hs
  · refine .mk (.cons (.eq (.int ?_)) .nil) rfl
    rw [IE.lit_d, IE.var_d, hr]
    have : alikeB l = false := by rw [← hab]; exact hs
    simp [chkB, this]
  have hal : alikeB l = true := by rw [← hab]; simpa using hs
  have hne : 0 < l.length := by
    rcases Nat.eq_zero_or_pos l.length with q | q
    · rw [List.length_eq_zero_iff.1 q] at hal; cases hal
    · exact q
  obtain ⟨f, hf⟩ : ∃ f, l[0]? = some f := ⟨_, List.getElem?_eq_getElem hne⟩
  have hc : chkB l = c01 (l.all (epOK f.epoch)) := by
    unfold chkB
    rw [hal]
    cases l with
    | nil => simp at hf
    | cons a t => simp at hf; subst hf; rfl
  rw [hc] at hr
  obtain ⟨fe, fi, ft, fm, fn, fd⟩ := f
  simp only at hr
  clear hc hs hal hab
  refine CodeP.loopc hT hm (X := Nat) (fun k => [(3, .int .i64 (.nat k))]) (fun k => k ≤ n ∧ r = c01 ((l.drop k).all (epOK fe))) (fun k => n - k) 0 ⟨by simp, hr⟩ (Nat.zero_le _) ?_ rfl ?_
  · (cbv; (repeat' (first | exact SnD.refl _ | exact trivial | exact SnD.nat0 | refine And.intro ?_ ?_)))
  intro k ⟨hk, hq⟩
  cbv
  refine SplitP.mk (fun hs => ?_) (fun hs => ?_)
  · have hkn : k < n := by
      have h5 : decide ((k : Int) < (l.length : Int)) = true := hs
      have := of_decide_eq_true h5
      omega
    refine ⟨by kernel_rfl, ?_⟩
    cbv
    refine ElemP.mk (by show (0 : Int) ≤ (k : Int) ∧ (k : Int) < (l.length : Int); omega) (fun s hx => ?_)
    replace hx : l[k]? = some s := hx
    rw [drop_cons hx, List.all_cons] at hq
    obtain ⟨se, si, st, sm, sn, sd⟩ := s
    clear hs
    cbv
    refine ElemP.mk (by show (0 : Int) ≤ 0 ∧ (0 : Int) < (l.length : Int); omega) (fun f' hf' => ?_)
    replace hf' : l[0]? = some f' := hf'
    rw [hf] at hf'
    simp only [Option.some.injEq] at hf'
    subst hf'
    cbv
    replace hq : r = c01 (decide (se = fe ∧ 0 ≤ se ∧ se ≤ 1048576) && (l.drop (k + 1)).all (epOK fe)) := hq
    have no : (¬ (se = fe ∧ 0 ≤ se ∧ se ≤ 1048576)) → r = 81 := fun h => by rw [hq, decide_eq_false h]; rfl
    refine SplitP.mk (fun hs => ?_) (fun hs => ?_) <;> simp only [BE.lss_t, BE.lss_f, BE.leq_t, BE.leq_f, BE.gtr_t, BE.gtr_f, BE.geq_t, BE.geq_f, BE.eql_t, BE.eql_f, BE.neq_t, BE.neq_f, BE.not_t, BE.not_f, BE.var_d, BE.lit_d, BE.seq_t, BE.seq_f, BE.beq_t, BE.beq_f, IE.var_d, IE.lit_d, IE.nat_d, IE.len_d, IE.sum_d, IE.u8_d, ncast, Int.ofNat_lt, Int.ofNat_le, Int.ofNat_inj] at hs
    · refine .mk (.cons (.eq (.int ?_)) .nil) rfl
      rw [IE.lit_d, IE.var_d, no (by omega)]
    refine ElemP.mk (by show (0 : Int) ≤ (k : Int) ∧ (k : Int) < (l.length : Int); omega) (fun s' hx' => ?_)
    replace hx' : l[k]? = some s' := hx'
    rw [hx] at hx'
    simp only [Option.some.injEq] at hx'
    subst hx'
    cbv
    refine SplitP.mk (fun hs => ?_) (fun hs => ?_) <;> simp only [BE.lss_t, BE.lss_f, BE.leq_t, BE.leq_f, BE.gtr_t, BE.gtr_f, BE.geq_t, BE.geq_f, BE.eql_t, BE.eql_f, BE.neq_t, BE.neq_f, BE.not_t, BE.not_f, BE.var_d, BE.lit_d, BE.seq_t, BE.seq_f, BE.beq_t, BE.beq_f, IE.var_d, IE.lit_d, IE.nat_d, IE.len_d, IE.sum_d, IE.u8_d, ncast, Int.ofNat_lt, Int.ofNat_le, Int.ofNat_inj] at hs
    · refine .mk (.cons (.eq (.int ?_)) .nil) rfl
      rw [IE.lit_d, IE.var_d, no (by omega)]
    refine ElemP.mk (by show (0 : Int) ≤ (k : Int) ∧ (k : Int) < (l.length : Int); omega) (fun s' hx' => ?_)
    replace hx' : l[k]? = some s' := hx'
    rw [hx] at hx'
    simp only [Option.some.injEq] at hx'
    subst hx'
    cbv
    refine SplitP.mk (fun hs => ?_) (fun hs => ?_) <;> simp only [BE.lss_t, BE.lss_f, BE.leq_t, BE.leq_f, BE.gtr_t, BE.gtr_f, BE.geq_t, BE.geq_f, BE.eql_t, BE.eql_f, BE.neq_t, BE.neq_f, BE.not_t, BE.not_f, BE.var_d, BE.lit_d, BE.seq_t, BE.seq_f, BE.beq_t, BE.beq_f, IE.var_d, IE.lit_d, IE.nat_d, IE.len_d, IE.sum_d, IE.u8_d, ncast, Int.ofNat_lt, Int.ofNat_le, Int.ofNat_inj] at hs
    · refine .mk (.cons (.eq (.int ?_)) .nil) rfl
      rw [IE.lit_d, IE.var_d, no (by omega)]
    refine BackP.intro (k + 1) ⟨by omega, ?_⟩ (by show n - (k + 1) < n - k; omega) ⟨?_, ?_, rfl⟩
    · rw [hq, decide_eq_true (by omega), Bool.true_and]
    · (cbv; (repeat' (first | exact SnD.refl _ | exact trivial | exact SnD.nat0 | refine And.intro ?_ ?_)))
      exact .inc (by omega)
    · (cbv; (repeat' (first | exact trivial | exact BkEq.refl _ | exact SnD.refl _ | exact SnDs.nil | refine BkEq.cells ?_ | refine SnDs.cons ?_ ?_ | refine And.intro ?_ ?_)))
  · refine .mk (.cons (.eq (.int ?_)) .nil) rfl
    have h5 : decide ((k : Int) < (l.length : Int)) = false := hs
    have h6 := of_decide_eq_false h5
    rw [IE.lit_d, IE.var_d, hq, List.drop_of_length_le (by omega)]
    rfl
end Go.Proofs.Ytbmcepkccenoaaa
namespace Go.Proofs.Ytbmcepkccenoaaa
open Go.RowKit

/-! Through, of the code and of the reference, at one and two points. -/
theorem xor_ne {a b : BitVec 8} (h : a ≠ b) : a ^^^ b ≠ 0#8 := fun e => h (by
  have := congrArg (· ^^^ b) e
  simp only [xc1, BitVec.zero_xor] at this
  exact this)
theorem u8_ne {a b : BitVec 8} (h : a ≠ b) : (BE.cmp .eql (.u8 a) (.u8 b)).den = false := by
  show ((a.toNat : Int) == (b.toNat : Int)) = false
  rw [beq_eq_false_iff_ne]
  exact fun e => h (BitVec.eq_of_toNat_eq (by exact_mod_cast e))
set_option maxRecDepth 100000 in
set_option maxHeartbeats 4000000 in
theorem RPoints2_pure (x1 x2 y1 y2 : BitVec 8) (hx : x1 ≠ x2) : Pure Try.prog 83 [.sll 1 [u8C x1, u8C x2], .sll 1 [u8C y1, u8C y2]] (.bool (.lit true)) := by
  refine Pure.intro (want := [.bool (.lit true)]) T_ok follows Try.func83 rfl (by kernel_rfl) (rs := [.tmp 4]) rfl (by kernel_rfl) ?_
  generalize hP : Try.prog = P
  have hT : T.ok P := hP ▸ T_ok
  have hm : P.follows .mixedOrders = true := hP ▸ follows
  unfold Try.f83
  dsimp only
  cbv
  repeat' (first | (refine CodeP.rounds hT hm 4 ?_; cbv))
  refine SplitP.mk (fun hs => ?_) (fun _ => ?_)
  · exfalso
    rw [u8_ne hx] at hs
    cases hs
  · exact .mk (.cons (.eq (.refl _)) .nil) rfl
set_option maxRecDepth 100000 in
set_option maxHeartbeats 4000000 in
theorem RPoints1_pure (x1 y1 : BitVec 8) : Pure Try.prog 83 [.sll 1 [u8C x1], .sll 1 [u8C y1]] (.bool (.lit true)) := by
  refine Pure.intro (want := [.bool (.lit true)]) T_ok follows Try.func83 rfl (by kernel_rfl) (rs := [.tmp 4]) rfl (by kernel_rfl) ?_
  generalize hP : Try.prog = P
  have hT : T.ok P := hP ▸ T_ok
  have hm : P.follows .mixedOrders = true := hP ▸ follows
  unfold Try.f83
  dsimp only
  cbv
  repeat' (first | (refine CodeP.rounds hT hm 4 ?_; cbv))
  exact .mk (.cons (.eq (.refl _)) .nil) rfl
theorem ROver_ie (e1 e2 : IE) (h : b8 e2 ≠ 0#8) : Pure Try.prog 84 [.int .u8 e1, .int .u8 e2] (u8D (gmul (b8 e1) (ginv (b8 e2)))) := Pure.args (.cons (.byte rfl) (.cons (.byte rfl) .nil)) (ROver_pure _ _ h)
/-! what both give at 0 -/
def at0 (x1 x2 y1 y2 : BitVec 8) : BitVec 8 := gmul x2 (gmul y1 (ginv (x1 ^^^ x2))) ^^^ gmul x1 (gmul y2 (ginv (x2 ^^^ x1)))
set_option maxRecDepth 100000 in
set_option maxHeartbeats 4000000 in
theorem RThrough2_pure (x1 x2 y1 y2 : BitVec 8) (hx : x1 ≠ x2) : Pure Try.prog 64 [.sll 1 [u8C x1, u8C x2], .sll 1 [u8C y1, u8C y2], .int .u8 (.lit 0)] (.tup [u8D (at0 x1 x2 y1 y2), .int .i64 (.lit 0)]) := by
  obtain ⟨r, hr⟩ : ∃ r, r = at0 x1 x2 y1 y2 := ⟨_, rfl⟩
  rw [← hr]
  have hPt := RPoints2_pure x1 x2 y1 y2 hx
  have hMul := fun e1 e2 => Pure.args (.cons (.byte rfl) (.cons (.byte rfl) .nil)) (RMul_pure (b8 e1) (b8 e2))
  have hO1 := fun e1 => ROver_ie e1 (.bin .xor .u8 (.u8 x1) (.u8 x2)) (by rw [b8_xor, b8_u8, b8_u8]; exact xor_ne hx)
  have hO2 := fun e1 => ROver_ie e1 (.bin .xor .u8 (.u8 x2) (.u8 x1)) (by rw [b8_xor, b8_u8, b8_u8]; exact xor_ne hx.symm)
  obtain ⟨gm, hgm⟩ : ∃ gm, gm = gmul := ⟨_, rfl⟩
  obtain ⟨gi, hgi⟩ : ∃ gi, gi = ginv := ⟨_, rfl⟩
  obtain ⟨bb, hbb⟩ : ∃ bb, bb = b8 := ⟨_, rfl⟩
  replace hMul : ∀ e1 e2 : IE, Pure Try.prog 82 [.int .u8 e1, .int .u8 e2] (u8D (gm (bb e1) (bb e2))) := by rw [hgm, hbb]; exact hMul
  replace hO1 : ∀ e1 : IE, Pure Try.prog 84 [.int .u8 e1, .int .u8 (.bin .xor .u8 (.u8 x1) (.u8 x2))] (u8D (gm (bb e1) (gi (bb (.bin .xor .u8 (.u8 x1) (.u8 x2)))))) := by rw [hgm, hbb, hgi]; exact hO1
  replace hO2 : ∀ e1 : IE, Pure Try.prog 84 [.int .u8 e1, .int .u8 (.bin .xor .u8 (.u8 x2) (.u8 x1))] (u8D (gm (bb e1) (gi (bb (.bin .xor .u8 (.u8 x2) (.u8 x1)))))) := by rw [hgm, hbb, hgi]; exact hO2
  refine Pure.intro (want := [u8D r, .int .i64 (.lit 0)]) T_ok follows Try.func64 rfl (by kernel_rfl) (rs := [.tmp 6, .tmp 7]) rfl (by kernel_rfl) ?_
  generalize hP : Try.prog = P at *
  have hT : T.ok P := hP ▸ T_ok
  have hm : P.follows .mixedOrders = true := hP ▸ follows
  unfold Try.f64
  dsimp only
  cbv
  refine CallP.pure _ hPt rfl ?_
  cbv
  repeat' (first | (refine CodeP.rounds hT hm 4 ?_; cbv) | (refine PureP.mk _ (hMul _ _) rfl ?_; cbv) | (refine PureP.mk _ (hO1 _) rfl ?_; cbv) | (refine PureP.mk _ (hO2 _) rfl ?_; cbv))
  refine .mk (.cons (.eq (.byte ?_)) (.cons (.eq (.refl _)) .nil)) rfl
  subst hgm hbb hgi hr
  show _ = b8 _
  simp only [at0, b8_u8, b8_xor, b8_lit0, b8_lit1, one8, zero8, BitVec.xor_zero, BitVec.zero_xor]
  rw [← gmul_assoc, gmul_comm x2 y1, gmul_assoc, ← gmul_assoc x1, gmul_comm x1 y2, gmul_assoc y2]
set_option maxRecDepth 100000 in
set_option maxHeartbeats 4000000 in
theorem RThrough1_pure (x1 y1 : BitVec 8) : Pure Try.prog 64 [.sll 1 [u8C x1], .sll 1 [u8C y1], .int .u8 (.lit 0)] (.tup [u8D y1, .int .i64 (.lit 0)]) := by
  have hPt := RPoints1_pure x1 y1
  refine Pure.intro (want := [u8D y1, .int .i64 (.lit 0)]) T_ok follows Try.func64 rfl (by kernel_rfl) (rs := [.tmp 6, .tmp 7]) rfl (by kernel_rfl) ?_
  generalize hP : Try.prog = P at *
  have hT : T.ok P := hP ▸ T_ok
  have hm : P.follows .mixedOrders = true := hP ▸ follows
  unfold Try.f64
  dsimp only
  cbv
  refine CallP.pure _ hPt rfl ?_
  cbv
  repeat' (first | (refine CodeP.rounds hT hm 4 ?_; cbv))
  refine .mk (.cons (.eq (.byte ?_)) (.cons (.eq (.refl _)) .nil)) rfl
  show _ = b8 _
  simp only [b8_u8, b8_xor, b8_lit0, zero8, BitVec.zero_xor]
set_option maxRecDepth 100000 in
set_option maxHeartbeats 4000000 in
theorem Through2_pure (x1 x2 y1 y2 : BitVec 8) (hx : x1 ≠ x2) : Pure Try.prog 62 [.sll 1 [u8C x1, u8C x2], .sll 1 [u8C y1, u8C y2], .int .u8 (.lit 0)] (.tup [u8D (at0 x1 x2 y1 y2), .int .i64 (.lit 0)]) := by
  obtain ⟨r, hr⟩ : ∃ r, r = at0 x1 x2 y1 y2 := ⟨_, rfl⟩
  rw [← hr]
  have hC := Coeff2_pure x1 x2 y1 y2 hx
  obtain ⟨z0, hz0⟩ : ∃ z, z = (co2 x1 x2 y1 y2).1 := ⟨_, rfl⟩
  obtain ⟨z1, hz1⟩ : ∃ z, z = (co2 x1 x2 y1 y2).2 := ⟨_, rfl⟩
  rw [← hz0, ← hz1] at hC
  have hE := Eval2_ie (.u8 z0) (.u8 z1) (.lit 0)
  obtain ⟨e, he⟩ : ∃ e, e = geval [b8 (.u8 z0), b8 (.u8 z1)] (b8 (.lit 0)) := ⟨_, rfl⟩
  rw [← he] at hE
  have her : e = r := by
    rw [he, hr]
    simp only [geval, List.foldr, b8_u8, b8_lit0, zero8, gmul_zero', BitVec.zero_xor]
    exact hz0
  rw [her] at hE
  refine Pure.intro (want := [u8D r, .int .i64 (.lit 0)]) T_ok follows Try.func62 rfl (by kernel_rfl) (rs := [.tmp 6, .tmp 7]) rfl (by kernel_rfl) ?_
  generalize hP : Try.prog = P at *
  have hT : T.ok P := hP ▸ T_ok
  have hm : P.follows .mixedOrders = true := hP ▸ follows
  unfold Try.f62
  dsimp only
  cbv
  refine CallP.pure _ hC rfl ?_
  cbv
  refine CallP.pure _ hE rfl ?_
  cbv
  exact .mk (.cons (.eq (.refl _)) (.cons (.eq (.refl _)) .nil)) rfl
set_option maxRecDepth 100000 in
set_option maxHeartbeats 4000000 in
theorem Through1_pure (x1 y1 : BitVec 8) : Pure Try.prog 62 [.sll 1 [u8C x1], .sll 1 [u8C y1], .int .u8 (.lit 0)] (.tup [u8D y1, .int .i64 (.lit 0)]) := by
  have hC := Coeff1_pure x1 y1
  have h1 : ginv 1#8 = 1#8 := (inv_unique (a := 1#8) (b := 1#8) (g_one _) (by decide)).symm
  rw [h1, g_one'] at hC
  have hE := Eval1_ie (.u8 y1) (.lit 0)
  obtain ⟨e, he⟩ : ∃ e, e = geval [b8 (.u8 y1)] (b8 (.lit 0)) := ⟨_, rfl⟩
  rw [← he] at hE
  have her : e = y1 := by
    rw [he]
    simp only [geval, List.foldr, b8_u8, b8_lit0, zero8, gmul_zero', BitVec.zero_xor]
  rw [her] at hE
  refine Pure.intro (want := [u8D y1, .int .i64 (.lit 0)]) T_ok follows Try.func62 rfl (by kernel_rfl) (rs := [.tmp 6, .tmp 7]) rfl (by kernel_rfl) ?_
  generalize hP : Try.prog = P at *
  have hT : T.ok P := hP ▸ T_ok
  have hm : P.follows .mixedOrders = true := hP ▸ follows
  unfold Try.f62
  dsimp only
  cbv
  refine CallP.pure _ hC rfl ?_
  cbv
  refine CallP.pure _ hE rfl ?_
  cbv
  exact .mk (.cons (.eq (.refl _)) (.cons (.eq (.refl _)) .nil)) rfl
end Go.Proofs.Ytbmcepkccenoaaa
namespace Go.Proofs.Ytbmcepkccenoaaa
open Go.RowKit

/-! shares.Join at two shares. -/
def xi (s : ShareD) : BitVec 8 := BitVec.ofInt 8 s.index
def thru (l : List ShareD) (p : Nat) : BitVec 8 := match l with
  | [a] => a.data.getD p 0
  | [a, b] => at0 (xi a) (xi b) (a.data.getD p 0) (b.data.getD p 0)
  | _ => 0
def js (a b : ShareD) : List ShareD := [a, b].take a.threshold.toNat
def joinE (a b : ShareD) : Int := if chkB [a, b] = 0 then (if 2 < a.threshold then 80 else 0) else chkB [a, b]
def joinL (a b : ShareD) : List (BitVec 8) := if joinE a b = 0 then (List.range a.data.length).map (thru (js a b)) else []
/-- what two valid shares are like -/
theorem chk_two {a b : ShareD} (h : chkB [a, b] = 0) : 1 ≤ a.threshold ∧ a.data.length ≤ 64 ∧ b.data.length = a.data.length ∧ 0 < a.index ∧ a.index < b.index ∧ b.index ≤ 8 := by
  have hal : alikeB [a, b] = true := by
    cases h2 : alikeB [a, b]
    · simp [chkB, h2] at h
    · rfl
  simp only [alikeB, okHead, okFrom, Bool.and_eq_true, decide_eq_true_eq] at hal
  omega
theorem xi_ne {a b : ShareD} (h1 : 0 < a.index) (h2 : a.index < b.index) (h3 : b.index ≤ 8) : xi a ≠ xi b := fun e => by
  have := congrArg BitVec.toNat e
  simp only [xi, BitVec.toNat_ofInt] at this
  omega
theorem js_cases {a b : ShareD} (h1 : 1 ≤ a.threshold) (h2 : ¬ 2 < a.threshold) : (a.threshold = 1 ∧ js a b = [a]) ∨ (a.threshold = 2 ∧ js a b = [a, b]) := by
  have : a.threshold = 1 ∨ a.threshold = 2 := by omega
  rcases this with h | h
  · left; refine ⟨h, ?_⟩; unfold js; rw [h]; rfl
  · right; refine ⟨h, ?_⟩; unfold js; rw [h]; rfl
set_option maxRecDepth 100000 in
set_option maxHeartbeats 4000000 in
theorem Thru_pure {a b : ShareD} (h : chkB [a, b] = 0) (h2 : ¬ 2 < a.threshold) (p : Nat) : Pure Try.prog 62 [.slm 1 none u8C (idxL (js a b)), .slm 1 none u8C (colL (js a b) p), .int .u8 (.lit 0)] (.tup [u8D (thru (js a b) p), .int .i64 (.lit 0)]) := by
  obtain ⟨k1, k2, k3, k4, k5, k6⟩ := chk_two h
  rcases js_cases (b := b) k1 h2 with ⟨_, e⟩ | ⟨_, e⟩
  · rw [e]
    exact Pure.args (.cons (.lls rfl (by simp [idxL])) (.cons (.lls rfl (by simp [colL])) (.cons (.refl _) .nil))) (Through1_pure (xi a) (a.data.getD p 0))
  · rw [e]
    exact Pure.args (.cons (.lls rfl (by simp [idxL])) (.cons (.lls rfl (by simp [colL])) (.cons (.refl _) .nil))) (Through2_pure (xi a) (xi b) (a.data.getD p 0) (b.data.getD p 0) (xi_ne k4 k5 k6))
set_option maxRecDepth 100000 in
set_option maxHeartbeats 4000000 in
theorem Join_pure (a b : ShareD) (nb : Option BE) : Pure Try.prog 41 [.slm 5 nb ShareD.c [a, b]] (.tup [.slm 1 none u8C (joinL a b), i64 (joinE a b)]) := by
  have hC := Check_pure [a, b] nb (by simp)
  obtain ⟨e0, he0⟩ : ∃ e, e = chkB [a, b] := ⟨_, rfl⟩
  rw [← he0] at hC
  obtain ⟨rl, hrl⟩ : ∃ r, r = joinL a b := ⟨_, rfl⟩
  obtain ⟨re, hre⟩ : ∃ r, r = joinE a b := ⟨_, rfl⟩
  rw [← hrl, ← hre]
  have hI := fun l' (h : l'.length ≤ 100000) => indices_pure l' nb h
  have hTh := fun h h2 p => Thru_pure (a := a) (b := b) h h2 p
  obtain ⟨th, hth⟩ : ∃ th, th = thru (js a b) := ⟨_, rfl⟩
  rw [← hth] at hTh
  obtain ⟨xs, hxs⟩ : ∃ xs, xs = idxL (js a b) := ⟨_, rfl⟩
  rw [← hxs] at hTh
  obtain ⟨cl, hcl⟩ : ∃ cl, cl = colL (js a b) := ⟨_, rfl⟩
  rw [← hcl] at hTh
  have hK := fun (h : ∀ s ∈ js a b, s.data.length = a.data.length) (h2 : (js a b).length ≤ 100000) p (hp : p < a.data.length) => column_pure (js a b) nb p h2 (fun s hs => by rw [h s hs]; exact hp)
  rw [← hcl] at hK
  have hIx := hI (js a b) (by unfold js; simp; omega)
  rw [← hxs] at hIx
  obtain ⟨ll, hll⟩ : ∃ ll, ll = js a b := ⟨_, rfl⟩
  rw [← hll] at hK hIx
  clear hI
  obtain ⟨ae, ai, at_, am, an, ad⟩ := a
  obtain ⟨be, bi, bt, bm, bn, bd⟩ := b
  obtain ⟨n, hn⟩ : ∃ n : Nat, n = ad.length := ⟨_, rfl⟩
  refine Pure.intro (want := [.slm 1 none u8C rl, i64 re]) T_ok follows Try.func41 rfl (by kernel_rfl) (rs := [.tmp 2, .tmp 3]) rfl (by kernel_rfl) ?_
  generalize hP : Try.prog = P at *
  have hT : T.ok P := hP ▸ T_ok
  have hm : P.follows .mixedOrders = true := hP ▸ follows
  unfold Try.f41
  dsimp only
  cbv
  refine CallP.pure _ hC rfl ?_
  cbv
  have hre0 : re = if e0 = 0 then (if 2 < at_ then 80 else 0) else e0 := by rw [hre, he0]; rfl
  have hrl0 : re ≠ 0 → rl = [] := fun h => by rw [hrl]; unfold joinL; rw [← hre, if_neg h]
  refine SplitP.mk (fun hs => ?_) (fun hs => ?_) <;> simp only [BE.neq_t, BE.neq_f, IE.var_d, IE.lit_d] at hs
  · rw [if_neg hs] at hre0
    exact .mk (.cons (.eq (.nil0 (hrl0 (by rw [hre0]; exact hs)))) (.cons (.eq (.int hre0.symm)) .nil)) rfl
  rw [if_pos hs] at hre0
  have hchk : chkB [⟨ae, ai, at_, am, an, ad⟩, ⟨be, bi, bt, bm, bn, bd⟩] = 0 := by rw [← he0, hs]
  have hfst : [(⟨ae, ai, at_, am, an, ad⟩ : ShareD), ⟨be, bi, bt, bm, bn, bd⟩][0]? = some ⟨ae, ai, at_, am, an, ad⟩ := rfl
  refine ElemP.mk (by show (0 : Int) ≤ 0 ∧ (0 : Int) < ((2 : Nat) : Int); omega) (fun f hf => ?_)
  replace hf : some (⟨ae, ai, at_, am, an, ad⟩ : ShareD) = some f := hf
  simp only [Option.some.injEq] at hf
  subst hf
  cbv
  refine SplitP.mk (fun hs2 => ?_) (fun hs2 => ?_)
  · have h2 : decide (((2 : Nat) : Int) < at_) = true := hs2
    have h3 := of_decide_eq_true h2
    rw [if_pos (by omega)] at hre0
    exact .mk (.cons (.eq (.nil0 (hrl0 (by rw [hre0]; decide)))) (.cons (.eq (.int hre0.symm)) .nil)) rfl
  have ht2 : ¬ 2 < at_ := by
    have h2 : decide (((2 : Nat) : Int) < at_) = false := hs2
    have h3 := of_decide_eq_false h2
    omega
  rw [if_neg ht2] at hre0
  clear hs2
  obtain ⟨k1, k2, k3, k4, k5, k6⟩ := chk_two hchk
  simp only at k1 k2 k3 k4 k5 k6
  refine ReqP.mk (by show 0 ≤ (0 : Int) ∧ (0 : Int) ≤ at_ ∧ at_ ≤ at_ ∧ at_ ≤ ((2 : Nat) : Int) ∧ _; exact ⟨by omega, by omega, by omega, by omega, fun _ => rfl⟩) (fun _ => ?_)
  refine LetP.mk (fun l' hl' => ?_)
  have hl2 : l' = ll := by rw [hl', hll]; rfl
  subst hl2
  clear hl'
  have hlen : l'.length ≤ 100000 := by rw [hll]; unfold js; simp; omega
  have hall : ∀ s ∈ l', s.data.length = ad.length := fun s hs' => by
    rw [hll] at hs'
    have := List.mem_of_mem_take hs'
    simp at this
    rcases this with rfl | rfl
    · rfl
    · exact k3
  have hl0 : l'[0]? = some ⟨ae, ai, at_, am, an, ad⟩ := by
    rcases js_cases (a := ⟨ae, ai, at_, am, an, ad⟩) (b := ⟨be, bi, bt, bm, bn, bd⟩) k1 ht2 with ⟨_, e⟩ | ⟨_, e⟩ <;> rw [hll, e] <;> rfl
  have hpos : 0 < l'.length := (List.getElem?_eq_some_iff.1 hl0).1
  replace hK := hK hall hlen
  replace hTh := hTh hchk ht2
  cbv
  refine CallP.pure _ hIx rfl ?_
  cbv
  refine ElemP.mk (by show (0 : Int) ≤ 0 ∧ (0 : Int) < (l'.length : Int); omega) (fun f hf => ?_)
  replace hf : l'[0]? = some f := hf
  rw [hl0] at hf
  simp only [Option.some.injEq] at hf
  subst hf
  cbv
  refine (CallP.inl hT hm (hP ▸ Try.func55) rfl (by kernel_rfl) (rs := [.tmp 4]) rfl (by kernel_rfl) ?_)
  unfold Try.f55
  dsimp only
  cbv
  refine CodeP.virt 4 5 1 rfl ?_
  refine CodeP.loopm hT hm (X := Nat × List (BitVec 8)) (fun x => [(7, .int .i64 (.nat x.1)), (4, .osl 1 2 (x.1 + 1) (.cmp .eql (.nat x.1) (.lit 0)) (.lit 0) (.nat x.1))]) (fun x => [.cells [.slm 5 nb ShareD.c l'], .cells [.slm 1 none u8C xs], .row 5 1 (x.1 + 1) (.map u8C x.2)]) (fun x => x.1 ≤ n ∧ x.2 = (List.range x.1).map th) (fun x => n - x.1) (0, []) ⟨by simp, rfl⟩ (fun _ => by simp) ⟨?_, ?_, rfl⟩ ?_
  · (cbv; (repeat' (first | exact SnD.refl _ | exact trivial | exact SnD.nat0 | refine And.intro ?_ ?_)))
    exact osl_start
  · (cbv; (repeat' (first | exact trivial | exact BkEq.refl _ | exact SnD.refl _ | exact SnDs.nil | refine BkEq.cells ?_ | refine SnDs.cons ?_ ?_ | refine And.intro ?_ ?_)))
    exact .row rfl
  intro ⟨k, cur⟩ ⟨hk, hc⟩
  replace hk : k ≤ n := hk
  replace hc : cur = (List.range k).map th := hc
  cbv
  have hcl2 : cur.length = k := by rw [hc]; simp
  refine SplitP.mk (fun hs => ?_) (fun hs => ?_)
  · have hkn : k < ad.length := by
      have h5 : decide ((k : Int) < (ad.length : Int)) = true := hs
      have := of_decide_eq_true h5
      omega
    clear hs
    refine (CallP.inl hT hm (hP ▸ Try.func61) rfl (by kernel_rfl) (rs := [.tmp 4]) rfl (by kernel_rfl) ?_)
    unfold Try.f61
    dsimp only
    cbv
    refine PureP.mk _ (hK k hkn) rfl ?_
    cbv
    refine PureP.mk _ (hTh k) rfl ?_
    cbv
    obtain ⟨z, hz⟩ : ∃ z, z = th k := ⟨_, rfl⟩
    refine ReqP.mk (app_ok hcl2 (by omega) (fun _ => rfl) rfl (by decide)) (fun _ => ?_)
    cbv
    obtain ⟨cur', hcur'⟩ : ∃ cur', cur' = cur ++ [th k] := ⟨_, rfl⟩
    refine BackP.intro (k + 1, cur') ⟨by show k + 1 ≤ n; omega, ?_⟩ (by show n - (k + 1) < n - k; omega) ⟨?_, ?_, rfl⟩
    · show cur' = (List.range (k + 1)).map th
      rw [hcur', hc, List.range_succ]
      simp
    · (cbv; (repeat' (first | exact SnD.refl _ | exact trivial | exact SnD.nat0 | refine And.intro ?_ ?_)))
      · exact .inc (by omega)
      · exact osl_step k
    · (cbv; (repeat' (first | exact trivial | exact BkEq.refl _ | exact SnD.refl _ | exact SnDs.nil | refine BkEq.cells ?_ | refine SnDs.cons ?_ ?_ | refine And.intro ?_ ?_)))
      exact row_app (th k) hcur' (.cons (.refl _) .nil)
  · have hkn : ad.length ≤ k := by
      have h5 : decide ((k : Int) < (ad.length : Int)) = false := hs
      have := of_decide_eq_false h5
      omega
    clear hs
    have hk2 : k = ad.length := by omega
    have hrl1 : rl = (List.range ad.length).map th := by
      rw [hrl]
      unfold joinL
      rw [← hre, if_pos hre0, hth]
    refine .mk (.cons (.slm rfl (.inl ⟨_, _, rfl, ?_⟩) rfl ?_ (fun e h => by cases h)) (.cons (.eq (.int ?_)) .nil)) rfl
    · show cur.map u8C = rl.map u8C
      rw [hc, hk2, hrl1]
    · show (k : Int) = (rl.length : Int)
      rw [hrl1]; simp [hk2]
    · rw [IE.lit_d, IE.var_d, hre0]
end Go.Proofs.Ytbmcepkccenoaaa
namespace Go.Proofs.Ytbmcepkccenoaaa
open Go.RowKit

/-! The reference's Join; equality of shares; few shares. -/
set_option maxRecDepth 100000 in
set_option maxHeartbeats 4000000 in
theorem points_pure (l : List ShareD) (nb : Option BE) (p : Nat) (hl : l.length ≤ 100000) (hp : ∀ s ∈ l, p < s.data.length) : Pure Try.prog 63 [.slm 5 nb ShareD.c l, .int .i64 (.nat p)] (.tup [.slm 1 none u8C (idxL l), .slm 1 none u8C (colL l p)]) := by
  obtain ⟨r1, hr1⟩ : ∃ res, res = idxL l := ⟨_, rfl⟩
  obtain ⟨r2, hr2⟩ : ∃ res, res = colL l p := ⟨_, rfl⟩
  rw [← hr1, ← hr2]
  obtain ⟨n, hn⟩ : ∃ n : Nat, n = l.length := ⟨_, rfl⟩
  refine Pure.intro (want := [.slm 1 none u8C r1, .slm 1 none u8C r2]) T_ok follows Try.func63 rfl (by kernel_rfl) (rs := [.tmp 4, .tmp 5]) rfl (by kernel_rfl) ?_
  generalize hP : Try.prog = P
  have hT : T.ok P := hP ▸ T_ok
  have hm : P.follows .mixedOrders = true := hP ▸ follows
  unfold Try.f63
  dsimp only
  cbv
  refine CodeP.virt 6 5 1 rfl ?_
  refine CodeP.virt 7 5 1 rfl ?_
  refine CodeP.loopm hT hm (X := Nat × List (BitVec 8) × List (BitVec 8)) (fun x => [(8, .int .i64 (.nat x.1)), (6, .osl 1 0 (x.1 + 1) (.cmp .eql (.nat x.1) (.lit 0)) (.lit 0) (.nat x.1)), (7, .osl 1 1 (x.1 + 1) (.cmp .eql (.nat x.1) (.lit 0)) (.lit 0) (.nat x.1))])
    (fun x => [.row 5 1 (x.1 + 1) (.map u8C x.2.1), .row 5 1 (x.1 + 1) (.map u8C x.2.2)]) (fun x => x.1 ≤ n ∧ x.2.1 = idxL (l.take x.1) ∧ x.2.2 = colL (l.take x.1) p) (fun x => n - x.1) (0, [], []) ⟨by simp, rfl, rfl⟩ (fun _ => Nat.zero_le _) ⟨?_, ?_, rfl⟩ ?_
  · (cbv; (repeat' (first | exact SnD.refl _ | exact trivial | exact SnD.nat0 | refine And.intro ?_ ?_)))
    · exact osl_start
    · exact osl_start
  · (cbv; (repeat' (first | exact trivial | exact BkEq.refl _ | exact SnD.refl _ | exact SnDs.nil | refine BkEq.cells ?_ | refine SnDs.cons ?_ ?_ | refine And.intro ?_ ?_)))
    · exact .row rfl
    · exact .row rfl
  intro ⟨k, c1, c2⟩ ⟨hk, hc1, hc2⟩
  replace hk : k ≤ n := hk
  replace hc1 : c1 = idxL (l.take k) := hc1
  replace hc2 : c2 = colL (l.take k) p := hc2
  cbv
  have hl1 : c1.length = k := by rw [hc1]; simp [idxL]; omega
  have hl2 : c2.length = k := by rw [hc2]; simp [colL]; omega
  refine SplitP.mk (fun hs => ?_) (fun hs => ?_)
  · have hkn : k < l.length := by
      have h5 : decide ((k : Int) < (l.length : Int)) = true := hs
      have := of_decide_eq_true h5
      omega
    clear hs
    refine ElemP.mk (by show (0 : Int) ≤ (k : Int) ∧ (k : Int) < (l.length : Int); omega) (fun s hx => ?_)
    replace hx : l[k]? = some s := hx
    have hps := hp s (List.mem_of_getElem? hx)
    obtain ⟨e, i, t, m, nl, d⟩ := s
    simp only at hps
    cbv
    refine ReqP.mk (app_ok hl1 (by omega) (fun _ => rfl) rfl (by decide)) (fun _ => ?_)
    cbv
    refine ElemP.mk (by show (0 : Int) ≤ (k : Int) ∧ (k : Int) < (l.length : Int); omega) (fun s' hx' => ?_)
    replace hx' : l[k]? = some s' := hx'
    rw [hx] at hx'
    simp only [Option.some.injEq] at hx'
    subst hx'
    cbv
    refine ElemP.mk (by show (0 : Int) ≤ (p : Int) ∧ (p : Int) < (d.length : Int); omega) (fun z hz => ?_)
    replace hz : d[p]? = some z := hz
    cbv
    refine ReqP.mk (app_ok hl2 (by omega) (fun _ => rfl) rfl (by decide)) (fun _ => ?_)
    cbv
    obtain ⟨d1, hd1⟩ : ∃ cur', cur' = c1 ++ [BitVec.ofInt 8 i] := ⟨_, rfl⟩
    obtain ⟨d2, hd2⟩ : ∃ cur', cur' = c2 ++ [z] := ⟨_, rfl⟩
    refine BackP.intro (k + 1, d1, d2) ⟨by show k + 1 ≤ n; omega, ?_, ?_⟩ (by show n - (k + 1) < n - k; omega) ⟨?_, ?_, rfl⟩
    · show d1 = idxL (l.take (k + 1))
      rw [hd1, hc1, List.take_add_one, hx]
      simp [idxL]
    · show d2 = colL (l.take (k + 1)) p
      rw [hd2, hc2, List.take_add_one, hx]
      simp [colL, hz]
    · (cbv; (repeat' (first | exact SnD.refl _ | exact trivial | exact SnD.nat0 | refine And.intro ?_ ?_)))
      · exact .inc (by omega)
      · exact osl_step k
      · exact osl_step k
    · (cbv; (repeat' (first | exact trivial | exact BkEq.refl _ | exact SnD.refl _ | exact SnDs.nil | refine BkEq.cells ?_ | refine SnDs.cons ?_ ?_ | refine And.intro ?_ ?_)))
      · exact row_app (BitVec.ofInt 8 i) hd1 (.cons (.byte (conv8 i)) .nil)
      · exact row_app z hd2 (.cons (.refl _) .nil)
  · have hkn : l.length ≤ k := by
      have h5 : decide ((k : Int) < (l.length : Int)) = false := hs
      have := of_decide_eq_false h5
      omega
    clear hs
    have hk2 : k = l.length := by omega
    refine .mk (.cons (.slm rfl (.inl ⟨_, _, rfl, ?_⟩) rfl ?_ (fun e h => by cases h)) (.cons (.slm rfl (.inl ⟨_, _, rfl, ?_⟩) rfl ?_ (fun e h => by cases h)) .nil)) rfl
    · show c1.map u8C = r1.map u8C
      rw [hc1, hk2, List.take_length, hr1]
    · show (k : Int) = (r1.length : Int)
      rw [hr1, ← hl1, hc1, hk2, List.take_length]
    · show c2.map u8C = r2.map u8C
      rw [hc2, hk2, List.take_length, hr2]
    · show (k : Int) = (r2.length : Int)
      rw [hr2, ← hl2, hc2, hk2, List.take_length]
set_option maxRecDepth 100000 in
set_option maxHeartbeats 4000000 in
theorem RThru_pure {a b : ShareD} (h : chkB [a, b] = 0) (h2 : ¬ 2 < a.threshold) (p : Nat) : Pure Try.prog 64 [.slm 1 none u8C (idxL (js a b)), .slm 1 none u8C (colL (js a b) p), .int .u8 (.lit 0)] (.tup [u8D (thru (js a b) p), .int .i64 (.lit 0)]) := by
  obtain ⟨k1, k2, k3, k4, k5, k6⟩ := chk_two h
  rcases js_cases (b := b) k1 h2 with ⟨_, e⟩ | ⟨_, e⟩
  · rw [e]
    exact Pure.args (.cons (.lls rfl (by simp [idxL])) (.cons (.lls rfl (by simp [colL])) (.cons (.refl _) .nil))) (RThrough1_pure (xi a) (a.data.getD p 0))
  · rw [e]
    exact Pure.args (.cons (.lls rfl (by simp [idxL])) (.cons (.lls rfl (by simp [colL])) (.cons (.refl _) .nil))) (RThrough2_pure (xi a) (xi b) (a.data.getD p 0) (b.data.getD p 0) (xi_ne k4 k5 k6))
set_option maxRecDepth 100000 in
set_option maxHeartbeats 4000000 in
theorem RJoin_pure (a b : ShareD) (nb : Option BE) : Pure Try.prog 42 [.slm 5 nb ShareD.c [a, b]] (.tup [.slm 1 none u8C (joinL a b), i64 (joinE a b)]) := by
  have hC := RCheck_pure [a, b] nb (by simp)
  obtain ⟨e0, he0⟩ : ∃ e, e = chkB [a, b] := ⟨_, rfl⟩
  rw [← he0] at hC
  obtain ⟨rl, hrl⟩ : ∃ r, r = joinL a b := ⟨_, rfl⟩
  obtain ⟨re, hre⟩ : ∃ r, r = joinE a b := ⟨_, rfl⟩
  rw [← hrl, ← hre]
  have hTh := fun h h2 p => RThru_pure (a := a) (b := b) h h2 p
  obtain ⟨th, hth⟩ : ∃ th, th = thru (js a b) := ⟨_, rfl⟩
  rw [← hth] at hTh
  obtain ⟨xs, hxs⟩ : ∃ xs, xs = idxL (js a b) := ⟨_, rfl⟩
  rw [← hxs] at hTh
  obtain ⟨cl, hcl⟩ : ∃ cl, cl = colL (js a b) := ⟨_, rfl⟩
  rw [← hcl] at hTh
  have hK := fun (h : ∀ s ∈ js a b, s.data.length = a.data.length) (h2 : (js a b).length ≤ 100000) p (hp : p < a.data.length) => points_pure (js a b) nb p h2 (fun s hs => by rw [h s hs]; exact hp)
  rw [← hcl, ← hxs] at hK
  obtain ⟨ll, hll⟩ : ∃ ll, ll = js a b := ⟨_, rfl⟩
  rw [← hll] at hK
  obtain ⟨ae, ai, at_, am, an, ad⟩ := a
  obtain ⟨be, bi, bt, bm, bn, bd⟩ := b
  obtain ⟨n, hn⟩ : ∃ n : Nat, n = ad.length := ⟨_, rfl⟩
  refine Pure.intro (want := [.slm 1 none u8C rl, i64 re]) T_ok follows Try.func42 rfl (by kernel_rfl) (rs := [.tmp 2, .tmp 3]) rfl (by kernel_rfl) ?_
  generalize hP : Try.prog = P at *
  have hT : T.ok P := hP ▸ T_ok
  have hm : P.follows .mixedOrders = true := hP ▸ follows
  unfold Try.f42
  dsimp only
  cbv
  refine CallP.pure _ hC rfl ?_
  cbv
  have hre0 : re = if e0 = 0 then (if 2 < at_ then 80 else 0) else e0 := by rw [hre, he0]; rfl
  have hrl0 : re ≠ 0 → rl = [] := fun h => by rw [hrl]; unfold joinL; rw [← hre, if_neg h]
  refine SplitP.mk (fun hs => ?_) (fun hs => ?_) <;> simp only [BE.neq_t, BE.neq_f, IE.var_d, IE.lit_d] at hs
  · rw [if_neg hs] at hre0
    exact .mk (.cons (.eq (.nil0 (hrl0 (by rw [hre0]; exact hs)))) (.cons (.eq (.int hre0.symm)) .nil)) rfl
  rw [if_pos hs] at hre0
  have hchk : chkB [⟨ae, ai, at_, am, an, ad⟩, ⟨be, bi, bt, bm, bn, bd⟩] = 0 := by rw [← he0, hs]
  refine ElemP.mk (by show (0 : Int) ≤ 0 ∧ (0 : Int) < ((2 : Nat) : Int); omega) (fun f hf => ?_)
  replace hf : some (⟨ae, ai, at_, am, an, ad⟩ : ShareD) = some f := hf
  simp only [Option.some.injEq] at hf
  subst hf
  cbv
  refine SplitP.mk (fun hs2 => ?_) (fun hs2 => ?_)
  · have h2 : decide (((2 : Nat) : Int) < at_) = true := hs2
    have h3 := of_decide_eq_true h2
    rw [if_pos (by omega)] at hre0
    exact .mk (.cons (.eq (.nil0 (hrl0 (by rw [hre0]; decide)))) (.cons (.eq (.int hre0.symm)) .nil)) rfl
  have ht2 : ¬ 2 < at_ := by
    have h2 : decide (((2 : Nat) : Int) < at_) = false := hs2
    have h3 := of_decide_eq_false h2
    omega
  rw [if_neg ht2] at hre0
  clear hs2
  obtain ⟨k1, k2, k3, k4, k5, k6⟩ := chk_two hchk
  simp only at k1 k2 k3 k4 k5 k6
  have hlen : ll.length ≤ 100000 := by rw [hll]; unfold js; simp; omega
  have hall : ∀ s ∈ ll, s.data.length = ad.length := fun s hs' => by
    rw [hll] at hs'
    have := List.mem_of_mem_take hs'
    simp at this
    rcases this with rfl | rfl
    · rfl
    · exact k3
  replace hK := hK hall hlen
  replace hTh := hTh hchk ht2
  refine CodeP.virt 5 5 1 rfl ?_
  refine CodeP.loopm hT hm (X := Nat × List (BitVec 8)) (fun x => [(6, .int .i64 (.nat x.1)), (5, .osl 1 0 (x.1 + 1) (.cmp .eql (.nat x.1) (.lit 0)) (.lit 0) (.nat x.1))]) (fun x => [.row 5 1 (x.1 + 1) (.map u8C x.2)]) (fun x => x.1 ≤ n ∧ x.2 = (List.range x.1).map th) (fun x => n - x.1) (0, []) ⟨by simp, rfl⟩ (fun _ => Nat.zero_le _) ⟨?_, ?_, rfl⟩ ?_
  · (cbv; (repeat' (first | exact SnD.refl _ | exact trivial | exact SnD.nat0 | refine And.intro ?_ ?_)))
    exact osl_start
  · (cbv; (repeat' (first | exact trivial | exact BkEq.refl _ | exact SnD.refl _ | exact SnDs.nil | refine BkEq.cells ?_ | refine SnDs.cons ?_ ?_ | refine And.intro ?_ ?_)))
    exact .row rfl
  intro ⟨k, cur⟩ ⟨hk, hc⟩
  replace hk : k ≤ n := hk
  replace hc : cur = (List.range k).map th := hc
  cbv
  have hcl2 : cur.length = k := by rw [hc]; simp
  refine ElemP.mk (by show (0 : Int) ≤ 0 ∧ (0 : Int) < ((2 : Nat) : Int); omega) (fun f hf => ?_)
  replace hf : some (⟨ae, ai, at_, am, an, ad⟩ : ShareD) = some f := hf
  simp only [Option.some.injEq] at hf
  subst hf
  cbv
  refine SplitP.mk (fun hs => ?_) (fun hs => ?_)
  · have hkn : k < ad.length := by
      have h5 : decide ((k : Int) < (ad.length : Int)) = true := hs
      have := of_decide_eq_true h5
      omega
    clear hs
    refine ElemP.mk (by show (0 : Int) ≤ 0 ∧ (0 : Int) < ((2 : Nat) : Int); omega) (fun f hf => ?_)
    replace hf : some (⟨ae, ai, at_, am, an, ad⟩ : ShareD) = some f := hf
    simp only [Option.some.injEq] at hf
    subst hf
    cbv
    refine ReqP.mk (by show 0 ≤ (0 : Int) ∧ (0 : Int) ≤ at_ ∧ at_ ≤ ((2 : Nat) : Int) ∧ ((2 : Nat) : Int) ≤ ((2 : Nat) : Int) ∧ _; exact ⟨by omega, by omega, by omega, by omega, fun h => by cases h⟩) (fun _ => ?_)
    refine LetP.mk (fun l' hl' => ?_)
    have hl2 : l' = ll := by rw [hl', hll]; rfl
    rw [hl2]
    clear hl' hl2
    cbv
    refine CallP.pure _ (hK k hkn) rfl ?_
    cbv
    refine CallP.pure _ (hTh k) rfl ?_
    cbv
    refine ReqP.mk (app_ok hcl2 (by omega) (fun _ => rfl) rfl (by decide)) (fun _ => ?_)
    cbv
    obtain ⟨cur', hcur'⟩ : ∃ cur', cur' = cur ++ [th k] := ⟨_, rfl⟩
    refine BackP.intro (k + 1, cur') ⟨by show k + 1 ≤ n; omega, ?_⟩ (by show n - (k + 1) < n - k; omega) ⟨?_, ?_, rfl⟩
    · show cur' = (List.range (k + 1)).map th
      rw [hcur', hc, List.range_succ]
      simp
    · (cbv; (repeat' (first | exact SnD.refl _ | exact trivial | exact SnD.nat0 | refine And.intro ?_ ?_)))
      · exact .inc (by omega)
      · exact osl_step k
    · (cbv; (repeat' (first | exact trivial | exact BkEq.refl _ | exact SnD.refl _ | exact SnDs.nil | refine BkEq.cells ?_ | refine SnDs.cons ?_ ?_ | refine And.intro ?_ ?_)))
      exact row_app (th k) hcur' (.cons (.refl _) .nil)
  · have hkn : ad.length ≤ k := by
      have h5 : decide ((k : Int) < (ad.length : Int)) = false := hs
      have := of_decide_eq_false h5
      omega
    clear hs
    have hk2 : k = ad.length := by omega
    have hrl1 : rl = (List.range ad.length).map th := by
      rw [hrl]
      unfold joinL
      rw [← hre, if_pos hre0, hth]
    refine .mk (.cons (.slm rfl (.inl ⟨_, _, rfl, ?_⟩) rfl ?_ (fun e h => by cases h)) (.cons (.eq (.int ?_)) .nil)) rfl
    · show cur.map u8C = rl.map u8C
      rw [hc, hk2, hrl1]
    · show (k : Int) = (rl.length : Int)
      rw [hrl1]; simp [hk2]
    · rw [IE.lit_d, IE.var_d, hre0]
end Go.Proofs.Ytbmcepkccenoaaa
namespace Go.Proofs.Ytbmcepkccenoaaa
open Go.RowKit

/-! fence.Seed. -/
def seedOf (e : Int) (l : List (BitVec 8)) : List (BitVec 8) × Int := if e ≠ 0 then (List.replicate 32 0, e) else if l.length ≠ 32 then (List.replicate 32 0, 1) else (l, 0)
def seedP (a b : ShareD) : List (BitVec 8) × Int := if b.index < a.index then seedOf (joinE b a) (joinL b a) else seedOf (joinE a b) (joinL a b)
theorem two_mem {α : Type 1} {p : α → Prop} {a b e : α} (ha : p a) (hb : p b) (h : e ∈ [a, b]) : p e := by
  simp only [List.mem_cons, List.not_mem_nil, or_false] at h
  rcases h with rfl | rfl
  · exact ha
  · exact hb
theorem snds_rep {H H' : List Bk} {d d' : D} (h : SnD H H' d d') : ∀ n, SnDs H H' (List.replicate n d) (List.replicate n d')
  | 0 => .nil
  | n + 1 => .cons h (snds_rep h n)
theorem zeros_ret {H : List Bk} {ie : IE} {se : Int} {dl : List D} (h : dl = (List.replicate 32 (0 : BitVec 8), ie.den).1.map (fun b => u8D b) ∧ se = (List.replicate 32 (0 : BitVec 8), ie.den).2) : RetP H [.agg (List.replicate 32 (.int .u8 (.lit 0))), .int .i64 ie] [.agg dl, i64 se] := by
  obtain ⟨rfl, rfl⟩ := h
  refine .mk (.cons (.aggs ?_) (.cons (.eq (.int rfl)) .nil)) rfl
  exact snds_rep (.eq (.byte rfl)) 32
set_option maxRecDepth 100000 in
set_option maxHeartbeats 4000000 in
theorem Seed_pure (a b : ShareD) : Pure Try.prog 21 [.agg a.c, .agg b.c] (.tup [.agg ((seedP a b).1.map fun b => u8D b), i64 (seedP a b).2]) := by
  obtain ⟨sl, hsl⟩ : ∃ r, r = (seedP a b).1.map (fun b => u8D b) := ⟨_, rfl⟩
  obtain ⟨se, hse⟩ : ∃ r, r = (seedP a b).2 := ⟨_, rfl⟩
  rw [← hsl, ← hse]
  have hJ1 := Join_pure a b none
  have hJ2 := Join_pure b a none
  obtain ⟨l1, hl1⟩ : ∃ r, r = joinL a b := ⟨_, rfl⟩
  obtain ⟨l2, hl2⟩ : ∃ r, r = joinL b a := ⟨_, rfl⟩
  obtain ⟨e1, he1⟩ : ∃ r, r = joinE a b := ⟨_, rfl⟩
  obtain ⟨e2, he2⟩ : ∃ r, r = joinE b a := ⟨_, rfl⟩
  rw [← hl1, ← he1] at hJ1
  rw [← hl2, ← he2] at hJ2
  have hr : sl = (if b.index < a.index then seedOf e2 l2 else seedOf e1 l1).1.map (fun b => u8D b) ∧ se = (if b.index < a.index then seedOf e2 l2 else seedOf e1 l1).2 := by
    rw [hsl, hse, hl1, hl2, he1, he2]; exact ⟨rfl, rfl⟩
  clear hsl hse hl1 hl2 he1 he2
  obtain ⟨ae, ai, at_, am, an, ad⟩ := a
  obtain ⟨be, bi, bt, bm, bn, bd⟩ := b
  simp only at hr
  refine Pure.intro (want := [.agg sl, i64 se]) T_ok follows Try.func21 rfl (by kernel_rfl) (rs := [.cell 4 35, .tmp 5]) rfl (by kernel_rfl) ?_
  generalize hP : Try.prog = P at *
  have hT : T.ok P := hP ▸ T_ok
  have hm : P.follows .mixedOrders = true := hP ▸ follows
  unfold Try.f21
  dsimp only
  cbv
  refine SplitP.mk (fun hs => ?_) (fun hs => ?_) <;> simp only [BE.lss_t, BE.lss_f, BE.leq_t, BE.leq_f, BE.gtr_t, BE.gtr_f, BE.geq_t, BE.geq_f, BE.eql_t, BE.eql_f, BE.neq_t, BE.neq_f, BE.not_t, BE.not_f, BE.var_d, BE.lit_d, BE.seq_t, BE.seq_f, BE.beq_t, BE.beq_f, IE.var_d, IE.lit_d, IE.nat_d, IE.len_d, IE.sum_d, IE.u8_d, ncast, Int.ofNat_lt, Int.ofNat_le, Int.ofNat_inj] at hs
  · rw [if_pos hs] at hr
    refine CallP.pre [.sll 5 [[.int .i64 (.var be), .int .i64 (.var bi), .int .i64 (.var bt), .int .i64 (.var bm), .slm 1 (some (.var bn)) u8C bd], [.int .i64 (.var ae), .int .i64 (.var ai), .int .i64 (.var at_), .int .i64 (.var am), .slm 1 (some (.var an)) u8C ad]]] [_, _, _, .dead] (.cons (.sll rfl (.inr ⟨rfl, _, rfl, rfl, fun e he => two_mem (p := fun e => e.length = 5 ∧ e.all (D.dataB 5) = true) ⟨rfl, rfl⟩ ⟨rfl, rfl⟩ he⟩) rfl rfl rfl) .nil) ⟨.refl _, .refl _, .refl _, .dead _, trivial⟩ rfl rfl ?_
    refine CallP.pure _ (Pure.args (.cons (.sll rfl (fun e h => by cases h)) .nil) hJ2) rfl ?_
    cbv
    refine SplitP.mk (fun h1 => ?_) (fun h1 => ?_) <;> simp only [BE.neq_t, BE.neq_f, IE.var_d, IE.lit_d] at h1
    · unfold seedOf at hr
      rw [if_pos h1] at hr
      exact zeros_ret (ie := .var e2) hr
    refine SplitP.mk (fun h2 => ?_) (fun h2 => ?_)
    · have h3 : (!decide ((l2.length : Int) = 32)) = true := h2
      have h4 : ¬ l2.length = 32 := fun q => by rw [q] at h3; cases h3
      unfold seedOf at hr
      rw [if_neg (by simp [h1]), if_pos h4] at hr
      exact zeros_ret (ie := .lit 1) hr
    · have h3 : (!decide ((l2.length : Int) = 32)) = false := h2
      have h4 : l2.length = 32 := by
        have h5 : decide ((l2.length : Int) = 32) = true := by simpa using h3
        have := of_decide_eq_true h5
        omega
      unfold seedOf at hr
      rw [if_neg (by simp [h1]), if_neg (by simp [h4])] at hr
      obtain ⟨rfl, rfl⟩ := hr
      clear h2 h3 hJ1 hJ2
      obtain ⟨x0, x1, x2, x3, x4, x5, x6, x7, x8, x9, x10, x11, x12, x13, x14, x15, x16, x17, x18, x19, x20, x21, x22, x23, x24, x25, x26, x27, x28, x29, x30, x31, rfl⟩ := list32 h4
      refine HoldP.mk ⟨rfl, rfl, rfl, rfl, Nat.le_of_eq rfl, map_cells (fun _ => rfl)⟩ ?_
      cbv
      exact .mk (.cons (.eq (.refl _)) (.cons (.eq (.int rfl)) .nil)) rfl
  · rw [if_neg (by omega)] at hr
    refine CallP.pre [.sll 5 [[.int .i64 (.var ae), .int .i64 (.var ai), .int .i64 (.var at_), .int .i64 (.var am), .slm 1 (some (.var an)) u8C ad], [.int .i64 (.var be), .int .i64 (.var bi), .int .i64 (.var bt), .int .i64 (.var bm), .slm 1 (some (.var bn)) u8C bd]]] [_, _, _, .dead] (.cons (.sll rfl (.inr ⟨rfl, _, rfl, rfl, fun e he => two_mem (p := fun e => e.length = 5 ∧ e.all (D.dataB 5) = true) ⟨rfl, rfl⟩ ⟨rfl, rfl⟩ he⟩) rfl rfl rfl) .nil) ⟨.refl _, .refl _, .refl _, .dead _, trivial⟩ rfl rfl ?_
    refine CallP.pure _ (Pure.args (.cons (.sll rfl (fun e h => by cases h)) .nil) hJ1) rfl ?_
    cbv
    refine SplitP.mk (fun h1 => ?_) (fun h1 => ?_) <;> simp only [BE.neq_t, BE.neq_f, IE.var_d, IE.lit_d] at h1
    · unfold seedOf at hr
      rw [if_pos h1] at hr
      exact zeros_ret (ie := .var e1) hr
    refine SplitP.mk (fun h2 => ?_) (fun h2 => ?_)
    · have h3 : (!decide ((l1.length : Int) = 32)) = true := h2
      have h4 : ¬ l1.length = 32 := fun q => by rw [q] at h3; cases h3
      unfold seedOf at hr
      rw [if_neg (by simp [h1]), if_pos h4] at hr
      exact zeros_ret (ie := .lit 1) hr
    · have h3 : (!decide ((l1.length : Int) = 32)) = false := h2
      have h4 : l1.length = 32 := by
        have h5 : decide ((l1.length : Int) = 32) = true := by simpa using h3
        have := of_decide_eq_true h5
        omega
      unfold seedOf at hr
      rw [if_neg (by simp [h1]), if_neg (by simp [h4])] at hr
      obtain ⟨rfl, rfl⟩ := hr
      clear h2 h3 hJ1 hJ2
      obtain ⟨x0, x1, x2, x3, x4, x5, x6, x7, x8, x9, x10, x11, x12, x13, x14, x15, x16, x17, x18, x19, x20, x21, x22, x23, x24, x25, x26, x27, x28, x29, x30, x31, rfl⟩ := list32 h4
      refine HoldP.mk ⟨rfl, rfl, rfl, rfl, Nat.le_of_eq rfl, map_cells (fun _ => rfl)⟩ ?_
      cbv
      exact .mk (.cons (.eq (.refl _)) (.cons (.eq (.int rfl)) .nil)) rfl
end Go.Proofs.Ytbmcepkccenoaaa
namespace Go.Proofs.Ytbmcepkccenoaaa
open Go.RowKit

/-! fence.Help. -/
theorem find_first {α : Type} {p : α → Bool} : ∀ {l : List α} {k : Nat} {s : α}, l[k]? = some s → (∀ x ∈ l.take k, p x = false) → p s = true → l.find? p = some s
  | [], _, _, h, _, _ => by cases h
  | x :: l, 0, s, h, _, hs => by simp at h; subst h; simp [hs]
  | x :: l, k + 1, s, h, h2, hs => by
    rw [List.find?_cons, h2 x (by simp)]
    exact find_first (k := k) (by simpa using h) (fun y hy => h2 y (by simp [hy])) hs
theorem take_all {α : Type} {p : α → Bool} {l : List α} {k : Nat} {s : α} (h : l[k]? = some s) (h2 : ∀ x ∈ l.take k, p x = false) (hs : p s = false) : ∀ x ∈ l.take (k + 1), p x = false := fun x hx => by
  rw [List.take_add_one, h] at hx
  simp at hx
  rcases hx with hx | rfl
  · exact h2 x hx
  · exact hs
def isBy (b : Int) (s : ShareD) : Bool := decide (binDen .sub .i64 s.index 1 = b)
def zeroS : ShareD := ⟨0, 0, 0, 0, true, []⟩
def helpP (f : FenceD) (l : List ShareD) (d b : Int) : ShareD × Int :=
  if chkB l ≠ 0 then (zeroS, chkB l) else if d < 0 ∨ b < 0 ∨ d = b then (zeroS, 1) else if d ∈ f.devices ∨ b ∈ f.devices then (zeroS, 440) else match l.find? (isBy b) with
    | some s => (s, 0)
    | none => (zeroS, 1)
theorem zeroS_ret {H : List Bk} {ie : IE} {re : Int} {rs : ShareD} (h : rs = zeroS ∧ re = ie.den) : RetP H [.agg [.int .i64 (.lit 0), .int .i64 (.lit 0), .int .i64 (.lit 0), .int .i64 (.lit 0), .nils], .int .i64 ie] [.agg rs.c, i64 re] := by
  obtain ⟨rfl, rfl⟩ := h
  exact .mk (.cons (.aggs (.cons (.eq (.int rfl)) (.cons (.eq (.int rfl)) (.cons (.eq (.int rfl)) (.cons (.eq (.int rfl)) (.cons (.eq (.nilv rfl rfl)) .nil)))))) (.cons (.eq (.int rfl)) .nil)) rfl
set_option maxRecDepth 100000 in
set_option maxHeartbeats 4000000 in
theorem Help_pure (f : FenceD) (l : List ShareD) (nb : Option BE) (d b : Int) (hf : f.devices.length < 9223372036854775807) (hl : l.length < 9223372036854775807) (hd : ∀ s ∈ l, (s.nil = true → s.data = []) ∧ s.data.length ≤ 100000) :
    Pure Try.prog 19 [f.d, .slm 5 nb ShareD.c l, i64 d, i64 b] (.tup [.agg (helpP f l d b).1.c, i64 (helpP f l d b).2]) := by
  obtain ⟨rs, hrs⟩ : ∃ r, r = (helpP f l d b).1 := ⟨_, rfl⟩
  obtain ⟨re, hre⟩ : ∃ r, r = (helpP f l d b).2 := ⟨_, rfl⟩
  rw [← hrs, ← hre]
  have hC := Check_pure l nb hl
  have hI1 := Is_pure f d hf
  have hI2 := Is_pure f b hf
  obtain ⟨ck, hck⟩ : ∃ c, c = chkB l := ⟨_, rfl⟩
  obtain ⟨i1, hi1⟩ : ∃ c, c = decide (d ∈ f.devices) := ⟨_, rfl⟩
  obtain ⟨i2, hi2⟩ : ∃ c, c = decide (b ∈ f.devices) := ⟨_, rfl⟩
  rw [← hck] at hC
  rw [← hi1] at hI1
  rw [← hi2] at hI2
  have hcl := fun (s : ShareD) hs => Clone_pure s.data s.nil (hd s hs).1 (hd s hs).2
  have r1 : ck ≠ 0 → rs = zeroS ∧ re = ck := fun h => by
    rw [hrs, hre, hck]; unfold helpP; rw [hck] at h; rw [if_pos h]; exact ⟨rfl, rfl⟩
  have r2 : ck = 0 → (d < 0 ∨ b < 0 ∨ d = b) → rs = zeroS ∧ re = 1 := fun h h2 => by
    rw [hrs, hre]; unfold helpP; rw [if_neg (by rw [← hck]; simp [h]), if_pos h2]; exact ⟨rfl, rfl⟩
  have r3 : ck = 0 → ¬ (d < 0 ∨ b < 0 ∨ d = b) → (i1 = true ∨ i2 = true) → rs = zeroS ∧ re = 440 := fun h h2 h3 => by
    rw [hi1, hi2, decide_eq_true_eq, decide_eq_true_eq] at h3
    rw [hrs, hre]; unfold helpP; rw [if_neg (by rw [← hck]; simp [h]), if_neg h2, if_pos h3]; exact ⟨rfl, rfl⟩
  have r4 : ck = 0 → ¬ (d < 0 ∨ b < 0 ∨ d = b) → i1 = false → i2 = false → (∀ s, l.find? (isBy b) = some s → rs = s ∧ re = 0) ∧ (l.find? (isBy b) = none → rs = zeroS ∧ re = 1) := fun h h2 h3 h4 => by
    rw [hi1, decide_eq_false_iff_not] at h3
    rw [hi2, decide_eq_false_iff_not] at h4
    rw [hrs, hre]; unfold helpP; rw [if_neg (by rw [← hck]; simp [h]), if_neg h2, if_neg (by simp [h3, h4])]
    refine ⟨fun s hs => ?_, fun hs => ?_⟩ <;> rw [hs] <;> exact ⟨rfl, rfl⟩
  clear hck hi1 hi2 hrs hre hd
  obtain ⟨fno, fnil, fdv⟩ := f
  refine Pure.intro (want := [.agg rs.c, i64 re]) T_ok follows Try.func19 rfl (by kernel_rfl) (rs := [.cell 8 39, .tmp 9]) rfl (by kernel_rfl) ?_
  generalize hP : Try.prog = P at *
  have hT : T.ok P := hP ▸ T_ok
  have hm : P.follows .mixedOrders = true := hP ▸ follows
  unfold Try.f19
  dsimp only
  cbv
  refine CallP.pure _ hC rfl ?_
  cbv
  refine SplitP.mk (fun hs => ?_) (fun hs => ?_) <;> simp only [BE.neq_t, BE.neq_f, IE.var_d, IE.lit_d] at hs
  · exact zeroS_ret (r1 hs)
  replace r2 := r2 hs
  replace r3 := r3 hs
  replace r4 := r4 hs
  clear r1 hs
  refine SplitP.mk (fun h1 => ?_) (fun h1 => ?_) <;> simp only [BE.lss_t, BE.lss_f, BE.leq_t, BE.leq_f, BE.gtr_t, BE.gtr_f, BE.geq_t, BE.geq_f, BE.eql_t, BE.eql_f, BE.neq_t, BE.neq_f, BE.not_t, BE.not_f, BE.var_d, BE.lit_d, BE.seq_t, BE.seq_f, BE.beq_t, BE.beq_f, IE.var_d, IE.lit_d, IE.nat_d, IE.len_d, IE.sum_d, IE.u8_d, ncast, Int.ofNat_lt, Int.ofNat_le, Int.ofNat_inj] at h1
  · exact zeroS_ret (r2 (.inl h1))
  refine SplitP.mk (fun h2 => ?_) (fun h2 => ?_) <;> simp only [BE.lss_t, BE.lss_f, BE.leq_t, BE.leq_f, BE.gtr_t, BE.gtr_f, BE.geq_t, BE.geq_f, BE.eql_t, BE.eql_f, BE.neq_t, BE.neq_f, BE.not_t, BE.not_f, BE.var_d, BE.lit_d, BE.seq_t, BE.seq_f, BE.beq_t, BE.beq_f, IE.var_d, IE.lit_d, IE.nat_d, IE.len_d, IE.sum_d, IE.u8_d, ncast, Int.ofNat_lt, Int.ofNat_le, Int.ofNat_inj] at h2
  · exact zeroS_ret (r2 (.inr (.inl h2)))
  refine SplitP.mk (fun h3 => ?_) (fun h3 => ?_) <;> simp only [BE.lss_t, BE.lss_f, BE.leq_t, BE.leq_f, BE.gtr_t, BE.gtr_f, BE.geq_t, BE.geq_f, BE.eql_t, BE.eql_f, BE.neq_t, BE.neq_f, BE.not_t, BE.not_f, BE.var_d, BE.lit_d, BE.seq_t, BE.seq_f, BE.beq_t, BE.beq_f, IE.var_d, IE.lit_d, IE.nat_d, IE.len_d, IE.sum_d, IE.u8_d, ncast, Int.ofNat_lt, Int.ofNat_le, Int.ofNat_inj] at h3
  · exact zeroS_ret (r2 (.inr (.inr h3)))
  replace r3 := r3 (by omega)
  replace r4 := r4 (by omega)
  clear r2
  refine CallP.pure _ hI1 rfl ?_
  cbv
  refine SplitP.mk (fun h4 => ?_) (fun h4 => ?_) <;> simp only [BE.lss_t, BE.lss_f, BE.leq_t, BE.leq_f, BE.gtr_t, BE.gtr_f, BE.geq_t, BE.geq_f, BE.eql_t, BE.eql_f, BE.neq_t, BE.neq_f, BE.not_t, BE.not_f, BE.var_d, BE.lit_d, BE.seq_t, BE.seq_f, BE.beq_t, BE.beq_f, IE.var_d, IE.lit_d, IE.nat_d, IE.len_d, IE.sum_d, IE.u8_d, ncast, Int.ofNat_lt, Int.ofNat_le, Int.ofNat_inj] at h4
  · exact zeroS_ret (r3 (.inl h4))
  refine CallP.pure _ hI2 rfl ?_
  cbv
  refine SplitP.mk (fun h5 => ?_) (fun h5 => ?_) <;> simp only [BE.lss_t, BE.lss_f, BE.leq_t, BE.leq_f, BE.gtr_t, BE.gtr_f, BE.geq_t, BE.geq_f, BE.eql_t, BE.eql_f, BE.neq_t, BE.neq_f, BE.not_t, BE.not_f, BE.var_d, BE.lit_d, BE.seq_t, BE.seq_f, BE.beq_t, BE.beq_f, IE.var_d, IE.lit_d, IE.nat_d, IE.len_d, IE.sum_d, IE.u8_d, ncast, Int.ofNat_lt, Int.ofNat_le, Int.ofNat_inj] at h5
  · exact zeroS_ret (r3 (.inr h5))
  obtain ⟨r5, r6⟩ := r4 h4 h5
  clear r3 r4 hI1 hI2 hC
  obtain ⟨n, hn⟩ : ∃ n : Nat, n = l.length := ⟨_, rfl⟩
  refine CodeP.loopc hT hm (X := Nat) (fun k => [(42, .int .i64 (.nat k))]) (fun k => k ≤ n ∧ ∀ s ∈ l.take k, isBy b s = false) (fun k => n - k) 0 ⟨by omega, fun s hs => by simp at hs⟩ (by simp) ?_ rfl ?_
  · (cbv; (repeat' (first | exact SnD.refl _ | exact trivial | exact SnD.nat0 | refine And.intro ?_ ?_)))
  intro k ⟨hk, hbef⟩
  replace hk : k ≤ n := hk
  replace hbef : ∀ s ∈ l.take k, isBy b s = false := hbef
  cbv
  refine SplitP.mk (fun hs => ?_) (fun hs => ?_)
  · have hkn : k < l.length := by
      have h5 : decide ((k : Int) < (l.length : Int)) = true := hs
      have := of_decide_eq_true h5
      omega
    clear hs
    refine ElemP.mk (by show (0 : Int) ≤ (k : Int) ∧ (k : Int) < (l.length : Int); omega) (fun s hx => ?_)
    replace hx : l[k]? = some s := hx
    have hcs := hcl s (List.mem_of_getElem? hx)
    obtain ⟨p, hp⟩ : ∃ p, p = isBy b s := ⟨_, rfl⟩
    have hf1 := fun h => r5 s (find_first hx hbef h)
    have hf2 := fun h => take_all hx hbef h
    rw [← hp] at hf1 hf2
    obtain ⟨e, i, t, m, nl, dd⟩ := s
    have hp2 : p = decide (binDen .sub .i64 i 1 = b) := hp
    clear hbef hp
    cbv
    refine SplitP.mk (fun hs => ?_) (fun hs => ?_)
    · have hpt : p = true := hp2.trans hs
      obtain ⟨e1, e2⟩ := hf1 hpt
      refine CallP.pure _ hcs rfl ?_
      cbv
      subst e1 e2
      exact .mk (.cons (.eq (.refl _)) (.cons (.eq (.int rfl)) .nil)) rfl
    · have hpf : p = false := hp2.trans hs
      refine BackP.intro (k + 1) ⟨by show k + 1 ≤ n; omega, hf2 hpf⟩ (by show n - (k + 1) < n - k; omega) ⟨?_, ?_, rfl⟩
      · (cbv; (repeat' (first | exact SnD.refl _ | exact trivial | exact SnD.nat0 | refine And.intro ?_ ?_)))
        exact .inc (by omega)
      · (cbv; (repeat' (first | exact trivial | exact BkEq.refl _ | exact SnD.refl _ | exact SnDs.nil | refine BkEq.cells ?_ | refine SnDs.cons ?_ ?_ | refine And.intro ?_ ?_)))
  · have hkn : l.length ≤ k := by
      have h5 : decide ((k : Int) < (l.length : Int)) = false := hs
      have := of_decide_eq_false h5
      omega
    clear hs
    have hk2 : k = l.length := by omega
    refine zeroS_ret (r6 (List.find?_eq_none.2 fun x hx => ?_))
    rw [hk2, List.take_length] at hbef
    simp [hbef x hx]
set_option maxRecDepth 100000 in
set_option maxHeartbeats 4000000 in
theorem RHelp_pure (f : FenceD) (l : List ShareD) (nb : Option BE) (d b : Int) (hf : f.devices.length < 9223372036854775807) (hl : l.length < 9223372036854775807) :
    Pure Try.prog 20 [f.d, .slm 5 nb ShareD.c l, i64 d, i64 b] (.tup [.agg (helpP f l d b).1.c, i64 (helpP f l d b).2]) := by
  obtain ⟨rs, hrs⟩ : ∃ r, r = (helpP f l d b).1 := ⟨_, rfl⟩
  obtain ⟨re, hre⟩ : ∃ r, r = (helpP f l d b).2 := ⟨_, rfl⟩
  rw [← hrs, ← hre]
  have hC := RCheck_pure l nb hl
  have hI1 := RIs_pure f d hf
  have hI2 := RIs_pure f b hf
  obtain ⟨ck, hck⟩ : ∃ c, c = chkB l := ⟨_, rfl⟩
  obtain ⟨i1, hi1⟩ : ∃ c, c = decide (d ∈ f.devices) := ⟨_, rfl⟩
  obtain ⟨i2, hi2⟩ : ∃ c, c = decide (b ∈ f.devices) := ⟨_, rfl⟩
  rw [← hck] at hC
  rw [← hi1] at hI1
  rw [← hi2] at hI2
  have r1 : ck ≠ 0 → rs = zeroS ∧ re = ck := fun h => by
    rw [hrs, hre, hck]; unfold helpP; rw [hck] at h; rw [if_pos h]; exact ⟨rfl, rfl⟩
  have r2 : ck = 0 → (d < 0 ∨ b < 0 ∨ d = b) → rs = zeroS ∧ re = 1 := fun h h2 => by
    rw [hrs, hre]; unfold helpP; rw [if_neg (by rw [← hck]; simp [h]), if_pos h2]; exact ⟨rfl, rfl⟩
  have r3 : ck = 0 → ¬ (d < 0 ∨ b < 0 ∨ d = b) → (i1 = true ∨ i2 = true) → rs = zeroS ∧ re = 440 := fun h h2 h3 => by
    rw [hi1, hi2, decide_eq_true_eq, decide_eq_true_eq] at h3
    rw [hrs, hre]; unfold helpP; rw [if_neg (by rw [← hck]; simp [h]), if_neg h2, if_pos h3]; exact ⟨rfl, rfl⟩
  have r4 : ck = 0 → ¬ (d < 0 ∨ b < 0 ∨ d = b) → i1 = false → i2 = false → (∀ s, l.find? (isBy b) = some s → rs = s ∧ re = 0) ∧ (l.find? (isBy b) = none → rs = zeroS ∧ re = 1) := fun h h2 h3 h4 => by
    rw [hi1, decide_eq_false_iff_not] at h3
    rw [hi2, decide_eq_false_iff_not] at h4
    rw [hrs, hre]; unfold helpP; rw [if_neg (by rw [← hck]; simp [h]), if_neg h2, if_neg (by simp [h3, h4])]
    refine ⟨fun s hs => ?_, fun hs => ?_⟩ <;> rw [hs] <;> exact ⟨rfl, rfl⟩
  clear hck hi1 hi2 hrs hre
  obtain ⟨fno, fnil, fdv⟩ := f
  refine Pure.intro (want := [.agg rs.c, i64 re]) T_ok follows Try.func20 rfl (by kernel_rfl) (rs := [.cell 8 39, .tmp 9]) rfl (by kernel_rfl) ?_
  generalize hP : Try.prog = P at *
  have hT : T.ok P := hP ▸ T_ok
  have hm : P.follows .mixedOrders = true := hP ▸ follows
  unfold Try.f20
  dsimp only
  cbv
  refine CallP.pure _ hC rfl ?_
  cbv
  refine SplitP.mk (fun hs => ?_) (fun hs => ?_) <;> simp only [BE.neq_t, BE.neq_f, IE.var_d, IE.lit_d] at hs
  · exact zeroS_ret (r1 hs)
  replace r2 := r2 hs
  replace r3 := r3 hs
  replace r4 := r4 hs
  clear r1 hs
  refine SplitP.mk (fun h1 => ?_) (fun h1 => ?_) <;> simp only [BE.lss_t, BE.lss_f, BE.leq_t, BE.leq_f, BE.gtr_t, BE.gtr_f, BE.geq_t, BE.geq_f, BE.eql_t, BE.eql_f, BE.neq_t, BE.neq_f, BE.not_t, BE.not_f, BE.var_d, BE.lit_d, BE.seq_t, BE.seq_f, BE.beq_t, BE.beq_f, IE.var_d, IE.lit_d, IE.nat_d, IE.len_d, IE.sum_d, IE.u8_d, ncast, Int.ofNat_lt, Int.ofNat_le, Int.ofNat_inj] at h1
  · exact zeroS_ret (r2 (.inl h1))
  refine SplitP.mk (fun h2 => ?_) (fun h2 => ?_) <;> simp only [BE.lss_t, BE.lss_f, BE.leq_t, BE.leq_f, BE.gtr_t, BE.gtr_f, BE.geq_t, BE.geq_f, BE.eql_t, BE.eql_f, BE.neq_t, BE.neq_f, BE.not_t, BE.not_f, BE.var_d, BE.lit_d, BE.seq_t, BE.seq_f, BE.beq_t, BE.beq_f, IE.var_d, IE.lit_d, IE.nat_d, IE.len_d, IE.sum_d, IE.u8_d, ncast, Int.ofNat_lt, Int.ofNat_le, Int.ofNat_inj] at h2
  · exact zeroS_ret (r2 (.inr (.inl h2)))
  refine SplitP.mk (fun h3 => ?_) (fun h3 => ?_) <;> simp only [BE.lss_t, BE.lss_f, BE.leq_t, BE.leq_f, BE.gtr_t, BE.gtr_f, BE.geq_t, BE.geq_f, BE.eql_t, BE.eql_f, BE.neq_t, BE.neq_f, BE.not_t, BE.not_f, BE.var_d, BE.lit_d, BE.seq_t, BE.seq_f, BE.beq_t, BE.beq_f, IE.var_d, IE.lit_d, IE.nat_d, IE.len_d, IE.sum_d, IE.u8_d, ncast, Int.ofNat_lt, Int.ofNat_le, Int.ofNat_inj] at h3
  · exact zeroS_ret (r2 (.inr (.inr h3)))
  replace r3 := r3 (by omega)
  replace r4 := r4 (by omega)
  clear r2
  refine CallP.pure _ hI1 rfl ?_
  cbv
  refine SplitP.mk (fun h4 => ?_) (fun h4 => ?_) <;> simp only [BE.lss_t, BE.lss_f, BE.leq_t, BE.leq_f, BE.gtr_t, BE.gtr_f, BE.geq_t, BE.geq_f, BE.eql_t, BE.eql_f, BE.neq_t, BE.neq_f, BE.not_t, BE.not_f, BE.var_d, BE.lit_d, BE.seq_t, BE.seq_f, BE.beq_t, BE.beq_f, IE.var_d, IE.lit_d, IE.nat_d, IE.len_d, IE.sum_d, IE.u8_d, ncast, Int.ofNat_lt, Int.ofNat_le, Int.ofNat_inj] at h4
  · exact zeroS_ret (r3 (.inl h4))
  refine CallP.pure _ hI2 rfl ?_
  cbv
  refine SplitP.mk (fun h5 => ?_) (fun h5 => ?_) <;> simp only [BE.lss_t, BE.lss_f, BE.leq_t, BE.leq_f, BE.gtr_t, BE.gtr_f, BE.geq_t, BE.geq_f, BE.eql_t, BE.eql_f, BE.neq_t, BE.neq_f, BE.not_t, BE.not_f, BE.var_d, BE.lit_d, BE.seq_t, BE.seq_f, BE.beq_t, BE.beq_f, IE.var_d, IE.lit_d, IE.nat_d, IE.len_d, IE.sum_d, IE.u8_d, ncast, Int.ofNat_lt, Int.ofNat_le, Int.ofNat_inj] at h5
  · exact zeroS_ret (r3 (.inr h5))
  obtain ⟨r5, r6⟩ := r4 h4 h5
  clear r3 r4 hI1 hI2 hC
  obtain ⟨n, hn⟩ : ∃ n : Nat, n = l.length := ⟨_, rfl⟩
  refine CodeP.loopc hT hm (X := Nat) (fun k => [(11, .int .i64 (.nat k))]) (fun k => k ≤ n ∧ ∀ s ∈ l.take k, isBy b s = false) (fun k => n - k) 0 ⟨by omega, fun s hs => by simp at hs⟩ (by simp) ?_ rfl ?_
  · (cbv; (repeat' (first | exact SnD.refl _ | exact trivial | exact SnD.nat0 | refine And.intro ?_ ?_)))
  intro k ⟨hk, hbef⟩
  replace hk : k ≤ n := hk
  replace hbef : ∀ s ∈ l.take k, isBy b s = false := hbef
  cbv
  refine SplitP.mk (fun hs => ?_) (fun hs => ?_)
  · have hkn : k < l.length := by
      have h5 : decide ((k : Int) < (l.length : Int)) = true := hs
      have := of_decide_eq_true h5
      omega
    clear hs
    refine ElemP.mk (by show (0 : Int) ≤ (k : Int) ∧ (k : Int) < (l.length : Int); omega) (fun s hx => ?_)
    replace hx : l[k]? = some s := hx
    obtain ⟨p, hp⟩ : ∃ p, p = isBy b s := ⟨_, rfl⟩
    have hf1 := fun h => r5 s (find_first hx hbef h)
    have hf2 := fun h => take_all hx hbef h
    rw [← hp] at hf1 hf2
    obtain ⟨e, i, t, m, nl, dd⟩ := s
    have hp2 : p = decide (binDen .sub .i64 i 1 = b) := hp
    clear hbef hp
    cbv
    refine SplitP.mk (fun hs => ?_) (fun hs => ?_)
    · have hpt : p = true := hp2.trans hs
      obtain ⟨e1, e2⟩ := hf1 hpt
      refine ElemP.mk (by show (0 : Int) ≤ (k : Int) ∧ (k : Int) < (l.length : Int); omega) (fun s' hx' => ?_)
      replace hx' : l[k]? = some s' := hx'
      rw [hx] at hx'
      simp only [Option.some.injEq] at hx'
      subst hx'
      cbv
      subst e1 e2
      exact .mk (.cons (.eq (.refl _)) (.cons (.eq (.int rfl)) .nil)) rfl
    · have hpf : p = false := hp2.trans hs
      refine BackP.intro (k + 1) ⟨by show k + 1 ≤ n; omega, hf2 hpf⟩ (by show n - (k + 1) < n - k; omega) ⟨?_, ?_, rfl⟩
      · (cbv; (repeat' (first | exact SnD.refl _ | exact trivial | exact SnD.nat0 | refine And.intro ?_ ?_)))
        exact .inc (by omega)
      · (cbv; (repeat' (first | exact trivial | exact BkEq.refl _ | exact SnD.refl _ | exact SnDs.nil | refine BkEq.cells ?_ | refine SnDs.cons ?_ ?_ | refine And.intro ?_ ?_)))
  · have hkn : l.length ≤ k := by
      have h5 : decide ((k : Int) < (l.length : Int)) = false := hs
      have := of_decide_eq_false h5
      omega
    clear hs
    have hk2 : k = l.length := by omega
    refine zeroS_ret (r6 (List.find?_eq_none.2 fun x hx => ?_))
    rw [hk2, List.take_length] at hbef
    simp [hbef x hx]
end Go.Proofs.Ytbmcepkccenoaaa
namespace Go.Proofs.Ytbmcepkccenoaaa
open Go.RowKit

/-! Code in pieces. -/
theorem CodeP.seq {P : Program} {cx : Cx} {c d : Code} {fr : Fr} {H : List Bk} {K : Exit → Fr → List Bk → Prop} (h : CodeP P cx c fr H (thenK (fun fr H => CodeP P cx d fr H K) K)) : CodeP P cx (.seq c d) fr H K := by
  refine ⟨fun B E a w hnt hr => wp_seq (Code.wp_mono (fun e a' w' ⟨fr', H', E', q1, q2⟩ => ?_) (h.run B E a w hnt hr))⟩
  cases e <;> first | exact CodeP.run q1 B E' a' w' hnt q2 | exact ⟨fr', H', E', q1, q2⟩
theorem Pure.introC {P : Program} {f : Nat} {fn : Func} {c : Code} {args want : List D} {T : Tab} (hT : T.ok P) (hf : P.funcs[f]? = some fn) (hb : fn.body = some c) (hn : (fn.name == "runtime.NumGoroutine") = false) {rs : List ResultVar}
    (hr : fn.results.toList = rs) (hl : decide (args.length ≤ fn.ntmps) = true)
    (h : CodeP P ⟨T, fn.ntmps, 0⟩ c (argFr 0 args) [] (retK T rs want)) : Pure P f args (retD want) := by
  simp only [decide_eq_true_eq] at hl
  refine ⟨⟨fn, c, hf, hb, hn⟩, fun w G vs hG hv => ?_⟩
  let B : Base := ⟨w, G, fn.ntmps, 0, fun _ _ => True, fun _ _ _ _ _ _ _ => trivial, fun _ _ _ _ _ => trivial, []⟩
  have h0 := enter_rel (B := B) (fn := fn) hl hv (H := []) ⟨fun x y c h => by simp [Env.of] at h, fun x c h => by simp [Env.of] at h, fun _ _ => rfl, fun x b h => by simp at h, fun _ _ => ⟨rfl, rfl⟩, hG, fun _ h => h, fun _ h => .inl h, Below.refl _ _, trivial⟩ rfl rfl
  refine calls_of_wp hf hb (Code.wp_mono (fun e a' w' ⟨fr', H', E', q1, q2⟩ => ?_) (h.run B _ _ _ ⟨rfl, Nat.le_refl _⟩ h0))
  have fin : retX T rs (fun l H => RetP H l want) fr' H' → a'.defers = [] ∧ ∃ v, (results fn a'.tmps).run P w' = .ok v w' ∧ ∃ (v' : Value) (G' : Nat → Prop), Ending.returned v = .returned v' ∧ Below w.heap.size w w' ∧ (∀ b, G b → G' b) ∧ (∀ b, G' b → G b ∨ w.heap.size ≤ b) ∧ (∀ b, G' b → b < w'.heap.size) ∧ DRep w' (Env.of G') (retD want) v' := by
    intro hs
    unfold retX at hs
    split at hs
    · next ds hds =>
      obtain ⟨hs, hdat⟩ := hs
      have hwr := q2.wr
      obtain ⟨v, us, g1, g2, g3, g4⟩ := results_rep hT (fn := fn) q2 (by rw [hr]; exact hds)
      obtain ⟨k1, k2⟩ := hs.get
      refine ⟨q2.df, v, g1, v, E'.lent, rfl, hwr.bel, fun b hb => .inl (hwr.g0 b hb), fun b hb => ?_, hwr.lentGood, ?_⟩
      · rcases hb with hb | ⟨x, hx⟩
        · exact hwr.gn b hb
        · exact .inr (hwr.own x b hx).1
      · refine retD_rep g2 (by omega) fun i d u h1 h2 => ?_
        have hlt := (List.getElem?_eq_some_iff.1 h1).1
        have h3 : ds[i]? = some (ds[i]'(by omega)) := List.getElem?_eq_getElem (by omega)
        exact (k2 i _ d h3 h1).lent hwr.heap (g4 i _ u h3 h2) (List.all_eq_true.1 hdat d (List.mem_of_getElem? h1))
    · cases hs
  cases e with
  | ret => exact fin q1
  | normal => exact fin q1
  | exit i => cases q1
  | goto l => cases q1
  | panic ch => cases q1
  | outgrown => cases q1

/-- the slots that are still asked for -/
def keepS (ks : List Nat) : Fr → Fr
  | [] => []
  | (t, d) :: r => if hasT ks t then (t, d) :: keepS ks r else keepS ks r
theorem keepS_get (ks : List Nat) (t : Nat) : ∀ fr : Fr, (keepS ks fr).get t = if hasT ks t then fr.get t else .junk
  | [] => by simp [keepS, Fr.get]
  | (m, d) :: r => by
    unfold keepS
    by_cases q : hasT ks m = true
    · rw [if_pos q]
      simp only [Fr.get]
      by_cases e : m = t
      · subst e
        rw [if_pos rfl, if_pos q, if_pos rfl]
      · rw [if_neg e, if_neg e, keepS_get ks t r]
    · rw [if_neg q, keepS_get ks t r]
      by_cases e : m = t
      · subst e
        rw [if_neg q, if_neg q]
      · simp only [Fr.get, if_neg e]
theorem CodeP.keep {P : Program} {cx : Cx} {c : Code} {fr : Fr} {H : List Bk} {K : Exit → Fr → List Bk → Prop} (ks : List Nat) (h : CodeP P cx c (keepS ks fr) H K) : CodeP P cx c fr H K := by
  refine ⟨fun B E a w hnt hr => h.run B E a w hnt ⟨hr.sz, hr.df, fun t => ?_, hr.wr⟩⟩
  show DRep w E ((keepS ks fr).get t) _
  rw [keepS_get]
  split
  · exact hr.fr t
  · exact .junk
theorem OpsP.keep {P : Program} {cx : Cx} {ops : Array Oper} {os : List Oper} {fr : Fr} {H : List Bk} {K : Fr → List Bk → Prop} (ks : List Nat) (h : OpsP P cx ops os (keepS ks fr) H K) : OpsP P cx ops os fr H K := by
  refine ⟨fun B E a w hnt hh hr => h.run B E a w hnt hh ⟨hr.sz, hr.df, fun t => ?_, hr.wr⟩⟩
  show DRep w E ((keepS ks fr).get t) _
  rw [keepS_get]
  split
  · exact hr.fr t
  · exact .junk
/-! Regions whose operations stand in no order that is known here, among them such that write or give up own blocks. -/
def anyE (p : Edge → Bool) : List Edge → Bool
  | [] => false
  | e :: l => if p e then true else anyE p l
/-- does j wait for i, perhaps by way of others? -/
def reach (ops : Array Oper) : Nat → Nat → Nat → Bool
  | 0, _, _ => false
  | f + 1, i, j => match ops[j]? with
    | none => false
    | some o => if waitsOn .any o i then true else anyE (fun e => if Region.binds .any e then reach ops f i e.on else false) o.after.toList
theorem anyE_spec {p : Edge → Bool} : ∀ {l : List Edge}, anyE p l = true → ∃ e ∈ l, p e = true
  | [], h => by cases h
  | e :: l, h => by
    unfold anyE at h
    split at h
    · next q => exact ⟨e, by simp, q⟩
    · obtain ⟨e', h1, h2⟩ := anyE_spec h
      exact ⟨e', by simp [h1], h2⟩
theorem reach_spec {ops : Array Oper} {S : Nat → Prop} (hS : ∀ j o, S j → ops[j]? = some o → ∀ e ∈ o.after, Region.binds .any e = true → S e.on) : ∀ f i j, reach ops f i j = true → S j → S i
  | 0, _, _, h, _ => by cases h
  | f + 1, i, j, h, hj => by
    unfold reach at h
    split at h
    · cases h
    · next o ho =>
      split at h
      · next hw =>
        obtain ⟨e, he, hb, rfl⟩ := waitsOn_spec hw
        exact hS j o hj ho e he hb
      · obtain ⟨e, he, hp⟩ := anyE_spec h
        split at hp
        · next hb => exact reach_spec hS f i e.on hp (hS j o hj ho e (Array.mem_toList_iff.1 he) hb)
        · cases hp
theorem reach_ready {ops : Array Oper} {S : Nat → Prop} (hS : ∀ j o, S j → ops[j]? = some o → ∀ e ∈ o.after, Region.binds .any e = true → S e.on) {f i j : Nat} (h : reach ops f i j = true) {o : Oper} (ho : ops[j]? = some o) (hd : ∀ e ∈ o.after, Region.binds .any e = true → S e.on) : S i := by
  cases f with
  | zero => cases h
  | succ f =>
    unfold reach at h
    rw [ho] at h
    simp only at h
    split at h
    · next hw =>
      obtain ⟨e, he, hb, rfl⟩ := waitsOn_spec hw
      exact hd e he hb
    · obtain ⟨e, he, hp⟩ := anyE_spec h
      split at hp
      · next hb => exact reach_spec hS f i e.on hp (hd e (Array.mem_toList_iff.1 he) hb)
      · cases hp
def touch : List (Nat × List Nat) → Nat → List Nat
  | [], _ => []
  | (j, xs) :: r, i => if j = i then xs else touch r i
def allM : List (Nat × List Nat) → List Nat
  | [] => []
  | (_, xs) :: r => xs ++ allM r
theorem touch_allM : ∀ {mods : List (Nat × List Nat)} {i x : Nat}, x ∈ touch mods i → x ∈ allM mods
  | [], _, _, h => by cases h
  | (j, xs) :: r, i, x, h => by
    unfold touch at h
    unfold allM
    split at h
    · simp [h]
    · simp [touch_allM h]
def maskH (M keep : List Nat) : Nat → List Bk → List Bk
  | _, [] => []
  | y, b :: r => (if hasT M y then (if hasT keep y then b else .dead) else b) :: maskH M keep (y + 1) r
theorem hasT_spec : ∀ {l : List Nat} {n : Nat}, hasT l n = true ↔ n ∈ l
  | [], n => by simp [hasT]
  | a :: l, n => by
    unfold hasT
    split
    · next e => simp [e]
    · next e =>
      rw [hasT_spec, List.mem_cons]
      exact ⟨.inr, fun h => h.elim (fun q => absurd q.symm e) id⟩
theorem maskH_len (M keep : List Nat) : ∀ (y : Nat) (H : List Bk), (maskH M keep y H).length = H.length
  | _, [] => rfl
  | y, b :: r => by simp [maskH, maskH_len M keep (y + 1) r]
theorem maskH_get {M keep : List Nat} : ∀ {y : Nat} {H : List Bk} {x : Nat} {b : Bk}, (maskH M keep y H)[x]? = some b → b = .dead ∨ (H[x]? = some b ∧ (y + x ∈ M → y + x ∈ keep))
  | _, [], x, b, h => by simp [maskH] at h
  | y, b0 :: r, 0, b, h => by
    simp only [maskH, List.getElem?_cons_zero, Option.some.injEq, Nat.add_zero] at h ⊢
    split at h
    · split at h
      · next h1 h2 => exact .inr ⟨h, fun _ => hasT_spec.1 h2⟩
      · exact .inl h.symm
    · next h1 => exact .inr ⟨h, fun q => absurd (hasT_spec.2 q) h1⟩
  | y, b0 :: r, x + 1, b, h => by
    simp only [maskH, List.getElem?_cons_succ] at h ⊢
    have := maskH_get h
    rwa [show y + 1 + x = y + (x + 1) by omega] at this
def setL (H : List Bk) : List (Nat × Bk) → List Bk
  | [] => H
  | (x, b) :: r => setL (H.set x b) r
theorem setL_len : ∀ (md : List (Nat × Bk)) (H : List Bk), (setL H md).length = H.length
  | [], _ => rfl
  | (x, b) :: r, H => by simp [setL, setL_len r]
theorem setL_out : ∀ (md : List (Nat × Bk)) (H : List Bk) (x : Nat), (∀ b, (x, b) ∉ md) → (setL H md)[x]? = H[x]?
  | [], _, _, _ => rfl
  | (y, b) :: r, H, x, h => by
    have h1 : y ≠ x := fun e => h b (by simp [e])
    rw [setL, setL_out r _ x fun b' hb => h b' (by simp [hb]), List.getElem?_set_ne h1]
theorem setL_congr : ∀ (md : List (Nat × Bk)) {H H' : List Bk} {x : Nat}, H.length = H'.length → H[x]? = H'[x]? → (setL H md)[x]? = (setL H' md)[x]?
  | [], _, _, _, _, h => h
  | (y, b) :: r, H, H', x, hl, h => by
    refine setL_congr r (by simp [hl]) ?_
    by_cases e : y = x
    · subst e
      by_cases q : y < H.length
      · rw [List.getElem?_set_self q, List.getElem?_set_self (by omega)]
      · rw [List.getElem?_eq_none (by simp; omega), List.getElem?_eq_none (by simp; omega)]
    · rw [List.getElem?_set_ne e, List.getElem?_set_ne e, h]
theorem setL_app : ∀ (md : List (Nat × Bk)) {H X : List Bk}, (∀ p ∈ md, p.1 < H.length) → setL (H ++ X) md = setL H md ++ X
  | [], _, _, _ => rfl
  | (y, b) :: r, H, X, h => by
    rw [setL, setL, List.set_append_left _ _ (h (y, b) (by simp)), setL_app r fun p hp => by simp; exact h p (by simp [hp])]
theorem setL_cat : ∀ (a b : List (Nat × Bk)) {H : List Bk}, setL H (a ++ b) = setL (setL H a) b
  | [], _, _ => rfl
  | (y, c) :: r, b, H => by rw [List.cons_append, setL, setL, setL_cat r b]
/-- what an operation does, among blocks of which some are not laid yet and some are not looked at -/
def OpZ (P : Program) (H : List Bk) (ρ : Operand → D) (o : Oper) (d : D) (nw : List Bk) (md : List (Nat × Bk)) : Prop :=
  ∀ (B : Base) (Hx : List Bk) (w : World) (E : Env) (a : Act), (∀ x, DRep w E (ρ x) (a.eval x)) → WRel B Hx E w → (H ++ nw).length ≤ Hx.length → Compat H nw Hx → Fresh E H.length (H.length + nw.length) → ∀ (K : Act → World → Prop) (Q : Exit → Act → World → Prop),
    (∀ v w' E', WRel B (setL Hx md) E' w' → E.le w w' E' → E.own E' → (∀ x, (x < H.length ∨ H.length + nw.length ≤ x) → (∀ b, (x, b) ∉ md) → E'.σ x = E.σ x ∧ E'.κ x = E.κ x) → DRep w' E' d v → K (a.put o.dst v) w') → o.wp P a w K Q
theorem OpX.z {P : Program} {H : List Bk} {ρ : Operand → D} {o : Oper} {d : D} {nw : List Bk} (h : OpX P H ρ o d nw) : OpZ P H ρ o d nw [] :=
  fun B Hx w E a h1 h2 _ h3 h4 K Q hk => h B Hx w E a h1 h2 h3 h4 K Q fun v w' E' g1 g2 g3 g4 g5 => hk v w' E' g1 g2 g3 (fun x hx _ => g4 x hx) g5
theorem EEff.z {P : Program} {H : List Bk} {ρ : Operand → D} {o : Oper} {d : D} {b : Nat} {b' : Bk} (h : ∀ Hx, Compat H [] Hx → EEff P Hx ρ o (Hx.set b b') d) : OpZ P H ρ o d [] [(b, b')] := fun B Hx w E a h1 h2 _ h3 h4 K Q hk => by
  obtain ⟨nx, v, w', E', e1, e2, e3, e4, e5, e6, e7⟩ := h Hx h3 B w E a.eval h1 h2
  unfold Oper.wp
  rw [e1]
  have fin := hk v w' E' e3 e4 e5 (fun x _ hx => e7 x (List.getElem?_set_ne fun e => hx b' (by simp [e]))) e6
  rcases e2 with rfl | ⟨rfl, rfl⟩
  · exact fin
  · exact fin
theorem ReqQ.put {b : Bool} {p : Unit → Prop} {K : Prop} (h : p ()) (hk : K) : ReqQ b p K := by
  cases b
  · exact ⟨h, fun _ => hk⟩
  · exact hk
def blkOf : D → Option Nat
  | .ptr b _ _ => some b
  | .rp _ b _ _ _ => some b
  | .osl _ b _ _ _ _ => some b
  | _ => none
theorem sStore_z {P : Program} {T : Tab} {H : List Bk} {ρ : Operand → D} {o : Oper} (hT : T.ok P) {t : Nat} {a x : Operand} (ho : o.op = .store t a x) {K : List Bk → Prop} (hk : sStore T H o t (ρ a) (ρ x) K) : ∃ b b', blkOf (ρ a) = some b ∧ b < H.length ∧ OpZ P H ρ o (.tup []) [] [(b, b')] ∧ K (H.set b b') := by
  have key : ∀ {b : Nat} {b' : Bk}, (∀ Hx, Compat H [] Hx → sStore T Hx o t (ρ a) (ρ x) fun H' => H' = Hx.set b b') → OpZ P H ρ o (.tup []) [] [(b, b')] := fun h => EEff.z fun Hx hc => by
    obtain ⟨H', h1, rfl⟩ := sStore_eff hT ho (h Hx hc)
    exact h1
  unfold sStore at hk
  split at hk
  · next ti m hti hm =>
    split at hk
    · next hc =>
      split at hk
      · next b ver off hd =>
        split at hk
        · next l hl =>
          split at hk
          · next hcc =>
            refine ⟨b, _, by rw [hd]; rfl, (List.getElem?_eq_some_iff.1 hl).1, key fun Hx hx => ?_, hk⟩
            unfold sStore
            simp only [hti, hm, hc, if_true, hd, hx.of (b := .cells l) (by simpa using hl) (by simp)]
            rw [if_pos hcc]
            trivial
          · cases hk
        · cases hk
      · next n b ver i off hd =>
        split at hk
        · next ty n' ver' r hl =>
          split at hk
          · next hcc =>
            obtain ⟨hlt, hk⟩ := ReqQ.get hk ltLit_spec
            refine ⟨b, _, by rw [hd]; rfl, (List.getElem?_eq_some_iff.1 hl).1, key fun Hx hx => ?_, hk⟩
            unfold sStore
            simp only [hti, hm, hc, if_true, hd, hx.of (b := .row ty n' ver' r) (by simpa using hl) (by simp)]
            rw [if_pos hcc]
            exact ReqQ.put hlt trivial
          · cases hk
        · cases hk
      · cases hk
    · cases hk
  · cases hk
theorem elemsOf_mono {H Hx : List Bk} (hc : Compat H [] Hx) {d : D} {n : Nat} {r : RE} {m : IE} (h : elemsOf H d = some (n, r, m)) : elemsOf Hx d = some (n, r, m) := by
  unfold elemsOf at h ⊢
  split at h
  · exact h
  · exact h
  · next n' b ver nb lo len =>
    split at h
    · next ty n2 ver2 r2 hb =>
      rw [hc.of (b := .row ty n2 ver2 r2) (by simpa using hb) (by simp)]
      exact h
    · cases h
  · cases h
theorem sAppend_z {P : Program} {T : Tab} {H : List Bk} {ρ : Operand → D} {o : Oper} (hT : T.ok P) {t : Nat} {s x : Operand} (ho : o.op = .call ⟨.builtin .append, #[s, x], #[t, t]⟩) {K : List Bk → D → Prop} (hs : ρ s ≠ .nils) (hk : sAppend T H o t (ρ s) (ρ x) K) : ∃ b b' d, blkOf (ρ s) = some b ∧ b < H.length ∧ OpZ P H ρ o d [] [(b, b')] ∧ K (H.set b b') d := by
  have key : ∀ {b : Nat} {b' : Bk} {d : D}, (∀ Hx, Compat H [] Hx → sAppend T Hx o t (ρ s) (ρ x) fun H' d' => H' = Hx.set b b' ∧ d' = d) → OpZ P H ρ o d [] [(b, b')] := fun h => EEff.z fun Hx hc => by
    obtain ⟨H', d', h1, rfl, rfl⟩ := sAppend_eff hT ho (h Hx hc)
    exact h1
  unfold sAppend at hk
  split at hk
  · next e sz by_ z n rx m ht hel =>
    have key2 : ∀ {Hx}, Compat H [] Hx → elemsOf Hx (ρ x) = some (n, rx, m) := fun hc => elemsOf_mono hc hel
    split at hk
    · next te hte =>
      split at hk
      · next hc =>
        split at hk
        · next hs' => exact absurd hs' hs
        · next n' bb ver nb len hs' =>
          split at hk
          · next ty n2 ver2 r hb =>
            split at hk
            · next hcc =>
              obtain ⟨hq, hk⟩ := ReqQ.get hk (fun hb => by
                simp only [Bool.and_eq_true, decide_eq_true_eq] at hb
                obtain ⟨k1, k2, k3⟩ := litsOK_spec hb.1.1
                obtain ⟨j1, j2, j3⟩ := litsOK_spec hb.1.2
                exact ⟨k1, j1, k2, j2, by omega, small_bytes (by omega) hb.2⟩)
              refine ⟨bb, _, _, by rw [hs']; rfl, (List.getElem?_eq_some_iff.1 hb).1, key fun Hx hx => ?_, hk⟩
              unfold sAppend
              simp only [ht, key2 hx, hte, hs', hx.of (b := .row ty n2 ver2 r) (by simpa using hb) (by simp)]
              rw [if_pos hc, if_pos hcc]
              exact ReqQ.put hq (by simp)
            · cases hk
          · cases hk
        · cases hk
      · cases hk
    · cases hk
  · cases hk
/-! A call that own blocks are given up to. -/
def Env.give (E : Env) (xs : List Nat) : Env := ⟨fun b => E.G b ∨ ∃ x ∈ xs, E.σ x = some b, fun y => if y ∈ xs then none else E.σ y, fun y => if y ∈ xs then E.κ y + 1 else E.κ y, E.ζ⟩
theorem Env.give_le (E : Env) (xs : List Nat) (w : World) : E.le w w (E.give xs) := ⟨fun _ h => .inl h, fun _ _ _ => rfl⟩
theorem Env.give_own (E : Env) (xs : List Nat) : E.own (E.give xs) := by
  refine ⟨fun b => ?_, fun b e => ?_⟩
  · simp only [Env.give]; split <;> omega
  · simp only [Env.give] at e ⊢
    split at e
    · omega
    · next q => rw [if_neg q]; refine ⟨?_, fun _ _ => ?_⟩ <;> first | rfl | trivial
def deadL (xs : List Nat) : Nat → Nat → List Bk
  | _, 0 => []
  | y, n + 1 => (if hasT xs y then .dead else .cells []) :: deadL xs (y + 1) n
theorem deadL_gone {xs : List Nat} : ∀ {n y x : Nat}, x < n → goneB (deadL xs y n) x = true → y + x ∈ xs
  | 0, _, _, h, _ => by omega
  | n + 1, y, 0, _, h => by
    simp only [deadL, goneB, List.getElem?_cons_zero] at h
    by_cases q : hasT xs y = true
    · exact hasT_spec.1 q
    · rw [if_neg q] at h; cases h
  | n + 1, y, x + 1, hx, h => by
    have : goneB (deadL xs (y + 1) n) x = true := by simpa [deadL, goneB] using h
    have := deadL_gone (by omega) this
    rwa [show y + 1 + x = y + (x + 1) by omega] at this
def deads (xs : List Nat) : List (Nat × Bk) := xs.map fun x => (x, .dead)
theorem setL_deads : ∀ (xs : List Nat) {H : List Bk} {x : Nat} {b : Bk}, (setL H (deads xs))[x]? = some b → b = .dead ∨ (x ∉ xs ∧ H[x]? = some b)
  | [], H, x, b, h => .inr ⟨by simp, h⟩
  | y :: r, H, x, b, h => by
    rcases setL_deads r (H := H.set y .dead) h with q | ⟨q1, q2⟩
    · exact .inl q
    · by_cases e : y = x
      · subst e
        rw [List.getElem?_set] at q2
        simp only [if_true] at q2
        split at q2
        · exact .inl (Option.some.inj q2).symm
        · cases q2
      · rw [List.getElem?_set_ne e] at q2
        exact .inr ⟨by simp [q1, Ne.symm e], q2⟩
theorem WRel.give {B : Base} {Hx : List Bk} {E : Env} {w : World} (hw : WRel B Hx E w) (xs : List Nat) (hx : ∀ x ∈ xs, x < Hx.length) : WRel B (setL Hx (deads xs)) (E.give xs) w := by
  have sub : ∀ {x c}, (E.give xs).σ x = some c → x ∉ xs ∧ E.σ x = some c := fun {x c} h => by
    simp only [Env.give] at h
    split at h
    · cases h
    · next q => exact ⟨q, h⟩
  refine ⟨fun x y c h1 h2 => hw.inj x y c (sub h1).2 (sub h2).2, fun x c h1 => ?_, fun b hb => ?_, fun x b' hb => ?_, fun x hx' => ?_, fun b hb => ?_, fun b hb => .inl (hw.g0 b hb), fun b hb => ?_, hw.bel, B.stab _ _ _ _ (E.give_le xs w) (E.give_own xs) hw.phi⟩
  · obtain ⟨h2, h3⟩ := sub h1
    obtain ⟨q1, q2, q3⟩ := hw.own x c h3
    refine ⟨q1, q2, fun q => ?_⟩
    rcases q with q | ⟨y, hy, hc⟩
    · exact q3 q
    · exact h2 (by rw [hw.inj x y c h3 hc]; exact hy)
  · simp only [Env.give] at hb ⊢
    split at hb
    · omega
    · next q => rw [if_neg q]; exact hw.wf b hb
  · rcases setL_deads xs hb with q | ⟨q1, q2⟩
    · subst q
      exact .inr ⟨trivial, fun _ _ => trivial, fun _ => trivial⟩
    · have e1 : (E.give xs).κ x = E.κ x := by simp [Env.give, q1]
      have e2 : (E.give xs).σ x = E.σ x := by simp [Env.give, q1]
      rw [e1, e2]
      rcases hw.heap x b' q2 with q | ⟨h1, h2, h3⟩
      · exact .inl q
      · exact .inr ⟨h1, fun c hc => (h2 c hc).move (E.give_le xs w) (E.give_own xs) rfl rfl, h3⟩
  · rw [setL_len] at hx'
    have : x ∉ xs := fun q => by have := hx x q; omega
    simp only [Env.give, if_neg this]
    exact hw.out x hx'
  · rcases hb with hb | ⟨x, _, hc⟩
    · exact hw.good b hb
    · exact (hw.own x b hc).2.1
  · rcases hb with hb | ⟨x, _, hc⟩
    · exact hw.gn b hb
    · exact .inr (hw.own x b hc).1
inductive GiveP (P : Program) (n : Nat) (args : List D) (H : List Bk) (xs : List Nat) (K : D → Prop) : Prop
  | mk (args' : List D) (d : D) (hp : Pure P n args' d) (hs : SnDs H (deadL xs 0 H.length) args args') (hd : args'.all (D.dataB 8) = true) (hk : K d)
theorem GiveP.z {P : Program} {H : List Bk} {ρ : Operand → D} {o : Oper} {f : Operand} {args : Array Operand} {ats : Array TypeId} (ho : o.op = .call ⟨.value f, args, ats⟩) {n : Nat} {first cap : List D} (hf : ρ f = .fn (.func n) first cap) {xs : List Nat} (hxs : ∀ x ∈ xs, x < H.length) {K : D → Prop}
    (h : GiveP P n (first ++ args.toList.map ρ ++ cap) H xs K) : ∃ d, OpZ P H ρ o d [] (deads xs) ∧ K d := by
  obtain ⟨args', d, hp, hs, hd, hk⟩ := h
  refine ⟨d, fun B Hx w E a hev hw hle hc hfr K' Q hK' => ?_, hk⟩
  obtain ⟨vs, hex, hl⟩ := call_eval (P := P) ho hf hp.1 hev
  unfold Oper.wp
  rw [hex]
  obtain ⟨h1, h2⟩ := hs.get
  have hxl : ∀ x ∈ xs, x < Hx.length := fun x hx => by have := hxs x hx; simp at hle; omega
  have hg := hw.give xs hxl
  have hH := hc.heap hw.heap
  refine (hp.2 w (E.give xs).G vs hg.good ⟨by rw [← h1]; exact hl.1, fun i x v hx hv' => ?_⟩).mono ?_
  · have hlt := (List.getElem?_eq_some_iff.1 hx).1
    have hx0 : (first ++ args.toList.map ρ ++ cap)[i]? = some ((first ++ args.toList.map ρ ++ cap)[i]'(by omega)) := List.getElem?_eq_getElem (by omega)
    have := (h2 i _ x hx0 hx).rep hH (E.give_le xs w) (E.give_own xs) (fun y c hy hg hc => .inr ⟨y, by have := deadL_gone hy hg; rwa [Nat.zero_add] at this, hc⟩) (hl.2 i _ v hx0 hv')
    exact D.dataB_rep (E := E.give xs) (E' := Env.of (E.give xs).G) rfl 8 (List.all_eq_true.1 hd x (List.mem_of_getElem? hx)) this
  · rintro e w' ⟨v, G', rfl, q2, q3, q4, q5, q6⟩
    have k1 := hg.kept q2 q3 q4 q5
    refine hK' v w' ⟨G', (E.give xs).σ, (E.give xs).κ, (E.give xs).ζ⟩ k1 ?_ ?_ (fun x _ hx => ?_) (DRep.undata (E := ⟨G', (E.give xs).σ, (E.give xs).κ, (E.give xs).ζ⟩) k1.wf q6)
    · have := Below.le_env (E := E) (G' := G') q2 hw.good fun b hb => q3 b (.inl hb)
      exact ⟨this.G, this.cell⟩
    · obtain ⟨g1, g2⟩ := E.give_own xs
      exact ⟨g1, g2⟩
    · have : x ∉ xs := fun q => hx .dead (by simp [deads, q])
      simp [Env.give, this]
/-! The operations of a region, each seen in the order of the text. -/
def readsF (ops : Array Oper) : Bool := (List.range ops.size).all fun i => match ops[i]? with
  | none => true
  | some o => (List.range ops.size).all fun j => match (ops[j]?).bind (·.dst) with
    | none => true
    | some t => if o.op.operands.any (isT t) then reach ops 6 j i else true
def dstF (ops : Array Oper) : Bool := (List.range ops.size).all fun i => (List.range ops.size).all fun j => if i = j then true else match (ops[i]?).bind (·.dst), (ops[j]?).bind (·.dst) with
  | some t, some t' => if t = t' then false else true
  | _, _ => true
def meets : List Nat → List Nat → Bool
  | [], _ => false
  | x :: r, l => if hasT l x then true else meets r l
def ordF (ops : Array Oper) (mods : List (Nat × List Nat)) : Bool := (List.range ops.size).all fun i => (List.range ops.size).all fun j => if i < j then (if meets (touch mods i) (touch mods j) then reach ops 6 i j else true) else true
def footOK (ops : Array Oper) (mods : List (Nat × List Nat)) : Bool := tailWB .any ops ops.size && readsF ops && dstF ops && ordF ops mods
def within (lo hi : Nat) : List Nat → Bool
  | [] => false
  | x :: r => if lo ≤ x then (if x < hi then true else within lo hi r) else within lo hi r
def freshOK (ops : Array Oper) (mods : List (Nat × List Nat)) (k lo hi : Nat) : Bool := (List.range ops.size).all fun j => if within lo hi (touch mods j) then reach ops 6 k j else true
theorem meets_spec : ∀ {l m : List Nat} {x : Nat}, x ∈ l → x ∈ m → meets l m = true
  | [], _, _, h, _ => by cases h
  | y :: r, m, x, h, h2 => by
    unfold meets
    split
    · rfl
    · next q =>
      rcases List.mem_cons.1 h with rfl | h
      · exact absurd (hasT_spec.2 h2) q
      · exact meets_spec h h2
theorem within_spec {lo hi : Nat} : ∀ {l : List Nat} {x : Nat}, x ∈ l → lo ≤ x → x < hi → within lo hi l = true
  | [], _, h, _, _ => by cases h
  | y :: r, x, h, h1, h2 => by
    unfold within
    rcases List.mem_cons.1 h with rfl | h
    · rw [if_pos h1, if_pos h2]
    · split
      · split
        · rfl
        · exact within_spec h h1 h2
      · exact within_spec h h1 h2
/-- an operation that writes own blocks, or gives them up -/
def vopm (P : Program) (cx : Cx) (o : Oper) (fr : Fr) (Hm : List Bk) (xs : List Nat) (K : D → List (Nat × Bk) → Prop) : Prop := match o.op with
  | .call ⟨.value f, args, _⟩ => (match fr.ev f with
    | .fn (.func n) first cap => if xs.all (fun x => decide (x < Hm.length)) then GiveP P n (first ++ args.toList.map fr.ev ++ cap) Hm xs fun d => K d (deads xs) else StuckP o []
    | _ => StuckP o (opnds fr o))
  | .store t a x => (match blkOf (fr.ev a), xs with
    | some b, [x0] => if b = x0 then sStore cx.T Hm o t (fr.ev a) (fr.ev x) fun H' => K (.tup []) [(x0, H'.getD x0 .dead)] else StuckP o []
    | _, _ => StuckP o [])
  | .call ⟨.builtin .append, ⟨[s, x]⟩, ⟨[t, t']⟩⟩ => (match blkOf (fr.ev s), xs with
    | some b, [x0] => if b = x0 then (if t = t' then sAppend cx.T Hm o t (fr.ev s) (fr.ev x) fun H' d => K d [(x0, H'.getD x0 .dead)] else StuckP o []) else StuckP o []
    | _, _ => StuckP o [])
  | _ => StuckP o []
def vfoot (P : Program) (cx : Cx) (ops : Array Oper) (mods : List (Nat × List Nat)) : Nat → List Oper → Fr → List Bk → (Fr → List Bk → Prop) → Prop
  | _, [], fr, H, K => K fr H
  | i, o :: os, fr, H, K => match o.guard with
    | some _ => StuckP o []
    | none => match touch mods i with
      | [] => vopq P cx (baseB ops o) o fr (maskH (allM mods) [] 0 H) fun fr' Hm => if freshOK ops mods i H.length Hm.length then vfoot P cx ops mods (i + 1) os fr' (H ++ Hm.drop H.length) K else StuckP o []
      | x :: xs => if dstB cx.nt o.dst then vopm P cx o fr (maskH (allM mods) (x :: xs) 0 H) (x :: xs) fun d md => vfoot P cx ops mods (i + 1) os (fr.put o.dst d) (setL H md) K else StuckP o []
structure YS where
  fr : Fr
  H : List Bk
  d : D
  nw : List Bk
  md : List (Nat × Bk)
inductive YT (P : Program) (cx : Cx) (ops : Array Oper) (mods : List (Nat × List Nat)) : Nat → List Oper → Fr → List Bk → List YS → Fr → List Bk → Prop
  | nil {i fr H} : YT P cx ops mods i [] fr H [] fr H
  | cons {i o os fr H d nw md tr fr' H'} (hg : o.guard = none) (hd : dstB cx.nt o.dst = true) (hop : OpZ P (maskH (allM mods) (touch mods i) 0 H) (res o fr.ev) o d nw md) (hmd : ∀ p ∈ md, p.1 ∈ touch mods i ∧ p.1 < H.length)
      (hnw : ∀ x, H.length ≤ x → x < H.length + nw.length → ∀ j, j < ops.size → x ∈ touch mods j → reach ops 6 i j = true) (rest : YT P cx ops mods (i + 1) os (fr.put o.dst d) (setL (H ++ nw) md) tr fr' H') : YT P cx ops mods i (o :: os) fr H (⟨fr, H, d, nw, md⟩ :: tr) fr' H'
section
variable {P : Program} {cx : Cx} {ops : Array Oper} {mods : List (Nat × List Nat)}
theorem vopm_z (hT : cx.T.ok P) {o : Oper} {fr : Fr} {Hm : List Bk} {xs : List Nat} {K : D → List (Nat × Bk) → Prop} (hk : vopm P cx o fr Hm xs K) : ∃ d md, OpZ P Hm (res o fr.ev) o d [] md ∧ (∀ p ∈ md, p.1 ∈ xs ∧ p.1 < Hm.length) ∧ K d md := by
  unfold vopm at hk
  split at hk
  · next f args ats ho =>
    split at hk
    · next n first cap hf =>
      split at hk
      · next hx =>
        have hx' : ∀ x ∈ xs, x < Hm.length := fun x hm => of_decide_eq_true (List.all_eq_true.1 hx x hm)
        have e1 : res o fr.ev f = .fn (.func n) first cap := by rw [res_in (by rw [ho]; simp [Op.operands, Call.operands]), hf]
        have e2 : args.toList.map (res o fr.ev) = args.toList.map fr.ev := List.map_congr_left fun x hx => res_in (by rw [ho]; simp only [Op.operands, Call.operands]; simp; exact .inr (by simpa using hx))
        obtain ⟨d, h1, h2⟩ := GiveP.z ho e1 hx' (by rw [e2]; exact hk)
        exact ⟨d, _, h1, fun p hp => by simp only [deads, List.mem_map] at hp; obtain ⟨x, hx, rfl⟩ := hp; exact ⟨hx, hx' x hx⟩, h2⟩
      · cases hk
    · cases hk
  · next t a x ho =>
    split at hk
    · next b x0 hb =>
      split at hk
      · next e =>
        subst e
        have e1 : res o fr.ev a = fr.ev a := res_in (by rw [ho]; simp [Op.operands])
        have e2 : res o fr.ev x = fr.ev x := res_in (by rw [ho]; simp [Op.operands])
        obtain ⟨b1, b', h1, h2, h3, h4⟩ := sStore_z (ρ := res o fr.ev) hT ho (by rw [e1, e2]; exact hk)
        rw [e1, hb] at h1
        cases h1
        rw [List.getD_eq_getElem?_getD, List.getElem?_set_self h2] at h4
        exact ⟨_, _, h3, fun p hp => by simp only [List.mem_singleton] at hp; subst hp; exact ⟨by simp, h2⟩, h4⟩
      · cases hk
    · cases hk
  · next s x t t' ho =>
    split at hk
    · next b x0 hb =>
      split at hk
      · next e =>
        subst e
        split at hk
        · next e =>
          subst e
          have e1 : res o fr.ev s = fr.ev s := res_in (by rw [ho]; simp [Op.operands, Call.operands])
          have e2 : res o fr.ev x = fr.ev x := res_in (by rw [ho]; simp [Op.operands, Call.operands])
          obtain ⟨b1, b', d, h1, h2, h3, h4⟩ := sAppend_z (ρ := res o fr.ev) hT ho (by rw [e1]; intro q; rw [q] at hb; cases hb) (by rw [e1, e2]; exact hk)
          rw [e1, hb] at h1
          cases h1
          rw [List.getD_eq_getElem?_getD, List.getElem?_set_self h2] at h4
          exact ⟨_, _, h3, fun p hp => by simp only [List.mem_singleton] at hp; subst hp; exact ⟨by simp, h2⟩, h4⟩
        · cases hk
      · cases hk
    · cases hk
  · cases hk
theorem vfoot_yt (hT : cx.T.ok P) : ∀ (os : List Oper) {i : Nat} {fr : Fr} {H : List Bk} {K : Fr → List Bk → Prop}, vfoot P cx ops mods i os fr H K → ∃ tr fr' H', YT P cx ops mods i os fr H tr fr' H' ∧ K fr' H'
  | [], i, fr, H, K, hk => ⟨[], fr, H, .nil, hk⟩
  | o :: os, i, fr, H, K, hk => by
    unfold vfoot at hk
    split at hk
    · cases hk
    · next hg =>
      split at hk
      · next ht =>
        obtain ⟨t, d, nw, h1, h2, h3, h4⟩ := vopq_trace hT hk
        simp only [List.length_append, maskH_len] at h4
        split at h4
        · next hf =>
          rw [← maskH_len (allM mods) [] 0 H, List.drop_left] at h4
          obtain ⟨tr, fr', H', h5, h6⟩ := vfoot_yt hT os h4
          refine ⟨_, fr', H', .cons hg (by rw [h1]; simpa [dstB] using h2) (by rw [ht]; exact h3.z) (fun p hp => by cases hp) (fun x hx1 hx2 j hj hxj => ?_) (by rw [h1]; exact h5), h6⟩
          unfold freshOK at hf
          have := List.all_eq_true.1 hf j (List.mem_range.2 hj)
          rwa [if_pos (within_spec hxj hx1 hx2)] at this
        · cases h4
      · next x xs ht =>
        split at hk
        · next hd =>
          obtain ⟨d, md, h1, h2, h3⟩ := vopm_z hT hk
          obtain ⟨tr, fr', H', h5, h6⟩ := vfoot_yt hT os h3
          refine ⟨_, fr', H', .cons (nw := []) hg hd (by rw [ht]; exact h1) (fun p hp => by have := h2 p hp; rw [maskH_len] at this; rw [ht]; exact this) (fun x hx1 hx2 => by simp at hx2; omega) (by rw [List.append_nil]; exact h5), h6⟩
        · cases hk
def mdsOf (tr : List YS) : List (Nat × Bk) := (tr.map (·.md)).flatten
def nwsOf (tr : List YS) : List Bk := (tr.map (·.nw)).flatten
theorem YT.get {i0 : Nat} {os : List Oper} {fr fr' : Fr} {H H' : List Bk} {tr : List YS} (h : YT P cx ops mods i0 os fr H tr fr' H') : (∀ (a b : Nat) oa ob t, os[a]? = some oa → os[b]? = some ob → oa.dst = some t → ob.dst = some t → a = b) →
    tr.length = os.length ∧
    (∀ (k : Nat) s, tr[k]? = some s → ∃ o, os[k]? = some o ∧ o.guard = none ∧ dstB cx.nt o.dst = true ∧ OpZ P (maskH (allM mods) (touch mods (i0 + k)) 0 s.H) (res o s.fr.ev) o s.d s.nw s.md ∧ (∀ p ∈ s.md, p.1 ∈ touch mods (i0 + k) ∧ p.1 < s.H.length) ∧
      (∀ x, s.H.length ≤ x → x < s.H.length + s.nw.length → ∀ j, j < ops.size → x ∈ touch mods j → reach ops 6 (i0 + k) j = true) ∧ (∃ p, setL (H ++ nwsOf tr) (mdsOf (tr.take k)) = s.H ++ s.nw ++ p) ∧ (H.length ≤ s.H.length) ∧
      (∀ (j : Nat) s', j < k → tr[j]? = some s' → s'.H.length + s'.nw.length ≤ s.H.length) ∧
      (∀ t, (∀ (j : Nat) o', j < k → os[j]? = some o' → o'.dst ≠ some t) → s.fr.get t = fr.get t) ∧ (∀ t (j : Nat) s' o', j < k → tr[j]? = some s' → os[j]? = some o' → o'.dst = some t → s.fr.get t = s'.d)) ∧
    H' = setL (H ++ nwsOf tr) (mdsOf tr) ∧ (∀ t, (∀ (j : Nat) o', os[j]? = some o' → o'.dst ≠ some t) → fr'.get t = fr.get t) ∧ (∀ t (j : Nat) s' o', tr[j]? = some s' → os[j]? = some o' → o'.dst = some t → fr'.get t = s'.d) := by
  induction h with
  | nil => exact fun _ => ⟨rfl, fun k s hs => by simp at hs, by simp [nwsOf, mdsOf, setL], fun _ _ => rfl, fun t j s' o' hs => by simp at hs⟩
  | @cons i o os fr H d nw md tr fr' H' hg hd hop hmd hnw rest ih =>
    intro hu
    obtain ⟨h1, h2, h3, h4, h5⟩ := ih fun a b oa ob t q1 q2 q3 q4 => by
      have := hu (a + 1) (b + 1) oa ob t (by simpa using q1) (by simpa using q2) q3 q4
      omega
    have hput : ∀ t, o.dst ≠ some t → (fr.put o.dst d).get t = fr.get t := fun t ht => by
      unfold Fr.put
      split
      · next t' e => rw [Fr.get_set, if_neg fun q => ht (by rw [e, q])]
      · rfl
    have hput2 : ∀ t, o.dst = some t → (fr.put o.dst d).get t = d := fun t ht => by
      rw [ht]; simp [Fr.put, Fr.get_set]
    have hbase : setL (H ++ nwsOf (⟨fr, H, d, nw, md⟩ :: tr)) md = setL (H ++ nw) md ++ nwsOf tr := by
      rw [← setL_app md fun p hp => by have := (hmd p hp).2; simp; omega]
      simp [nwsOf]
    have hnot : ∀ t, o.dst = some t → ∀ (j : Nat) o', os[j]? = some o' → o'.dst ≠ some t := fun t ht j o' ho' e => by
      have := hu 0 (j + 1) o o' t rfl (by simpa using ho') ht e
      omega
    refine ⟨by simp [h1], fun k s hs => ?_, ?_, fun t ht => ?_, fun t j s' o' hs ho' hd' => ?_⟩
    · cases k with
      | zero =>
        simp only [List.getElem?_cons_zero, Option.some.injEq] at hs
        subst hs
        exact ⟨o, rfl, hg, hd, hop, hmd, hnw, ⟨nwsOf tr, by simp [mdsOf, setL, nwsOf]⟩, Nat.le_refl _, fun j s' hj => by omega, fun t _ => rfl, fun t j s' o' hj => by omega⟩
      | succ k =>
        simp only [List.getElem?_cons_succ] at hs
        obtain ⟨o1, g1, g2, g3, g4, g5, g6, ⟨p, g7⟩, g8, g9, g10, g11⟩ := h2 k s hs
        have e0 : i + 1 + k = i + (k + 1) := by omega
        rw [setL_len, List.length_append] at g8
        refine ⟨o1, by simpa using g1, g2, g3, by rw [← e0]; exact g4, by rw [← e0]; exact g5, by rw [← e0]; exact g6, ⟨p, ?_⟩, by omega, fun j s' hj hs' => ?_, fun t ht => ?_, fun t j s' o' hj hs' ho' hd' => ?_⟩
        · rw [← g7]
          simp only [List.take_succ_cons, mdsOf, List.map_cons, List.flatten_cons, setL_cat]
          rw [hbase]
        · cases j with
          | zero =>
            simp only [List.getElem?_cons_zero, Option.some.injEq] at hs'
            subst hs'
            exact g8
          | succ j => exact g9 j s' (by omega) (by simpa using hs')
        · rw [g10 t fun j o' hj ho' => ht (j + 1) o' (by omega) (by simpa using ho')]
          exact hput t (ht 0 o (by omega) rfl)
        · cases j with
          | zero =>
            simp only [List.getElem?_cons_zero, Option.some.injEq] at hs' ho'
            subst hs' ho'
            rw [g10 t fun j o' _ ho' => hnot t hd' j o' ho']
            exact hput2 t hd'
          | succ j => exact g11 t j s' o' (by omega) (by simpa using hs') (by simpa using ho') hd'
    · rw [h3]
      simp only [mdsOf, List.map_cons, List.flatten_cons, setL_cat]
      rw [hbase]
    · rw [h4 t fun j o' ho' => ht (j + 1) o' (by simpa using ho')]
      exact hput t (ht 0 o rfl)
    · cases j with
      | zero =>
        simp only [List.getElem?_cons_zero, Option.some.injEq] at hs ho'
        subst hs ho'
        rw [h4 t fun j o' ho' => hnot t hd' j o' ho']
        exact hput2 t hd'
      | succ j => exact h5 t j s' o' (by simpa using hs) (by simpa using ho') hd'
theorem reach_lt (T : TailW .any ops ops.size) : ∀ (f i j : Nat), reach ops f i j = true → i < j
  | 0, _, _, h => by cases h
  | f + 1, i, j, h => by
    unfold reach at h
    split at h
    · cases h
    · next o ho =>
      split at h
      · next hw =>
        obtain ⟨e, he, hb, rfl⟩ := waitsOn_spec hw
        exact T.back j o ho e he hb
      · obtain ⟨e, he, hp⟩ := anyE_spec h
        split at hp
        · next hb =>
          have := reach_lt T f i e.on hp
          have := T.back j o ho e (Array.mem_toList_iff.1 he) hb
          omega
        · cases hp
theorem mdsOf_take_succ {tr : List YS} {k : Nat} {s : YS} (h : tr[k]? = some s) : mdsOf (tr.take (k + 1)) = mdsOf (tr.take k) ++ s.md := by
  unfold mdsOf
  rw [List.take_add_one, h]
  simp
theorem FootP.intro {fr : Fr} {H : List Bk} {K : Fr → List Bk → Prop} (hT : cx.T.ok P) (hm : P.follows .mixedOrders = true) (mods : List (Nat × List Nat)) (hok : footOK ops mods = true) (h : vfoot P cx ops mods 0 ops.toList fr H K) : FootP P cx ops fr H K := by
  refine ⟨fun B E a w hnt hh0 hr Q hQ id => ?_⟩
  obtain ⟨tr, fr', H', ht, hK⟩ := vfoot_yt hT _ h
  unfold footOK at hok
  simp only [Bool.and_eq_true] at hok
  obtain ⟨⟨⟨ok1, ok2⟩, ok3⟩, ok4⟩ := hok
  have T := tailWB_spec ok1
  obtain ⟨n, hn⟩ : ∃ n, n = ops.size := ⟨_, rfl⟩
  have hlt : ∀ {j : Nat} {o : Oper}, ops[j]? = some o → j < n := fun ho => by rw [hn]; exact (Array.getElem?_eq_some_iff.1 ho).1
  have uniq : ∀ (a b : Nat) oa ob t, ops[a]? = some oa → ops[b]? = some ob → oa.dst = some t → ob.dst = some t → a = b := fun a b oa ob t q1 q2 q3 q4 => by
    unfold dstF at ok3
    have k1 := List.all_eq_true.1 (List.all_eq_true.1 ok3 a (List.mem_range.2 (by rw [← hn]; exact hlt q1))) b (List.mem_range.2 (by rw [← hn]; exact hlt q2))
    by_cases e : a = b
    · exact e
    · rw [if_neg e, q1, q2] at k1
      simp only [Option.bind_some, q3, q4, if_true] at k1
      cases k1
  have reads : ∀ {i j : Nat} {o oj : Oper} {t : Nat}, ops[i]? = some o → ops[j]? = some oj → oj.dst = some t → .tmp t ∈ o.op.operands → reach ops 6 j i = true := fun {i j o oj t} q1 q2 q3 q4 => by
    unfold readsF at ok2
    have k1 := List.all_eq_true.1 ok2 i (List.mem_range.2 (by rw [← hn]; exact hlt q1))
    rw [q1] at k1
    have k2 := List.all_eq_true.1 k1 j (List.mem_range.2 (by rw [← hn]; exact hlt q2))
    rw [q2] at k2
    simp only [Option.bind_some, q3] at k2
    rwa [if_pos (Array.any_eq_true'.2 ⟨.tmp t, q4, by simp [isT]⟩)] at k2
  have ord : ∀ {i j x : Nat}, i < j → j < n → x ∈ touch mods i → x ∈ touch mods j → reach ops 6 i j = true := fun {i j x} q1 q2 q3 q4 => by
    unfold ordF at ok4
    have k1 := List.all_eq_true.1 (List.all_eq_true.1 ok4 i (List.mem_range.2 (by omega))) j (List.mem_range.2 (by omega))
    rwa [if_pos q1, if_pos (meets_spec q3 q4)] at k1
  obtain ⟨g1, g2, g3, g4, g5⟩ := ht.get fun a b oa ob t q1 q2 => uniq a b oa ob t (by simpa using q1) (by simpa using q2)
  simp only [Nat.zero_add, Array.getElem?_toList] at g2 g4 g5
  have htl : tr.length = n := by rw [g1, hn]; simp
  obtain ⟨Hb, hHb⟩ : ∃ Hb, Hb = H ++ nwsOf tr := ⟨_, rfl⟩
  rw [← hHb] at g2 g3
  have hget : ∀ {i : Nat} {o : Oper}, ops[i]? = some o → ∃ s, tr[i]? = some s := fun ho => ⟨_, List.getElem?_eq_getElem (by rw [htl]; exact hlt ho)⟩
  -- what the blocks hold behind k operations, in the order of the text
  have mdM : ∀ {k : Nat} {x : Nat}, (∀ j, j < k → x ∉ touch mods j) → ∀ b, (x, b) ∉ mdsOf (tr.take k) := fun {k x} hx b hb => by
    unfold mdsOf at hb
    simp only [List.mem_flatten, List.mem_map] at hb
    obtain ⟨_, ⟨s, hs, rfl⟩, hb⟩ := hb
    obtain ⟨j, hj⟩ := List.getElem?_of_mem hs
    have hjk : j < k := by have := (List.getElem?_eq_some_iff.1 hj).1; simp at this; omega
    rw [List.getElem?_take, if_pos hjk] at hj
    obtain ⟨_, _, _, _, _, k5, _⟩ := g2 j s hj
    exact hx j hjk (k5 _ hb).1
  have stab : ∀ (d : Nat) {a x : Nat}, a + d ≤ n → (∀ j, a ≤ j → j < a + d → x ∉ touch mods j) → (setL Hb (mdsOf (tr.take (a + d))))[x]? = (setL Hb (mdsOf (tr.take a)))[x]? := by
    intro d
    induction d with
    | zero => exact fun _ _ => rfl
    | succ d ih =>
      intro a x had hx
      obtain ⟨s, hs⟩ : ∃ s, tr[a + d]? = some s := ⟨_, List.getElem?_eq_getElem (by omega)⟩
      rw [show a + (d + 1) = (a + d) + 1 by omega, mdsOf_take_succ hs, setL_cat, setL_out _ _ _ fun b hb => ?_]
      · exact ih (by omega) fun j h1 h2 => hx j h1 (by omega)
      · obtain ⟨_, _, _, _, _, k5, _⟩ := g2 _ s hs
        exact hx (a + d) (by omega) (by omega) (k5 _ hb).1
  let J : List Nat → Act → World → Prop := fun U a' w' => ∃ E' Hx, WRel B Hx E' w' ∧ Hx.length = Hb.length ∧ (∀ x, x ∉ allM mods → Hx[x]? = Hb[x]?) ∧
    (∀ x, x ∈ allM mods → ∀ k, k ≤ n → (∀ j, j < k → x ∈ touch mods j → j ∉ U) → (∀ j, k ≤ j → j < n → x ∈ touch mods j → j ∈ U) → Hx[x]? = (setL Hb (mdsOf (tr.take k)))[x]?) ∧ a'.tmps.size = B.nt ∧ a'.defers = B.df ∧
    (∀ t, (∀ (j : Nat) (o : Oper), ops[j]? = some o → o.dst ≠ some t) → DRep w' E' (fr.get t) (a'.tmps.getD t undef)) ∧ (∀ (j : Nat) (s : YS) (o : Oper) (t : Nat), j ∉ U → tr[j]? = some s → ops[j]? = some o → o.dst = some t → DRep w' E' s.d (a'.tmps.getD t undef)) ∧
    (∀ (j : Nat) (s : YS), j ∈ U → tr[j]? = some s → Fresh E' s.H.length (s.H.length + s.nw.length)) ∧ (∀ (j : Nat) (o : Oper), j ∉ U → ops[j]? = some o → ∀ e ∈ o.after, Region.binds .any e = true → e.on ∉ U)
  refine wp_region_any hm ?_
  rw [show wpAny P .any ops Q ops.size = wpAny P .any ops Q (n + 0) by rw [hn]; rfl]
  rw [← hn] at T
  refine wpAny_joint T J ?_ ?_ n (List.range n) _ a w.drew (by simp) List.nodup_range (by simp) (fun t => ?_) (fun t ht => by simpa using ht) (fun j o' hj hjn => absurd (List.mem_range.2 hj) hjn) ?_
  · intro U i o hUnd hiU hin ho hwait a' w' ⟨E', Hx, q1, q2, q3, q4, q5, q6, q7, q8, q9, q10⟩
    obtain ⟨s, hs⟩ := hget ho
    obtain ⟨o1, k1, k2, k3, k4, k5, k6, ⟨p, k7⟩, k8, k9, k10, k11⟩ := g2 i s hs
    rw [ho] at k1
    cases k1
    have hS : ∀ (j : Nat) (o : Oper), (j ∉ U) → ops[j]? = some o → ∀ e ∈ o.after, Region.binds .any e = true → e.on ∉ U := q10
    have rdy : ∀ {j}, reach ops 6 j i = true → j ∉ U := fun hr => reach_ready (S := fun j => j ∉ U) hS hr ho hwait
    have rch : ∀ {j}, reach ops 6 i j = true → j ∈ U := fun {j} hr => Classical.byContradiction fun q => reach_spec (S := fun j => j ∉ U) hS 6 i j hr q hiU
    have rlt : ∀ {f i j}, reach ops f i j = true → i < j := fun {f i j} hr => reach_lt (by rw [← hn]; exact T) f i j hr
    have cur : ∀ x, x ∈ touch mods i → Hx[x]? = (setL Hb (mdsOf (tr.take i)))[x]? := fun x hx => q4 x (touch_allM hx) i (by omega) (fun j hj hxj => rdy (ord hj hin hxj hx)) (fun j hj hjn hxj => by
      rcases Nat.lt_or_ge i j with q | q
      · exact rch (ord q hjn hx hxj)
      · rw [show j = i by omega]; exact hiU)
    have free : ∀ x, x ∉ allM mods → Hx[x]? = (setL Hb (mdsOf (tr.take i)))[x]? := fun x hx => by
      rw [q3 x hx, setL_out _ _ _ (mdM fun j _ q => hx (touch_allM q))]
    have hbl : (s.H ++ s.nw).length ≤ Hx.length := by
      have := congrArg List.length k7
      rw [setL_len] at this
      simp at this ⊢
      omega
    unfold wpOp
    rw [ho]
    simp only
    rw [show Region.wanted o (yielded ops a'.tmps) = true by unfold Region.wanted; rw [k2], if_pos rfl]
    refine .inl (k4 B Hx w' E' a' (fun x => ?_) q1 (by rw [List.length_append, maskH_len, ← List.length_append]; exact hbl) (fun x b hx => ?_) (by rw [maskH_len]; exact q9 i s hiU hs) _ Q fun v w2 E2 m1 m2 m3 m4 m5 => ?_)
    · unfold res
      split
      · next hx =>
        cases x with
        | tmp t =>
          show DRep w' E' (s.fr.get t) (a'.tmps.getD t undef)
          by_cases q : ∃ (j : Nat) (oj : Oper), ops[j]? = some oj ∧ oj.dst = some t
          · obtain ⟨j, oj, hj, hd⟩ := q
            obtain ⟨sj, hsj⟩ := hget hj
            have hrj := reads ho hj hd hx
            rw [k11 t j sj oj (rlt hrj) hsj hj hd]
            exact q8 j sj oj t (rdy hrj) hsj hj hd
          · rw [k10 t fun j o' _ ho' hd => q ⟨j, o', ho', hd⟩]
            exact q7 t fun j o' ho' hd => q ⟨j, o', ho', hd⟩
        | const v => exact D.ofV_rep v
        | global g => exact .junk
        | func f => exact .fn rfl rfl (fun i d v h => by simp at h) (fun i d v h => by simp at h)
      · exact .junk
    · rcases Nat.lt_or_ge x s.H.length with q | q
      · rw [List.getElem?_append_left (by rw [maskH_len]; exact q)] at hx
        rcases maskH_get hx with hx | ⟨hx, hM⟩
        · exact .inl hx
        · refine .inr ?_
          rw [Nat.zero_add] at hM
          have e1 : (setL Hb (mdsOf (tr.take i)))[x]? = some b := by rw [k7, List.append_assoc, List.getElem?_append_left q, hx]
          by_cases q2 : x ∈ allM mods
          · rw [cur x (hM q2), e1]
          · rw [free x q2, e1]
      · rw [List.getElem?_append_right (by rw [maskH_len]; exact q), maskH_len] at hx
        have hlt2 : x - s.H.length < s.nw.length := (List.getElem?_eq_some_iff.1 hx).1
        have e1 : (setL Hb (mdsOf (tr.take i)))[x]? = some b := by rw [k7, List.append_assoc, List.getElem?_append_right q, List.getElem?_append_left hlt2, hx]
        refine .inr ?_
        rw [← e1]
        by_cases q2 : x ∈ allM mods
        · refine q4 x q2 i (by omega) (fun j hj hxj => ?_) fun j hj hjn hxj => ?_
          · have := rlt (k6 x q (by omega) j (by omega) hxj)
            omega
          · exact rch (k6 x q (by omega) j (by omega) hxj)
        · exact free x q2
    · rw [maskH_len] at m4
      have hne : ∀ {j}, j ∉ U.erase i → j = i ∨ j ∉ U := fun {j} hj => by
        by_cases e : j = i
        · exact .inl e
        · exact .inr fun q => hj ((hUnd.mem_erase_iff).2 ⟨e, q⟩)
      refine ⟨E2, setL Hx s.md, m1, by rw [setL_len, q2], fun x hx => ?_, fun x hx k hk c1 c2 => ?_, put_size.trans q5, put_defers'.trans q6, fun t ht => ?_, fun j s' o' t hj hs' ho' hd' => ?_, fun j s' hj hs' => ?_, fun j o' hj ho' e he hb => ?_⟩
      · rw [setL_out _ _ _ fun b hb => hx (touch_allM (k5 _ hb).1), q3 x hx]
      · by_cases hxi : x ∈ touch mods i
        · have hik : i < k := by
            rcases Nat.lt_or_ge i k with q | q
            · exact q
            · have := c2 i q hin hxi
              exact absurd rfl ((hUnd.mem_erase_iff).1 this).1
          have e1 := stab (k - (i + 1)) (a := i + 1) (x := x) (by omega) fun j h1 h2 h3 => by
            rcases hne (c1 j (by omega) h3) with q | q
            · omega
            · exact q (rch (ord (by omega) (by omega) hxi h3))
          rw [show i + 1 + (k - (i + 1)) = k by omega] at e1
          rw [e1, mdsOf_take_succ hs, setL_cat]
          exact setL_congr s.md (by rw [setL_len, q2]) (cur x hxi)
        · rw [setL_out _ _ _ fun b hb => hxi (k5 _ hb).1]
          refine q4 x hx k hk (fun j hj hxj => ?_) fun j hj hjn hxj => ((hUnd.mem_erase_iff).1 (c2 j hj hjn hxj)).2
          rcases hne (c1 j hj hxj) with q | q
          · exact absurd (q ▸ hxj) hxi
          · exact q
      · have e1 : (a'.put o.dst v).tmps.getD t undef = a'.tmps.getD t undef := by
          cases hd : o.dst with
          | none => rfl
          | some t' => exact eval_put_ne fun e => ht i o ho (by rw [hd, e])
        rw [e1]
        exact (q7 t ht).move m2 m3
      · by_cases e : j = i
        · subst e
          rw [hs] at hs'
          cases hs'
          rw [ho] at ho'
          cases ho'
          rw [hd']
          have htn : t < a'.tmps.size := by rw [q5, ← hnt]; rw [hd'] at k3; simpa [dstB] using k3
          rw [show (a'.put (some t) v).tmps.getD t undef = v from eval_put_same htn]
          exact m5
        · have e1 : (a'.put o.dst v).tmps.getD t undef = a'.tmps.getD t undef := by
            cases hd : o.dst with
            | none => rfl
            | some t' => exact eval_put_ne fun q => e (uniq j i o' o t ho' ho hd' (by rw [hd, q]))
          rw [e1]
          exact (q8 j s' o' t ((hne hj).resolve_left e) hs' ho' hd').move m2 m3
      · obtain ⟨e1, e2⟩ := (hUnd.mem_erase_iff).1 hj
        obtain ⟨oj, j1, _, _, _, _, j6, _, _, j9, _⟩ := g2 j s' hs'
        intro x hx1 hx2
        have hout : x < s.H.length ∨ s.H.length + s.nw.length ≤ x := by
          rcases Nat.lt_or_ge j i with q | q
          · have := k9 j s' q hs'
            omega
          · have := j9 i s (by omega) hs
            omega
        obtain ⟨f1, f2⟩ := m4 x hout fun b hb => rdy (j6 x hx1 hx2 i (by omega) (k5 _ hb).1) e2
        obtain ⟨f3, f4⟩ := q9 j s' e2 hs' x hx1 hx2
        exact ⟨f1.trans f3, f2.trans f4⟩
      · intro q
        have q := (hUnd.mem_erase_iff).1 q
        rcases hne hj with rfl | hj
        · rw [ho] at ho'
          cases ho'
          exact hwait e he hb q.2
        · exact q10 j o' hj ho' e he hb q.2
  · intro listed a' w' hs hu ⟨E', Hx, q1, q2, q3, q4, q5, q6, q7, q8, q9, q10⟩
    refine wpAny_tail T [] n listed a' w' (Nat.le_refl _) (fun j => by simp [hn]) hs hu ?_
    have hHx : Hx = H' := by
      have e0 : tr.take n = tr := List.take_of_length_le (by omega)
      refine List.ext_getElem? fun x => ?_
      rw [g3]
      by_cases q : x ∈ allM mods
      · rw [q4 x q n (Nat.le_refl _) (fun _ _ _ => by simp) (fun j h1 h2 => by omega), e0]
      · rw [q3 x q, ← e0, setL_out _ _ _ (mdM fun j _ q2 => q (touch_allM q2))]
    subst hHx
    refine hQ fr' Hx E' a' w' hK ⟨q5, q6, fun t => ?_, q1⟩
    by_cases q : ∃ (j : Nat) (oj : Oper), ops[j]? = some oj ∧ oj.dst = some t
    · obtain ⟨j, oj, hj, hd⟩ := q
      obtain ⟨sj, hsj⟩ := hget hj
      show DRep w' E' (fr'.get t) _
      rw [g5 t j sj oj hsj hj hd]
      exact q8 j sj oj t (by simp) hsj hj hd
    · show DRep w' E' (fr'.get t) _
      rw [g4 t fun j o' ho' hd => q ⟨j, o', ho', hd⟩]
      exact q7 t fun j o' ho' hd => q ⟨j, o', ho', hd⟩
  · simp only [List.mem_range]
    rcases Nat.lt_or_ge t ops.size with q | q
    · simp [q]; omega
    · simp [show ¬ t < ops.size by omega]; omega
  · obtain ⟨d1, d2⟩ := (hr.wr.ext (nwsOf tr)).drew
    refine ⟨E, Hb, by rw [hHb]; exact d1, rfl, fun _ _ => rfl, fun x hx k hk c1 c2 => ?_, hr.sz, hr.df, fun t _ => (hr.fr t).move d2 (Env.own.refl _), fun j s o t hj hs ho => absurd (List.mem_range.2 (hlt ho)) hj, fun j s hj hs x hx1 _ => ?_, fun j o hj ho => absurd (List.mem_range.2 (hlt ho)) hj⟩
    · rw [setL_out _ _ _ (mdM fun j hj q => ?_)]
      exact absurd (c1 j hj q) (by simp; omega)
    · obtain ⟨_, _, _, _, _, _, _, _, k8, _⟩ := g2 j s hs
      exact hr.wr.out x (by show H.length ≤ x; omega)
end
end Go.Proofs.Ytbmcepkccenoaaa
namespace Go.Proofs.Ytbmcepkccenoaaa
open Go.RowKit

/-! The examples of the chapter: the calls. -/
def litC (v : VoteD) : List D := [.int .i64 (.lit v.by_), .int .i64 (.lit v.device), .int .i64 (.lit v.no)]
theorem litC_eq (vs : List VoteD) : DEq (.sll 3 (vs.map litC)) (.sll 3 (vs.map VoteD.c)) := by
  refine .slls (by simp) (fun i e e' h1 h2 => ?_) fun i e e' h1 h2 j d d' h3 h4 => ?_
  · simp only [List.getElem?_map, Option.map_eq_some_iff] at h1 h2
    obtain ⟨x, _, rfl⟩ := h1
    obtain ⟨y, _, rfl⟩ := h2
    rfl
  · simp only [List.getElem?_map, Option.map_eq_some_iff] at h1 h2
    obtain ⟨x, h5, rfl⟩ := h1
    obtain ⟨y, h6, rfl⟩ := h2
    rw [h5] at h6
    cases h6
    match j, h3, h4 with
    | 0, h3, h4 => cases h3; cases h4; exact .int rfl
    | 1, h3, h4 => cases h3; cases h4; exact .int rfl
    | 2, h3, h4 => cases h3; cases h4; exact .int rfl
theorem zeroF_eq : DEq (.agg [.int .i64 (.lit 0), .nils]) zeroF.d := by
  refine .aggs rfl fun i d d' h1 h2 => ?_
  match i, h1, h2 with
  | 0, h1, h2 => cases h1; cases h2; exact .int rfl
  | 1, h1, h2 => cases h1; cases h2; exact .nilv rfl rfl
theorem litR (a : D) (x : Int) : DEq (.tup [a, i64 x]) (.tup [a, .int .i64 (.lit x)]) := by
  refine .tups rfl fun i d d' h1 h2 => ?_
  match i, h1, h2 with
  | 0, h1, h2 => cases h1; cases h2; exact .refl _
  | 1, h1, h2 => cases h1; cases h2; exact .int rfl
theorem voteG (vs : List VoteD) (dv : Int) {r : FenceD × Int} (hv : vs.length ≤ 100) (hr : voteP zeroF vs dv = r) : Pure Try.prog 11 [.agg [.int .i64 (.lit 0), .nils], .sll 3 (vs.map litC), .int .i64 (.lit dv)] (.tup [r.1.d, .int .i64 (.lit r.2)]) := by
  subst hr
  refine Pure.res ?_ (litR _ _)
  exact Pure.args (args' := [zeroF.d, .sll 3 (vs.map VoteD.c), i64 dv]) (.cons zeroF_eq (.cons (litC_eq vs) (.cons (.int rfl) .nil))) (Pure.args (args' := [zeroF.d, .slm 3 none VoteD.c vs, i64 dv]) (.cons (.refl _) (.cons (.sll rfl (fun e h => by cases h)) (.cons (.refl _) .nil))) (Vote_pure zeroF vs none dv (by simp [zeroF]) (fun _ => rfl) (by omega)))
theorem voteM (vs : List VoteD) (dv : Int) {r : FenceD × Int} (hv : vs.length ≤ 100) (hr : voteP zeroF vs dv = r) : Pure Try.prog 11 [.agg [.int .i64 (.lit 0), .nils], .slm 3 none VoteD.c vs, .int .i64 (.lit dv)] (.tup [r.1.d, .int .i64 (.lit r.2)]) := by
  subst hr
  refine Pure.res ?_ (litR _ _)
  exact Pure.args (args' := [zeroF.d, .slm 3 none VoteD.c vs, i64 dv]) (.cons zeroF_eq (.cons (.refl _) (.cons (.int rfl) .nil))) (Vote_pure zeroF vs none dv (by simp [zeroF]) (fun _ => rfl) (by omega))
theorem voteN (dv : Int) {r : FenceD × Int} (hr : voteP zeroF [] dv = r) : Pure Try.prog 11 [.agg [.int .i64 (.lit 0), .nils], .nils, .int .i64 (.lit dv)] (.tup [r.1.d, .int .i64 (.lit r.2)]) := by
  subst hr
  refine Pure.res ?_ (litR _ _)
  exact Pure.args (args' := [zeroF.d, .slm 3 none VoteD.c [], i64 dv]) (.cons zeroF_eq (.cons (.nil0 rfl) (.cons (.int rfl) .nil))) (Vote_pure zeroF [] none dv (by simp [zeroF]) (fun _ => rfl) (by simp))
theorem sort1 (a : Int) : sortI [a] = [a] := by simp [sortI]
theorem v1 : voteP zeroF [⟨0, 2, 1⟩, ⟨1, 2, 1⟩] 3 = (⟨1, false, [2]⟩, 0) := by
  have : (⟨1, false, sortI [2]⟩, 0) = ((⟨1, false, [2]⟩ : FenceD), (0 : Int)) := by rw [sort1]
  rw [← this]; rfl
theorem v2 : voteP zeroF [⟨0, 2, 1⟩] 3 = (zeroF, 440) := by rfl
theorem v3 : voteP zeroF [] 0 = (zeroF, 1) := by rfl
theorem v4 : voteP zeroF [] 2 = (zeroF, 440) := by rfl
theorem v5 : voteP zeroF [⟨0, 1, 1⟩, ⟨1, 0, 1⟩] 2 = (zeroF, 440) := by rfl
theorem v6 : voteP zeroF [⟨0, 1, 1⟩] 2 = (⟨1, false, [1]⟩, 0) := by
  have : (⟨1, false, sortI [1]⟩, 0) = ((⟨1, false, [1]⟩ : FenceD), (0 : Int)) := by rw [sort1]
  rw [← this]; rfl
def seedG : List (BitVec 8) := 5 :: 1 :: List.replicate 30 0
def sharesG : List ShareD := fsplitL seedG 3 (List.replicate 32 0)
def f1G : FenceD := ⟨1, false, [2]⟩
theorem h0 : fsplitL (List.replicate 32 0) 1 [] = [] := by rfl
theorem h1 : fsplitE 1 [] = 1 := by rfl
theorem h2 : fsplitE 3 (List.replicate 32 0) = 0 := by rfl
theorem h3 : sharesG = (List.range 3).map (shareAt (seedG.zip (List.replicate 32 0)) 3) := by rfl
theorem h4 : helpP f1G sharesG 0 1 = (shareAt (seedG.zip (List.replicate 32 0)) 3 1, 0) := by rfl
theorem h5 : helpP f1G sharesG 2 1 = (zeroS, 440) := by rfl
theorem h6 : helpP f1G sharesG 1 2 = (zeroS, 440) := by rfl
theorem h7 : helpP f1G sharesG 1 1 = (zeroS, 1) := by rfl
theorem h8 : seedP (shareAt (seedG.zip (List.replicate 32 0)) 3 1) (shareAt (seedG.zip (List.replicate 32 0)) 3 0) = (seedG, 0) := by kernel_rfl
theorem bytesD (l : List Int) : DEq (.sll 1 (l.map fun x => [.int .u8 (.lit x)])) (.sll 1 ((l.map (BitVec.ofInt 8)).map u8C)) := by
  refine .slls (by simp) (fun i e e' h1 h2 => ?_) fun i e e' h1 h2 j d d' h3 h4 => ?_
  · simp only [List.getElem?_map, Option.map_eq_some_iff] at h1 h2
    obtain ⟨x, _, rfl⟩ := h1
    obtain ⟨y, _, rfl⟩ := h2
    rfl
  · simp only [List.getElem?_map, Option.map_eq_some_iff] at h1 h2
    obtain ⟨x, h5, rfl⟩ := h1
    obtain ⟨z, ⟨y, h6, rfl⟩, rfl⟩ := h2
    rw [h5] at h6
    cases h6
    match j, h3, h4 with
    | 0, h3, h4 => cases h3; cases h4; exact .byte rfl
theorem digD (l : List Int) : DEq (.agg (l.map fun x => .int .u8 (.lit x))) (.agg ((l.map (BitVec.ofInt 8)).map fun b => u8D b)) := by
  refine .aggs (by simp) (fun i e e' h1 h2 => ?_)
  simp only [List.getElem?_map, Option.map_eq_some_iff] at h1 h2
  obtain ⟨x, h5, rfl⟩ := h1
  obtain ⟨z, ⟨y, h6, rfl⟩, rfl⟩ := h2
  rw [h5] at h6
  cases h6
  exact .byte rfl
theorem splitG (l : List Int) (hl : l.length = 32) (dv : Int) (coins : List (BitVec 8)) (nb : Option BE) {rl : List ShareD} {re : Int} (h1 : fsplitL (l.map (BitVec.ofInt 8)) dv coins = rl) (h2 : fsplitE dv coins = re) : Pure Try.prog 17 [.agg (l.map fun x => .int .u8 (.lit x)), .int .i64 (.lit dv), .slm 1 nb u8C coins] (.tup [.slm 5 none ShareD.c rl, .int .i64 (.lit re)]) := by
  subst h1 h2
  refine Pure.res ?_ (litR _ _)
  exact Pure.args (args' := [.agg ((l.map (BitVec.ofInt 8)).map fun b => u8D b), i64 dv, .slm 1 nb u8C coins]) (.cons (digD l) (.cons (.int rfl) (.cons (.refl _) .nil))) (FSplit_pure _ coins (by simp [hl]) nb dv)
theorem helpG (f : FenceD) (l : List ShareD) (d b : Int) {r : ShareD × Int} (hf : f.devices.length < 100) (hl : l.length < 100) (hd : ∀ s ∈ l, s.nil = false ∧ s.data.length ≤ 100) (h : helpP f l d b = r) : Pure Try.prog 19 [f.d, .slm 5 none ShareD.c l, .int .i64 (.lit d), .int .i64 (.lit b)] (.tup [.agg r.1.c, .int .i64 (.lit r.2)]) := by
  subst h
  refine Pure.res ?_ (litR _ _)
  exact Pure.args (args' := [f.d, .slm 5 none ShareD.c l, i64 d, i64 b]) (.cons (.refl _) (.cons (.refl _) (.cons (.int rfl) (.cons (.int rfl) .nil)))) (Help_pure f l none d b (by omega) (by omega) fun s hs => ⟨fun h => (by rw [(hd s hs).1] at h; cases h), (by have := (hd s hs).2; omega)⟩)
end Go.Proofs.Ytbmcepkccenoaaa
namespace Go.Proofs.Ytbmcepkccenoaaa
open Go.RowKit

/-! The examples of the chapter: what the calls give. -/
def shG : ShareD := shareAt (seedG.zip (List.replicate 32 0)) 3 1
def s0G : ShareD := shareAt (seedG.zip (List.replicate 32 0)) 3 0
theorem i1 : Pure Try.prog 17 [.agg (List.replicate 32 (.int .u8 (.lit 0))), .int .i64 (.lit 1), .nils] (.tup [.slm 5 none ShareD.c [], .int .i64 (.lit 1)]) :=
  Pure.args (args' := [.agg ((List.replicate 32 0).map fun x => .int .u8 (.lit x)), .int .i64 (.lit 1), .slm 1 none u8C []]) (.cons (.refl _) (.cons (.refl _) (.cons (.nil0 rfl) .nil))) (splitG (List.replicate 32 0) rfl 1 [] none h0 h1)
theorem i2 : (5 :: 1 :: List.replicate 30 (0 : Int)).map (BitVec.ofInt 8) = seedG := by rfl
theorem i3 : (List.replicate 32 (0 : Int)).map (BitVec.ofInt 8) = List.replicate 32 0 := by rfl
theorem i4 : Pure Try.prog 17 [.agg ((5 :: 1 :: List.replicate 30 0).map fun x => .int .u8 (.lit x)), .int .i64 (.lit 3), .slm 1 none u8C (List.replicate 32 0)] (.tup [.slm 5 none ShareD.c sharesG, .int .i64 (.lit 0)]) :=
  splitG (5 :: 1 :: List.replicate 30 0) rfl 3 (List.replicate 32 0) none (by rw [i2]; rfl) h2
theorem i14 {H H' : List Bk} {b : Nat} {nb : BE} (hg : goneB H' b = true) (hb : H[b]? = some (.row 5 1 1 (.lits (List.replicate 32 [.int .u8 (.lit 0)])))) (hn : nb.den = false) : SnD H H' (.osl 1 b 1 nb (.lit 0) (.lit 32)) (.slm 1 none u8C (List.replicate 32 0)) :=
  .trans (.trans (.sll hg (.inl ⟨_, _, hb, rfl⟩) rfl rfl hn) (bytesD (List.replicate 32 0))) (.sll (by rw [i3]) (fun e h => by cases h))
theorem i5 : sharesG.length = 3 := by rw [h3]; rfl
theorem i6 : ∀ s ∈ sharesG, s.nil = false ∧ s.data.length ≤ 100 := fun s hs => by
  rw [h3, List.mem_map] at hs
  obtain ⟨k, _, rfl⟩ := hs
  exact ⟨rfl, by simp [shareAt, seedG]⟩
theorem i7 : Pure Try.prog 19 [f1G.d, .slm 5 none ShareD.c sharesG, .int .i64 (.lit 0), .int .i64 (.lit 1)] (.tup [.agg shG.c, .int .i64 (.lit 0)]) := helpG f1G sharesG 0 1 (by decide) (by rw [i5]; decide) i6 (r := (shG, 0)) h4
theorem i8 : Pure Try.prog 19 [f1G.d, .slm 5 none ShareD.c sharesG, .int .i64 (.lit 2), .int .i64 (.lit 1)] (.tup [.agg zeroS.c, .int .i64 (.lit 440)]) := helpG f1G sharesG 2 1 (by decide) (by rw [i5]; decide) i6 (r := (zeroS, 440)) h5
theorem i9 : Pure Try.prog 19 [f1G.d, .slm 5 none ShareD.c sharesG, .int .i64 (.lit 1), .int .i64 (.lit 2)] (.tup [.agg zeroS.c, .int .i64 (.lit 440)]) := helpG f1G sharesG 1 2 (by decide) (by rw [i5]; decide) i6 (r := (zeroS, 440)) h6
theorem i10 : Pure Try.prog 19 [f1G.d, .slm 5 none ShareD.c sharesG, .int .i64 (.lit 1), .int .i64 (.lit 1)] (.tup [.agg zeroS.c, .int .i64 (.lit 1)]) := helpG f1G sharesG 1 1 (by decide) (by rw [i5]; decide) i6 (r := (zeroS, 1)) h7
theorem i11 : Pure Try.prog 21 [.agg shG.c, .agg s0G.c] (.tup [.agg (seedG.map fun b => u8D b), .int .i64 (.lit 0)]) := by
  have h : seedP shG s0G = (seedG, 0) := h8
  have := Seed_pure shG s0G
  rw [h] at this
  exact Pure.res this (litR _ _)
theorem i12 : sharesG[0]? = some s0G := by rw [h3]; rfl
theorem i13 : shG.index = 2 := by rfl
theorem boolR (b : Bool) : DEq (boolD b) (.bool (.lit b)) := .bool rfl
theorem one_eq (x : Int) : DEq (.agg [.int .i64 (.lit 1), .sll 1 [[.int .i64 (.lit x)]]]) (.agg [i64 1, .sll 1 [[i64 x]]]) := by
  refine .aggs rfl fun i d d' h1 h2 => ?_
  match i, h1, h2 with
  | 0, h1, h2 => cases h1; cases h2; exact .int rfl
  | 1, h1, h2 =>
    cases h1; cases h2
    refine .slls rfl (fun i e e' h1 h2 => ?_) fun i e e' h1 h2 j d d' h3 h4 => ?_
    · match i, h1, h2 with
      | 0, h1, h2 => cases h1; cases h2; rfl
    · match i, h1, h2 with
      | 0, h1, h2 =>
        cases h1; cases h2
        match j, h3, h4 with
        | 0, h3, h4 => cases h3; cases h4; exact .int rfl
theorem one_eq2 (x : Int) : DEq (.agg [i64 1, .sll 1 [[i64 x]]]) (⟨1, false, [x]⟩ : FenceD).d := by
  refine .aggs rfl fun i d d' h1 h2 => ?_
  match i, h1, h2 with
  | 0, h1, h2 => cases h1; cases h2; exact .int rfl
  | 1, h1, h2 => cases h1; cases h2; exact .sll rfl (fun e h => by cases h; rfl)
theorem i15 (x : Int) : Pure Try.prog 13 [(⟨1, false, [x]⟩ : FenceD).d, .agg [.int .i64 (.lit 1), .sll 1 [[.int .i64 (.lit x)]]]] (.bool (.lit true)) := by
  have h := FSame_pure ⟨1, false, [x]⟩ ⟨1, false, [x]⟩ (by simp)
  rw [show sameB ⟨1, false, [x]⟩ ⟨1, false, [x]⟩ = true by simp [sameB]] at h
  exact Pure.res (Pure.args (.cons (.refl _) (.cons (one_eq x) .nil)) (Pure.args (.cons (.refl _) (.cons (one_eq2 x) .nil)) h)) (boolR true)
theorem i16 : Pure Try.prog 14 [.agg [.int .i64 (.lit 0), .nils], .int .i64 (.lit 0)] (.bool (.lit false)) :=
  Pure.res (Pure.args (args' := [zeroF.d, i64 0]) (.cons zeroF_eq (.cons (.int rfl) .nil)) (Is_pure zeroF 0 (by simp [zeroF]))) (boolR false)
theorem i17 : Pure Try.prog 14 [f1G.d, .int .i64 (.lit 2)] (.bool (.lit true)) :=
  Pure.res (Pure.args (args' := [f1G.d, i64 2]) (.cons (.refl _) (.cons (.int rfl) .nil)) (Is_pure f1G 2 (by simp [f1G]))) (boolR true)
end Go.Proofs.Ytbmcepkccenoaaa
namespace Go.Proofs.Ytbmcepkccenoaaa
open Go.RowKit

/-! The examples of the chapter answer as they should. -/
set_option maxRecDepth 100000 in
set_option maxHeartbeats 4000000 in
theorem sane_pure : Pure Try.prog 9 [] (boolD true) := by
  have e : (boolD true : D) = retD [boolD true] := rfl
  rw [e]
  have V1 := voteM _ 3 (by decide) v1
  have V2 := voteM _ 3 (by decide) v2
  have V3 := voteN 0 v3
  have V4 := voteN 2 v4
  have V5 := voteG _ 2 (by decide) v5
  have V6 := voteG _ 2 (by decide) v6
  have S1 := i1
  have S2 := i4
  have hsl := i5
  have H1 := i7
  have H2 := i8
  have H3 := i9
  have H4 := i10
  have D1 := i11
  have hx0 := i12
  have F1 := i15 2
  have F2 := i15 1
  have F3 := i16
  have F4 := i17
  have hshi := i13
  obtain ⟨sg, hsg⟩ : ∃ s, s = sharesG := ⟨_, rfl⟩
  obtain ⟨sh, hsh⟩ : ∃ s, s = shG := ⟨_, rfl⟩
  obtain ⟨s0, hs0⟩ : ∃ s, s = s0G := ⟨_, rfl⟩
  rw [← hsg] at S2 H1 H2 H3 H4 hsl hx0
  rw [← hsh] at H1 D1 hshi
  rw [← hs0] at D1 hx0
  clear hsg hsh hs0
  refine Pure.introC T_ok Try.func9 rfl (by kernel_rfl) (rs := [.tmp 0]) rfl (by kernel_rfl) ?_
  generalize hP : Try.prog = P at *
  have hT : T.ok P := hP ▸ T_ok
  have hm : P.follows .mixedOrders = true := hP ▸ follows
  unfold Try.f9
  dsimp only
  refine CodeP.seq (vc_sound hT hm _ ?_)
  cbv
  refine CodeP.seq (vc_sound hT hm _ ?_)
  cbv
  refine CodeP.pre [(1, .slm 3 none VoteD.c [⟨0, 2, 1⟩, ⟨1, 2, 1⟩])] [] ⟨⟨.trans (.eq (litC_eq [⟨0, 2, 1⟩, ⟨1, 2, 1⟩])) (.sll rfl (fun e h => by cases h)), trivial⟩, trivial, rfl⟩ (Nat.zero_le _) ?_
  refine CodeP.seq (vc_sound hT hm _ ?_)
  cbv
  refine CallP.pure _ V1 rfl ?_
  cbv
  refine CodeP.keep [0, 1, 2, 3, 5, 7, 9, 11, 12, 13, 15, 16, 17, 18, 19, 20, 22, 24, 26, 27, 28] ?_
  refine CodeP.seq (vc_sound hT hm _ ?_)
  cbv
  refine ReqP.mk (by decide) (fun _ => ?_)
  refine LetP.mk fun l hl => ?_
  replace hl : l = [⟨0, 2, 1⟩] := hl
  subst hl
  cbv
  refine CallP.pure _ V2 rfl ?_
  cbv
  refine CodeP.keep [0, 1, 2, 3, 5, 7, 9, 11, 12, 13, 15, 16, 17, 18, 19, 20, 22, 24, 26, 27, 28] ?_
  refine CodeP.seq (vc_sound hT hm _ ?_)
  cbv
  refine CallP.pure _ V3 rfl ?_
  cbv
  refine CodeP.keep [0, 1, 2, 3, 5, 7, 9, 11, 12, 13, 15, 16, 17, 18, 19, 20, 22, 24, 26, 27, 28] ?_
  refine CodeP.seq (vc_sound hT hm _ ?_)
  cbv
  refine CallP.pure _ V4 rfl ?_
  cbv
  refine CodeP.keep [0, 1, 2, 3, 5, 7, 9, 11, 12, 13, 15, 16, 17, 18, 19, 20, 22, 24, 26, 27, 28] ?_
  refine CodeP.seq (vc_sound hT hm _ ?_)
  cbv
  refine CallP.pure _ V5 rfl ?_
  cbv
  refine CodeP.keep [0, 1, 2, 3, 5, 7, 9, 11, 12, 13, 15, 16, 17, 18, 19, 20, 22, 24, 26, 27, 28] ?_
  refine CodeP.seq (vc_sound hT hm _ ?_)
  cbv
  refine CallP.pure _ V6 rfl ?_
  cbv
  refine CodeP.keep [0, 1, 2, 3, 5, 7, 9, 11, 12, 13, 15, 16, 17, 18, 19, 20, 22, 24, 26, 27, 28] ?_
  refine CodeP.seq (vc_sound hT hm _ ?_)
  cbv
  refine CallP.pure _ S1 rfl ?_
  cbv
  refine CodeP.keep [0, 1, 2, 3, 5, 7, 9, 11, 12, 13, 15, 16, 17, 18, 19, 20, 22, 24, 26, 27, 28] ?_
  refine CodeP.seq (vc_sound hT hm _ ?_)
  cbv
  refine CodeP.seq (vc_sound hT hm _ ?_)
  cbv
  refine FootP.intro hT hm [(2, [7])] (by kernel_rfl) ?_
  cbv
  refine .mk _ _ S2 (.cons (.eq (.refl _)) (.cons (.eq (.refl _)) (.cons (i14 rfl rfl rfl) .nil))) rfl ?_
  cbv
  refine CodeP.keep [0, 1, 2, 3, 5, 7, 9, 11, 12, 13, 15, 16, 17, 18, 19, 20, 22, 24, 26, 27, 28] ?_
  refine CodeP.seq (vc_sound hT hm _ ?_)
  cbv
  refine CallP.pure _ H1 rfl ?_
  cbv
  refine CodeP.keep [0, 1, 2, 3, 5, 7, 9, 11, 12, 13, 15, 16, 17, 18, 19, 20, 22, 24, 26, 27, 28] ?_
  refine CodeP.seq (vc_sound hT hm _ ?_)
  cbv
  refine CallP.pure _ H2 rfl ?_
  cbv
  refine CodeP.keep [0, 1, 2, 3, 5, 7, 9, 11, 12, 13, 15, 16, 17, 18, 19, 20, 22, 24, 26, 27, 28] ?_
  refine CodeP.seq (vc_sound hT hm _ ?_)
  cbv
  refine CallP.pure _ H3 rfl ?_
  cbv
  refine CodeP.keep [0, 1, 2, 3, 5, 7, 9, 11, 12, 13, 15, 16, 17, 18, 19, 20, 22, 24, 26, 27, 28] ?_
  refine CodeP.seq (vc_sound hT hm _ ?_)
  cbv
  refine CallP.pure _ H4 rfl ?_
  cbv
  refine CodeP.keep [0, 1, 2, 3, 5, 7, 9, 11, 12, 13, 15, 16, 17, 18, 19, 20, 22, 24, 26, 27, 28] ?_
  refine CodeP.seq (vc_sound hT hm _ ?_)
  cbv
  refine OpsP.keep [0, 1, 2, 3, 5, 7, 9, 11, 12, 13, 15, 16, 17, 18, 19, 20, 22, 24, 26, 27, 28, 120, 121, 122] ?_
  refine OpsP.go hT ?_
  cbv
  refine OpsP.keep [0, 1, 2, 3, 5, 7, 9, 11, 12, 13, 15, 16, 17, 18, 19, 20, 22, 24, 26, 27, 28, 136, 137, 138, 139] ?_
  refine OpsP.go hT ?_
  cbv
  refine SplitP.mk (fun hs => ?_) (fun hs => ?_)
  · exfalso
    have h3 : (!decide ((sg.length : Int) = 3)) = true := hs
    rw [hsl] at h3
    simp at h3
  clear hs
  refine CodeP.keep [2, 12, 16, 17, 19] ?_
  refine CodeP.seq (vc_sound hT hm _ ?_)
  cbv
  refine FootP.intro hT hm [(9, [12])] (by kernel_rfl) ?_
  cbv
  refine ElemP.mk (by show (0 : Int) ≤ 0 ∧ (0 : Int) < (sg.length : Int); omega) (fun x hx => ?_)
  replace hx : sg[0]? = some x := hx
  rw [hx0] at hx
  cases hx
  cbv
  refine .mk _ D1 rfl ?_
  cbv
  refine CodeP.keep [2, 12, 16, 19, 27, 28] ?_
  refine vc_sound hT hm _ ?_
  cbv
  refine CallP.pure _ F1 rfl ?_
  cbv
  refine CallP.pure _ F2 rfl ?_
  cbv
  refine CallP.pure _ F3 rfl ?_
  cbv
  refine CallP.pure _ F4 rfl ?_
  cbv
  refine SplitP.mk (fun hs => ?_) (fun hs => ?_)
  · clear hs
    refine .mk (.cons (.eq (.bool ?_)) .nil) rfl
    kernel_rfl
  · exfalso
    have h3 : decide (sh.index = 2) = false := hs
    rw [hshi] at h3
    simp at h3
end Go.Proofs.Ytbmcepkccenoaaa
namespace Go.Proofs.Ytbmcepkccenoaaa
open Go.ChangeShapes Go.WideShapes Go.ChangeAt Go.RowKit

/-! From the form's reading of the arguments to data. -/
def allE (w : World) : Env := Env.of fun b => b < w.heap.size
/-- every reading of type t by the form gives data -/
def OpD (P : Program) (t : TypeId) {α : Type} (c : α → List D) (ok : α → Prop) : Prop :=
  ∀ {H : Type} (enc : TypeId × Value → H) (w : World) (spare : Nat → Bool) (held : Bool) (fuel : Nat) (cs : List Value) (x : DataW H × List MemPlace),
    DataW.trod enc P w 0 spare held fuel t cs = some x → ∃ a, ok a ∧ cs.length = (c a).length ∧ ∀ (i : Nat) d v, (c a)[i]? = some d → cs[i]? = some v → DRep w (allE w) d v
theorem InR.of_wf {k : IntKind} {z : Int} (h : (Lit.int k z).wf = true) : InR k z := by
  simpa [Lit.wf, InR] using h
theorem opd_int {P : Program} {t : TypeId} (ht : P.underlying t = some (.int .i64)) : OpD P t (fun x : Int => [.int .i64 (.var x)]) (fun _ => True) := fun enc w spare held fuel cs x h => by
  obtain ⟨z, rfl, _, h2⟩ := DataW.trod_int ht h
  refine ⟨z, trivial, rfl, fun i d v hd hv => ?_⟩
  match i, hd, hv with
  | 0, hd, hv => cases hd; cases hv; exact .int (e := .var z) (InR.of_wf h2)
theorem opd_u8 {P : Program} {t : TypeId} (ht : P.underlying t = some (.int .u8)) : OpD P t (fun b : BitVec 8 => [.int .u8 (.u8 b)]) (fun _ => True) := fun enc w spare held fuel cs x h => by
  obtain ⟨z, rfl, _, h2⟩ := DataW.trod_int ht h
  have hz := InR.of_wf h2
  have hz2 : 0 ≤ z ∧ z ≤ 255 := by unfold InR IntKind.min IntKind.max at hz; simpa [IntKind.signed, IntKind.bits] using hz
  have e : (IE.u8 (BitVec.ofInt 8 z)).den = z := by
    simp only [IE.den, BitVec.toNat_ofInt]
    omega
  refine ⟨BitVec.ofInt 8 z, trivial, rfl, fun i d v hd hv => ?_⟩
  match i, hd, hv with
  | 0, hd, hv =>
    cases hd; cases hv
    have := DRep.int (w := w) (E := allE w) (k := .u8) (e := .u8 (BitVec.ofInt 8 z)) (by rw [e]; exact hz)
    rwa [e] at this
theorem opd_bool {P : Program} {t : TypeId} (ht : P.underlying t = some .bool) : OpD P t (fun b : Bool => [.bool (.var b)]) (fun _ => True) := fun enc w spare held fuel cs x h => by
  obtain ⟨z, rfl, _⟩ := DataW.trod_bool ht h
  refine ⟨z, trivial, rfl, fun i d v hd hv => ?_⟩
  match i, hd, hv with
  | 0, hd, hv => cases hd; cases hv; exact .bool (e := .var z)
abbrev slC {α : Type} (n : Nat) (c : α → List D) (p : Bool × List α) : List D := [.slm n (some (.var p.1)) c p.2]
theorem opd_slice {α : Type} {P : Program} {t e : TypeId} {n : Nat} {c : α → List D} {ok : α → Prop} (ht : P.underlying t = some (.slice e)) (hn : P.cellsOf e = n) (hpos : 0 < n) (hR : OpD P e c ok) (hc : ∀ a, (c a).length = n) :
    OpD P t (slC n c) (fun p => (p.1 = true → p.2 = []) ∧ (∀ x ∈ p.2, ok x) ∧ p.2.length ≤ maxLen) := fun enc w spare held fuel cs x h => by
  rcases Go.Deep.open_slice ht h with ⟨rfl, _⟩ | ⟨a, len, cap, m, k, D, Pl, rfl, _, hl, hm, hmm, _, hx⟩
  · refine ⟨(true, []), ⟨fun _ => rfl, fun x h => by simp at h, by simp⟩, rfl, fun i d v hd hv => ?_⟩
    match i, hd, hv with
    | 0, hd, hv =>
      cases hd; cases hv
      exact DRep.slm (a := none) (fun _ _ => undef) (fun e he => by cases he; rfl) (Nat.le_refl _) (Nat.zero_le _) (fun x hx => by simp at hx) (fun h => absurd rfl h) (fun i x j d h => by simp at h)
  · have hlm : len ≤ m := by rw [hmm]; split <;> omega
    have e0 : ∀ i, i < m → ∃ z : α, ∃ es, (ok z ∧ es.length = (c z).length ∧ ∀ (i : Nat) d v, (c z)[i]? = some d → es[i]? = some v → DRep w (allE w) d v) ∧ w.cells? 0 (a.add (i * n)) n = some es := fun i hi => by
      obtain ⟨es, h2, h3⟩ := hx i hi
      rw [hn] at h2
      obtain ⟨z, hz⟩ := hR enc w spare held k es _ h3
      exact ⟨z, es, hz, h2⟩
    by_cases h0 : len = 0
    · subst h0
      refine ⟨(false, []), ⟨fun h => by simp at h, fun x h => by simp at h, by simp⟩, rfl, fun i d v hd hv => ?_⟩
      match i, hd, hv with
      | 0, hd, hv =>
        cases hd; cases hv
        exact DRep.slm (a := some a) (fun _ _ => undef) (fun e he => by cases he; rfl) (Nat.zero_le _) hm (fun x hx => by simp at hx) (fun h => absurd rfl h) (fun i x j d h => by simp at h)
    · obtain ⟨z0, _⟩ := e0 0 (by omega)
      have : Inhabited α := ⟨z0⟩
      obtain ⟨z, hz⟩ := Go.Deep.choose_lt e0
      obtain ⟨b, off, spot⟩ := a
      have hspot : spot = none := by
        obtain ⟨es0, _, hc0⟩ := hz 0 (by omega)
        obtain ⟨_, hlen0, hcell0⟩ := World.cells?_some hc0
        have this := hcell0 0 hpos
        rw [List.getElem?_eq_getElem (by omega)] at this
        have h9 := World.cell?_spot this
        simpa [Addr.add] using h9
      subst hspot
      have cell : ∀ i, i < len → ∃ es : List Value, (∀ j, j < n → w.cell? ⟨b, off + i * n + j, none⟩ = es[j]?) ∧ es.length = n ∧ (ok (z i) ∧ es.length = (c (z i)).length ∧ ∀ (j : Nat) d v, (c (z i))[j]? = some d → es[j]? = some v → DRep w (allE w) d v) := fun i hi => by
        obtain ⟨es, hr, hcc⟩ := hz i (by omega)
        obtain ⟨_, hlen, hcell⟩ := World.cells?_some hcc
        refine ⟨es, fun j hj => ?_, hlen, hr⟩
        have := hcell j hj
        rw [add_none, add_none] at this
        exact this
      have hbl : b < w.heap.size := by
        obtain ⟨es, h1, h2, _⟩ := cell 0 (by omega)
        have := h1 0 hpos
        rw [List.getElem?_eq_getElem (by omega)] at this
        exact World.block_lt_of_cell? w ⟨b, _, none⟩ this
      refine ⟨(false, (List.range len).map z), ⟨fun h => by simp at h, fun x hx => ?_, by simp; omega⟩, rfl, fun i d v hd hv => ?_⟩
      · simp only [List.mem_map, List.mem_range] at hx
        obtain ⟨i, hi, rfl⟩ := hx
        obtain ⟨_, _, _, h3, _⟩ := cell i hi
        exact h3
      · match i, hd, hv with
        | 0, hd, hv =>
          cases hd; cases hv
          have hl2 : ((List.range len).map z).length = len := by simp
          have key := DRep.slm (w := w) (E := allE w) (n := n) (nb := some (.var false)) (c := c) (l := (List.range len).map z) (a := some ⟨b, off, none⟩) (cap := cap) (fun i j => (w.cell? ⟨b, off + i * n + j, none⟩).getD undef) (fun e he => by cases he; rfl) (by omega) hm (fun x hx => hc x) (fun _ => ⟨b, off, rfl, hbl, fun i j hi hj => ?_⟩) fun i x j d hx hd => ?_
          · rwa [hl2] at key
          · obtain ⟨es, h1, h2, _⟩ := cell i (by omega)
            rw [h1 j hj, List.getElem?_eq_getElem (by omega)]
            rfl
          · simp only [List.getElem?_map, Option.map_eq_some_iff] at hx
            obtain ⟨i', hi', rfl⟩ := hx
            obtain ⟨hlt, rfl⟩ := List.getElem?_eq_some_iff.1 hi'
            simp only [List.getElem_range] at hd ⊢
            obtain ⟨es, h1, h2, _, h3, h4⟩ := cell i (by simpa using hlt)
            have hj := (List.getElem?_eq_some_iff.1 hd).1
            rw [h1 j (by omega), List.getElem?_eq_getElem (by omega)]
            exact h4 j d _ hd (List.getElem?_eq_getElem (by omega))
section
variable {H : Type} {enc : TypeId × Value → H} {P : Program} {w : World} {spare : Nat → Bool} {held : Bool} {v : Value} {d : DataW H} {p : List MemPlace} {r : Reach} {b0 : Nat} {t : TypeId} {α : Type}
theorem open_sl {e : TypeId} {n : Nat} {c : α → List D} {ok : Bool × List α → Prop} (ht : P.underlying t = some (.slice e)) (ho : OpD P t (slC n c) ok) (hv : Value.okWide P w r b0 t v) (h : DataW.Trod enc P w 0 spare held t v d p) : ∃ p, ok p ∧ DRep w (allE w) (.slm n (some (.var p.1)) c p.2) v := by
  obtain ⟨a, m, k, rfl⟩ := okWide_slice ht hv
  obtain ⟨fuel, hf⟩ := h
  obtain ⟨p, h1, h2, h3⟩ := ho enc w spare held fuel _ _ hf
  exact ⟨p, h1, h3 0 _ _ rfl rfl⟩
theorem open_st {fs : Array Field} {c : α → List D} {ok : α → Prop} (ht : P.underlying t = some (.struct fs)) (ho : OpD P t c ok) (hv : Value.okWide P w r b0 t v) (h : DataW.Trod enc P w 0 spare held t v d p) : ∃ a, ok a ∧ DRep w (allE w) (.agg (c a)) v := by
  obtain ⟨cs, rfl, _⟩ := okWide_struct ht hv
  obtain ⟨fuel, hf⟩ := h
  obtain ⟨a, h1, h2, h3⟩ := ho enc w spare held fuel cs.toList _ hf
  exact ⟨a, h1, .agg (by rw [← h2]; simp) fun i d v hd hv => h3 i d v hd (by simpa using hv)⟩
theorem open_i (ht : P.underlying t = some (.int .i64)) (hv : Value.okWide P w r b0 t v) (h : DataW.Trod enc P w 0 spare held t v d p) : ∃ z, InR .i64 z ∧ DRep w (allE w) (.int .i64 (.var z)) v := by
  obtain ⟨z, rfl, rfl, rfl, wf⟩ := open_int ht hv h
  exact ⟨z, InR.of_wf wf, .int (e := .var z) (InR.of_wf wf)⟩
end
theorem LRep.nil {w : World} {E : Env} : LRep w E [] #[] := ⟨rfl, fun i d v h => by simp at h⟩
theorem lrep_cons {w : World} {E : Env} {d : D} {l : List D} {v : Value} {vs : List Value} (h : DRep w E d v) (r : LRep w E l ⟨vs⟩) : LRep w E (d :: l) ⟨v :: vs⟩ := by
  refine ⟨by have := r.1; simp at this ⊢; omega, fun i d' v' hd hv => ?_⟩
  cases i with
  | zero => simp at hd hv; subst hd hv; exact h
  | succ i => exact r.2 i d' v' (by simpa using hd) (by simpa using hv)
theorem Pure.law {P : Program} {f : Nat} {args : List D} {w : World} {vs : List Value} (h : Pure P f args (.bool (.var true))) (hr : LRep w (allE w) args ⟨vs⟩) : Calls P f ⟨vs⟩ w fun e w' => e = .returned (.bool true) ∧ Below w.heap.size w w' := by
  refine (h.2 w _ _ (fun _ hb => hb) hr).mono ?_
  rintro e w' ⟨v, G', rfl, h2, _, _, _, h6⟩
  cases h6
  exact ⟨rfl, h2⟩
theorem open_u8 {H : Type} {enc : TypeId × Value → H} {P : Program} {w : World} {spare : Nat → Bool} {held : Bool} {v : Value} {d : DataW H} {p : List MemPlace} {r : Reach} {b0 : Nat} {t : TypeId} (ht : P.underlying t = some (.int .u8)) (hv : Value.okWide P w r b0 t v) (h : DataW.Trod enc P w 0 spare held t v d p) : ∃ b : BitVec 8, DRep w (allE w) (.int .u8 (.u8 b)) v := by
  obtain ⟨z, rfl, _, _, _⟩ := open_int ht hv h
  obtain ⟨fuel, hf⟩ := h
  obtain ⟨b, _, _, h3⟩ := opd_u8 ht enc w spare held fuel _ _ hf
  exact ⟨b, h3 0 _ _ rfl rfl⟩
end Go.Proofs.Ytbmcepkccenoaaa
namespace Go.Proofs.Ytbmcepkccenoaaa
open Go.ChangeShapes Go.WideShapes Go.ChangeAt Go.RowKit

/-! The arguments of the laws. -/
set_option maxRecDepth 20000 in
theorem opd_vote : OpD Try.prog 52 VoteD.c (fun _ => True) := fun enc w spare held fuel cs x h => by
  obtain ⟨xs, m, _, _, hl, hlen, hf⟩ := DataW.trod_struct Try.underlying52 h
  replace hl : cs.length = 3 := hl.trans (by kernel_rfl)
  replace hlen : xs.length = 3 := hlen
  match cs, hl, hf with
  | [c0, c1, c2], _, hf =>
    have h0 := hf 0 _ rfl
    rw [List.getElem?_eq_getElem (by omega)] at h0
    have h1 := hf 1 _ rfl
    rw [List.getElem?_eq_getElem (by omega)] at h1
    have h2 := hf 2 _ rfl
    rw [List.getElem?_eq_getElem (by omega)] at h2
    obtain ⟨y0, _, _, e0⟩ := opd_int (P := Try.prog) (by kernel_rfl) enc w spare held m [c0] _ h0
    obtain ⟨y1, _, _, e1⟩ := opd_int (P := Try.prog) (by kernel_rfl) enc w spare held m [c1] _ h1
    obtain ⟨y2, _, _, e2⟩ := opd_int (P := Try.prog) (by kernel_rfl) enc w spare held m [c2] _ h2
    refine ⟨⟨y0, y1, y2⟩, trivial, rfl, fun i d v hd hv => ?_⟩
    match i, hd, hv with
    | 0, hd, hv => cases hd; cases hv; exact e0 0 _ _ rfl rfl
    | 1, hd, hv => cases hd; cases hv; exact e1 0 _ _ rfl rfl
    | 2, hd, hv => cases hd; cases hv; exact e2 0 _ _ rfl rfl
abbrev intsOK (p : Bool × List Int) : Prop := (p.1 = true → p.2 = []) ∧ (∀ x ∈ p.2, True) ∧ p.2.length ≤ maxLen
theorem opd_ints : OpD Try.prog 22 (slC 1 intC) intsOK := opd_slice (n := 1) (e := 3) (by kernel_rfl) (by kernel_rfl) (by decide) (opd_int (by kernel_rfl)) (fun _ => rfl)
theorem opd_bytes : OpD Try.prog 36 (slC 1 u8C) (fun p => (p.1 = true → p.2 = []) ∧ (∀ x ∈ p.2, True) ∧ p.2.length ≤ maxLen) := opd_slice (n := 1) (e := 5) (by kernel_rfl) (by kernel_rfl) (by decide) (opd_u8 (by kernel_rfl)) (fun _ => rfl)
theorem opd_votes : OpD Try.prog 25 (slC 3 VoteD.c) (fun p => (p.1 = true → p.2 = []) ∧ (∀ x ∈ p.2, True) ∧ p.2.length ≤ maxLen) := opd_slice (n := 3) (e := 52) (by kernel_rfl) (by kernel_rfl) (by decide) opd_vote (fun _ => rfl)
abbrev FenceD.c (f : FenceD) : List D := [.int .i64 (.var f.no), .slm 1 (some (.var f.nil)) intC f.devices]
set_option maxRecDepth 20000 in
theorem opd_fence : OpD Try.prog 24 FenceD.c (fun f => (f.nil = true → f.devices = []) ∧ f.devices.length ≤ maxLen) := fun enc w spare held fuel cs x h => by
  obtain ⟨xs, m, _, _, hl, hlen, hf⟩ := DataW.trod_struct Try.underlying24 h
  replace hl : cs.length = 2 := hl.trans (by kernel_rfl)
  replace hlen : xs.length = 2 := hlen
  match cs, hl, hf with
  | [c0, c1], _, hf =>
    have h0 := hf 0 _ rfl
    rw [List.getElem?_eq_getElem (by omega)] at h0
    have h1 := hf 1 _ rfl
    rw [List.getElem?_eq_getElem (by omega)] at h1
    obtain ⟨y0, _, _, e0⟩ := opd_int (P := Try.prog) (by kernel_rfl) enc w spare held m [c0] _ h0
    obtain ⟨y1, k1, _, e1⟩ := opd_ints enc w spare held m [c1] _ h1
    refine ⟨⟨y0, y1.1, y1.2⟩, ⟨k1.1, k1.2.2⟩, rfl, fun i d v hd hv => ?_⟩
    match i, hd, hv with
    | 0, hd, hv => cases hd; cases hv; exact e0 0 _ _ rfl rfl
    | 1, hd, hv => cases hd; cases hv; exact e1 0 _ _ rfl rfl
set_option maxRecDepth 20000 in
theorem opd_share : OpD Try.prog 39 ShareD.c (fun s => (s.nil = true → s.data = []) ∧ s.data.length ≤ maxLen) := fun enc w spare held fuel cs x h => by
  obtain ⟨xs, m, _, _, hl, hlen, hf⟩ := DataW.trod_struct Try.underlying39 h
  replace hl : cs.length = 5 := hl.trans (by kernel_rfl)
  replace hlen : xs.length = 5 := hlen
  match cs, hl, hf with
  | [c0, c1, c2, c3, c4], _, hf =>
    have h0 := hf 0 _ rfl
    rw [List.getElem?_eq_getElem (by omega)] at h0
    have h1 := hf 1 _ rfl
    rw [List.getElem?_eq_getElem (by omega)] at h1
    have h2 := hf 2 _ rfl
    rw [List.getElem?_eq_getElem (by omega)] at h2
    have h3 := hf 3 _ rfl
    rw [List.getElem?_eq_getElem (by omega)] at h3
    have h4 := hf 4 _ rfl
    rw [List.getElem?_eq_getElem (by omega)] at h4
    obtain ⟨y0, _, _, e0⟩ := opd_int (P := Try.prog) (by kernel_rfl) enc w spare held m [c0] _ h0
    obtain ⟨y1, _, _, e1⟩ := opd_int (P := Try.prog) (by kernel_rfl) enc w spare held m [c1] _ h1
    obtain ⟨y2, _, _, e2⟩ := opd_int (P := Try.prog) (by kernel_rfl) enc w spare held m [c2] _ h2
    obtain ⟨y3, _, _, e3⟩ := opd_int (P := Try.prog) (by kernel_rfl) enc w spare held m [c3] _ h3
    obtain ⟨y4, k4, _, e4⟩ := opd_bytes enc w spare held m [c4] _ h4
    refine ⟨⟨y0, y1, y2, y3, y4.1, y4.2⟩, ⟨k4.1, k4.2.2⟩, rfl, fun i d v hd hv => ?_⟩
    match i, hd, hv with
    | 0, hd, hv => cases hd; cases hv; exact e0 0 _ _ rfl rfl
    | 1, hd, hv => cases hd; cases hv; exact e1 0 _ _ rfl rfl
    | 2, hd, hv => cases hd; cases hv; exact e2 0 _ _ rfl rfl
    | 3, hd, hv => cases hd; cases hv; exact e3 0 _ _ rfl rfl
    | 4, hd, hv => cases hd; cases hv; exact e4 0 _ _ rfl rfl
theorem opd_shares : OpD Try.prog 37 (slC 5 ShareD.c) (fun p => (p.1 = true → p.2 = []) ∧ (∀ x ∈ p.2, (x.nil = true → x.data = []) ∧ x.data.length ≤ maxLen) ∧ p.2.length ≤ maxLen) := opd_slice (n := 5) (e := 39) (by kernel_rfl) (by kernel_rfl) (by decide) opd_share (fun _ => rfl)
set_option maxRecDepth 20000 in
theorem opd_digest : OpD Try.prog 35 (fun l : List (BitVec 8) => l.map fun b => u8D b) (fun l => l.length = 32) := fun enc w spare held fuel cs x h => by
  obtain ⟨xs, m, _, _, hl, hlen, hf⟩ := DataW.trod_array (P := Try.prog) (t := 35) (n := 32) (e := 5) (by kernel_rfl) h
  replace hl : cs.length = 32 := hl.trans (by kernel_rfl)
  have e1 : Try.prog.cellsOf 5 = 1 := by kernel_rfl
  have key : ∀ i, i < 32 → ∃ b : BitVec 8, ∀ v, cs[i]? = some v → DRep w (allE w) (u8D b) v := fun i hi => by
    have h0 := hf i hi
    rw [List.getElem?_eq_getElem (by omega), e1] at h0
    obtain ⟨y, _, _, e⟩ := opd_u8 (P := Try.prog) (by kernel_rfl) enc w spare held m _ _ h0
    refine ⟨y, fun v hv => e 0 _ _ rfl ?_⟩
    rw [List.getElem?_take, if_pos (by decide), List.getElem?_drop]
    simpa using hv
  obtain ⟨z, hz⟩ := Go.Deep.choose_lt key
  refine ⟨(List.range 32).map z, by simp, by simp [hl], fun i d v hd hv => ?_⟩
  have hi : i < 32 := by have := (List.getElem?_eq_some_iff.1 hv).1; omega
  simp only [List.getElem?_map, List.getElem?_range hi, Option.map_some, Option.some.injEq] at hd
  subst hd
  exact hz i hi v hv
theorem okWide_agg {P : Program} {w : World} {r : Reach} {b0 : Nat} {t e : TypeId} {n : Nat} {v : Value} (ht : P.underlying t = some (.array n e)) (h : Value.okWide P w r b0 t v) : ∃ cs, v = .agg cs := by
  simp only [Value.okWide, ht, Cell.okWide] at h
  cases v <;> simp_all
set_option maxRecDepth 20000 in
theorem open_digest {H : Type} {enc : TypeId × Value → H} {w : World} {spare : Nat → Bool} {held : Bool} {v : Value} {d : DataW H} {p : List MemPlace} {r : Reach} {b0 : Nat} (hv : Value.okWide Try.prog w r b0 35 v) (h : DataW.Trod enc Try.prog w 0 spare held 35 v d p) : ∃ l : List (BitVec 8), l.length = 32 ∧ DRep w (allE w) (.agg (l.map fun b => u8D b)) v := by
  obtain ⟨cs, rfl⟩ := okWide_agg (n := 32) (e := 5) (by kernel_rfl) hv
  obtain ⟨fuel, hf⟩ := h
  obtain ⟨a, h1, h2, h3⟩ := opd_digest enc w spare held fuel cs.toList _ hf
  exact ⟨a, h1, .agg (by rw [← h2]; simp) fun i d v hd hv => h3 i d v hd (by simpa using hv)⟩
end Go.Proofs.Ytbmcepkccenoaaa
namespace Go.Proofs.Ytbmcepkccenoaaa
open Go.RowKit

/-! The reference's Seed. -/
set_option maxRecDepth 100000 in
set_option maxHeartbeats 4000000 in
theorem RSeed_pure (a b : ShareD) : Pure Try.prog 22 [.agg a.c, .agg b.c] (.tup [.agg ((seedP a b).1.map fun b => u8D b), i64 (seedP a b).2]) := by
  obtain ⟨sl, hsl⟩ : ∃ r, r = (seedP a b).1.map (fun b => u8D b) := ⟨_, rfl⟩
  obtain ⟨se, hse⟩ : ∃ r, r = (seedP a b).2 := ⟨_, rfl⟩
  rw [← hsl, ← hse]
  have hJ1 := RJoin_pure a b none
  have hJ2 := RJoin_pure b a none
  obtain ⟨l1, hl1⟩ : ∃ r, r = joinL a b := ⟨_, rfl⟩
  obtain ⟨l2, hl2⟩ : ∃ r, r = joinL b a := ⟨_, rfl⟩
  obtain ⟨e1, he1⟩ : ∃ r, r = joinE a b := ⟨_, rfl⟩
  obtain ⟨e2, he2⟩ : ∃ r, r = joinE b a := ⟨_, rfl⟩
  rw [← hl1, ← he1] at hJ1
  rw [← hl2, ← he2] at hJ2
  have hr : sl = (if b.index < a.index then seedOf e2 l2 else seedOf e1 l1).1.map (fun b => u8D b) ∧ se = (if b.index < a.index then seedOf e2 l2 else seedOf e1 l1).2 := by
    rw [hsl, hse, hl1, hl2, he1, he2]; exact ⟨rfl, rfl⟩
  clear hsl hse hl1 hl2 he1 he2
  obtain ⟨ae, ai, at_, am, an, ad⟩ := a
  obtain ⟨be, bi, bt, bm, bn, bd⟩ := b
  simp only at hr
  refine Pure.intro (want := [.agg sl, i64 se]) T_ok follows Try.func22 rfl (by kernel_rfl) (rs := [.cell 4 35, .tmp 5]) rfl (by kernel_rfl) ?_
  generalize hP : Try.prog = P at *
  have hT : T.ok P := hP ▸ T_ok
  have hm : P.follows .mixedOrders = true := hP ▸ follows
  unfold Try.f22
  dsimp only
  cbv
  refine SplitP.mk (fun hs => ?_) (fun hs => ?_) <;> simp only [BE.lss_t, BE.lss_f, BE.leq_t, BE.leq_f, BE.gtr_t, BE.gtr_f, BE.geq_t, BE.geq_f, BE.eql_t, BE.eql_f, BE.neq_t, BE.neq_f, BE.not_t, BE.not_f, BE.var_d, BE.lit_d, BE.seq_t, BE.seq_f, BE.beq_t, BE.beq_f, IE.var_d, IE.lit_d, IE.nat_d, IE.len_d, IE.sum_d, IE.u8_d, ncast, Int.ofNat_lt, Int.ofNat_le, Int.ofNat_inj] at hs
  · rw [if_pos hs] at hr
    refine CallP.pure _ (Pure.args (.cons (.sll rfl (fun e h => by cases h)) .nil) hJ2) rfl ?_
    cbv
    refine SplitP.mk (fun h1 => ?_) (fun h1 => ?_) <;> simp only [BE.neq_t, BE.neq_f, IE.var_d, IE.lit_d] at h1
    · unfold seedOf at hr
      rw [if_pos h1] at hr
      exact zeros_ret (ie := .var e2) hr
    refine SplitP.mk (fun h2 => ?_) (fun h2 => ?_)
    · have h3 : (!decide ((l2.length : Int) = 32)) = true := h2
      have h4 : ¬ l2.length = 32 := fun q => by rw [q] at h3; cases h3
      unfold seedOf at hr
      rw [if_neg (by simp [h1]), if_pos h4] at hr
      exact zeros_ret (ie := .lit 1) hr
    · have h3 : (!decide ((l2.length : Int) = 32)) = false := h2
      have h4 : l2.length = 32 := by
        have h5 : decide ((l2.length : Int) = 32) = true := by simpa using h3
        have := of_decide_eq_true h5
        omega
      unfold seedOf at hr
      rw [if_neg (by simp [h1]), if_neg (by simp [h4])] at hr
      obtain ⟨rfl, rfl⟩ := hr
      clear h2 h3 hJ1 hJ2
      obtain ⟨x0, x1, x2, x3, x4, x5, x6, x7, x8, x9, x10, x11, x12, x13, x14, x15, x16, x17, x18, x19, x20, x21, x22, x23, x24, x25, x26, x27, x28, x29, x30, x31, rfl⟩ := list32 h4
      refine CodeP.rounds hT hm 33 ?_
      cbv
      iterate 32
        refine ElemP.mk ⟨of_decide_eq_true rfl, of_decide_eq_true rfl⟩ (fun x hx => ?_)
        cases hx
        cbv
      exact .mk (.cons (.eq (.refl _)) (.cons (.eq (.int rfl)) .nil)) rfl
  · rw [if_neg (by omega)] at hr
    refine CallP.pure _ (Pure.args (.cons (.sll rfl (fun e h => by cases h)) .nil) hJ1) rfl ?_
    cbv
    refine SplitP.mk (fun h1 => ?_) (fun h1 => ?_) <;> simp only [BE.neq_t, BE.neq_f, IE.var_d, IE.lit_d] at h1
    · unfold seedOf at hr
      rw [if_pos h1] at hr
      exact zeros_ret (ie := .var e1) hr
    refine SplitP.mk (fun h2 => ?_) (fun h2 => ?_)
    · have h3 : (!decide ((l1.length : Int) = 32)) = true := h2
      have h4 : ¬ l1.length = 32 := fun q => by rw [q] at h3; cases h3
      unfold seedOf at hr
      rw [if_neg (by simp [h1]), if_pos h4] at hr
      exact zeros_ret (ie := .lit 1) hr
    · have h3 : (!decide ((l1.length : Int) = 32)) = false := h2
      have h4 : l1.length = 32 := by
        have h5 : decide ((l1.length : Int) = 32) = true := by simpa using h3
        have := of_decide_eq_true h5
        omega
      unfold seedOf at hr
      rw [if_neg (by simp [h1]), if_neg (by simp [h4])] at hr
      obtain ⟨rfl, rfl⟩ := hr
      clear h2 h3 hJ1 hJ2
      obtain ⟨x0, x1, x2, x3, x4, x5, x6, x7, x8, x9, x10, x11, x12, x13, x14, x15, x16, x17, x18, x19, x20, x21, x22, x23, x24, x25, x26, x27, x28, x29, x30, x31, rfl⟩ := list32 h4
      refine CodeP.rounds hT hm 33 ?_
      cbv
      iterate 32
        refine ElemP.mk ⟨of_decide_eq_true rfl, of_decide_eq_true rfl⟩ (fun x hx => ?_)
        cases hx
        cbv
      exact .mk (.cons (.eq (.refl _)) (.cons (.eq (.int rfl)) .nil)) rfl
end Go.Proofs.Ytbmcepkccenoaaa
namespace Go.Proofs.Ytbmcepkccenoaaa
open Go.RowKit

/-! Equality of shares; few shares. -/
theorem bytes_inj (l m : List (BitVec 8)) : (bytesOf u8C l = bytesOf u8C m) ↔ l = m := by
  constructor
  · intro h
    have h2 : l.map (fun x => UInt8.ofNat ((IE.u8 x).den.toNat)) = m.map (fun x => UInt8.ofNat ((IE.u8 x).den.toNat)) := by
      have h3 := congrArg (fun b : ByteArray => b.data.toList) h
      simpa [bytesOf, byteOf] using h3
    have inj : ∀ x y : BitVec 8, UInt8.ofNat ((IE.u8 x).den.toNat) = UInt8.ofNat ((IE.u8 y).den.toNat) → x = y := fun x y e => by
      have h1 := x.isLt
      have h2 := y.isLt
      have h3 := congrArg UInt8.toNat e
      simp only [IE.den, Int.toNat_natCast, UInt8.toNat_ofNat'] at h3
      exact BitVec.eq_of_toNat_eq (by omega)
    exact List.map_inj_right inj |>.1 h2
  · intro h; rw [h]
def sameS (a b : ShareD) : Bool := decide (a.epoch = b.epoch ∧ a.index = b.index ∧ a.threshold = b.threshold ∧ a.many = b.many ∧ a.data = b.data)
set_option maxRecDepth 100000 in
set_option maxHeartbeats 4000000 in
theorem SameShare_pure (a b : ShareD) : Pure Try.prog 24 [.agg a.c, .agg b.c] (boolD (sameS a b)) := by
  obtain ⟨r, hr⟩ : ∃ r, r = sameS a b := ⟨_, rfl⟩
  rw [← hr]
  obtain ⟨ae, ai, at_, am, an, ad⟩ := a
  obtain ⟨be, bi, bt, bm, bn, bd⟩ := b
  simp only [sameS] at hr
  refine Pure.intro (want := [boolD r]) T_ok follows Try.func24 rfl (by kernel_rfl) (rs := [.tmp 4]) rfl (by kernel_rfl) ?_
  generalize hP : Try.prog = P
  have hT : T.ok P := hP ▸ T_ok
  have hm : P.follows .mixedOrders = true := hP ▸ follows
  unfold Try.f24
  dsimp only
  cbv
  refine SplitP.mk (fun h1 => ?_) (fun h1 => ?_) <;> simp only [BE.eql_t, BE.eql_f, IE.var_d] at h1
  · refine SplitP.mk (fun h2 => ?_) (fun h2 => ?_) <;> simp only [BE.eql_t, BE.eql_f, IE.var_d] at h2
    · refine SplitP.mk (fun h3 => ?_) (fun h3 => ?_) <;> simp only [BE.eql_t, BE.eql_f, IE.var_d] at h3
      · refine SplitP.mk (fun h4 => ?_) (fun h4 => ?_) <;> simp only [BE.eql_t, BE.eql_f, IE.var_d] at h4
        · refine ReqP.mk (fun x _ => rfl) (fun _ => ?_)
          refine LetSP.mk (fun s hs => ?_)
          cbv
          refine ReqP.mk (fun x _ => rfl) (fun _ => ?_)
          refine LetSP.mk (fun t ht => ?_)
          cbv
          refine .mk (.cons (.eq (.bool ?_)) .nil) rfl
          show (s == t) = r
          rw [hr]
          have h5 : (s = t) ↔ ad = bd := by rw [hs, ht]; exact bytes_inj ad bd
          by_cases q : ad = bd
          · rw [decide_eq_true ⟨h1, h2, h3, h4, q⟩, h5.2 q]; simp
          · rw [decide_eq_false (fun h => q h.2.2.2.2)]
            exact beq_eq_false_iff_ne.2 fun e => q (h5.1 e)
        · refine .mk (.cons (.eq (.bool ?_)) .nil) rfl
          rw [BE.lit_d, BE.var_d]
          rw [hr]; exact (decide_eq_false (fun h => h4 h.2.2.2.1)).symm
      · refine .mk (.cons (.eq (.bool ?_)) .nil) rfl
        rw [BE.lit_d, BE.var_d]
        rw [hr]; exact (decide_eq_false (fun h => h3 h.2.2.1)).symm
    · refine .mk (.cons (.eq (.bool ?_)) .nil) rfl
      rw [BE.lit_d, BE.var_d]
      rw [hr]; exact (decide_eq_false (fun h => h2 h.2.1)).symm
  · refine .mk (.cons (.eq (.bool ?_)) .nil) rfl
    rw [BE.lit_d, BE.var_d]
    rw [hr]; exact (decide_eq_false (fun h => h1 h.1)).symm
def sameL : List ShareD → List ShareD → Bool
  | [], [] => true
  | a :: l, b :: m => sameS a b && sameL l m
  | _, _ => false
theorem sameL_len : ∀ {l m : List ShareD}, sameL l m = true → l.length = m.length
  | [], [], _ => rfl
  | a :: l, b :: m, h => by
    simp only [sameL, Bool.and_eq_true] at h
    simp [sameL_len h.2]
set_option maxRecDepth 100000 in
set_option maxHeartbeats 4000000 in
theorem SSame_pure (l m : List ShareD) (nb nb' : Option BE) (hl : l.length < 9223372036854775807) : Pure Try.prog 23 [.slm 5 nb ShareD.c l, .slm 5 nb' ShareD.c m] (boolD (sameL l m)) := by
  have hS := SameShare_pure
  obtain ⟨sS, hsS⟩ : ∃ s, s = sameS := ⟨_, rfl⟩
  rw [← hsS] at hS
  obtain ⟨r, hr⟩ : ∃ r, r = sameL l m := ⟨_, rfl⟩
  rw [← hr]
  obtain ⟨n, hn⟩ : ∃ n : Nat, n = l.length := ⟨_, rfl⟩
  refine Pure.intro (want := [boolD r]) T_ok follows Try.func23 rfl (by kernel_rfl) (rs := [.tmp 4]) rfl (by kernel_rfl) ?_
  generalize hP : Try.prog = P at *
  have hT : T.ok P := hP ▸ T_ok
  have hm : P.follows .mixedOrders = true := hP ▸ follows
  unfold Try.f23
  dsimp only
  cbv
  refine SplitP.mk (fun h2 => ?_) (fun h2 => ?_)
  · have h3 : ((l.length : Int) != (m.length : Int)) = true := h2
    have h4 : r = false := by
      cases h5 : r
      · rfl
      · rw [hr] at h5
        have := sameL_len h5
        rw [this] at h3
        simp at h3
    refine .mk (.cons (.eq (.bool ?_)) .nil) rfl
    rw [BE.lit_d, BE.var_d]
    rw [h4]
  have h3 : l.length = m.length := by
    have h3 : ((l.length : Int) != (m.length : Int)) = false := h2
    simp at h3
    omega
  clear h2
  refine CodeP.loopc hT hm (X := Nat) (fun k => [(5, .int .i64 (.nat k))]) (fun k => k ≤ n ∧ r = sameL (l.drop k) (m.drop k)) (fun k => n - k) 0 ⟨by simp, hr⟩ (Nat.zero_le _) ?_ rfl ?_
  · (cbv; (repeat' (first | exact SnD.refl _ | exact trivial | exact SnD.nat0 | refine And.intro ?_ ?_)))
  intro k ⟨hk, hq⟩
  cbv
  refine SplitP.mk (fun hs => ?_) (fun hs => ?_)
  · have hkn : k < l.length := by
      have h5 : decide ((k : Int) < (l.length : Int)) = true := hs
      have := of_decide_eq_true h5
      omega
    clear hs
    refine ElemP.mk (by show (0 : Int) ≤ (k : Int) ∧ (k : Int) < (l.length : Int); omega) (fun x hx => ?_)
    replace hx : l[k]? = some x := hx
    obtain ⟨xe, xi, xt_, xm, xn, xd⟩ := x
    cbv
    refine ElemP.mk (by show (0 : Int) ≤ (k : Int) ∧ (k : Int) < (m.length : Int); omega) (fun y hy => ?_)
    replace hy : m[k]? = some y := hy
    obtain ⟨ye, yi, yt, ym, yn, yd⟩ := y
    rw [drop_cons hx, drop_cons hy] at hq
    simp only [sameL] at hq
    rw [← hsS] at hq
    cbv
    refine PureP.mk _ (hS ⟨xe, xi, xt_, xm, xn, xd⟩ ⟨ye, yi, yt, ym, yn, yd⟩) rfl ?_
    obtain ⟨sb, hsb⟩ : ∃ sb, sb = sS ⟨xe, xi, xt_, xm, xn, xd⟩ ⟨ye, yi, yt, ym, yn, yd⟩ := ⟨_, rfl⟩
    rw [← hsb] at hq ⊢
    cbv
    refine SplitP.mk (fun hs => ?_) (fun hs => ?_) <;> simp only [BE.not_t, BE.not_f, BE.var_d] at hs
    · refine .mk (.cons (.eq (.bool ?_)) .nil) rfl
      rw [BE.lit_d, BE.var_d]
      rw [hq, hs]; rfl
    · refine BackP.intro (k + 1) ⟨by omega, ?_⟩ (by show n - (k + 1) < n - k; omega) ⟨?_, HEnt.refl _, rfl⟩
      · rw [hq, hs, Bool.true_and]
      · (cbv; (repeat' (first | exact SnD.refl _ | exact trivial | exact SnD.nat0 | refine And.intro ?_ ?_)))
        exact .inc (by omega)
  · have hkn : l.length ≤ k := by
      have h5 : decide ((k : Int) < (l.length : Int)) = false := hs
      have := of_decide_eq_false h5
      omega
    clear hs
    refine .mk (.cons (.eq (.bool ?_)) .nil) rfl
    rw [BE.lit_d, BE.var_d]
    rw [hq, List.drop_of_length_le (by omega), List.drop_of_length_le (by omega)]; rfl
def sfewB (l : List ShareD) : Bool := l.all (fun s => decide (s.data.length ≤ 70)) && decide (l.length ≤ 10)
set_option maxRecDepth 100000 in
set_option maxHeartbeats 4000000 in
theorem SFew_pure (l : List ShareD) (nb : Option BE) (hl : l.length ≤ 9223372036854775807) : Pure Try.prog 16 [.slm 5 nb ShareD.c l] (boolD (sfewB l)) := by
  obtain ⟨r, hr⟩ : ∃ r, r = sfewB l := ⟨_, rfl⟩
  rw [← hr]
  obtain ⟨n, hn⟩ : ∃ n : Nat, n = l.length := ⟨_, rfl⟩
  unfold sfewB at hr
  rw [← hn] at hr
  refine Pure.intro (want := [boolD r]) T_ok follows Try.func16 rfl (by kernel_rfl) (rs := [.tmp 2]) rfl (by kernel_rfl) ?_
  generalize hP : Try.prog = P
  have hT : T.ok P := hP ▸ T_ok
  have hm : P.follows .mixedOrders = true := hP ▸ follows
  unfold Try.f16
  dsimp only
  cbv
  refine CodeP.loopc hT hm (X := Nat) (fun k => [(3, .int .i64 (.nat k))]) (fun k => k ≤ n ∧ r = ((l.drop k).all (fun s => decide (s.data.length ≤ 70)) && decide (n ≤ 10))) (fun k => n - k) 0 ⟨by simp, hr⟩ (Nat.zero_le _) ?_ rfl ?_
  · (cbv; (repeat' (first | exact SnD.refl _ | exact trivial | exact SnD.nat0 | refine And.intro ?_ ?_)))
  intro k ⟨hk, hq⟩
  cbv
  refine SplitP.mk (fun hs => ?_) (fun hs => ?_)
  · have hkn : k < l.length := by
      have h5 : decide ((k : Int) < (l.length : Int)) = true := hs
      have := of_decide_eq_true h5
      omega
    clear hs
    refine ElemP.mk (by show (0 : Int) ≤ (k : Int) ∧ (k : Int) < (l.length : Int); omega) (fun x hx => ?_)
    replace hx : l[k]? = some x := hx
    rw [drop_cons hx, List.all_cons] at hq
    obtain ⟨xe, xi, xt_, xm, xn, xd⟩ := x
    cbv
    refine SplitP.mk (fun hs => ?_) (fun hs => ?_)
    · have h1 := of_decide_eq_true (show decide ((xd.length : Int) > 70) = true from hs)
      have h2 : decide (xd.length ≤ 70) = false := decide_eq_false (by omega)
      refine .mk (.cons (.eq (.bool ?_)) .nil) rfl
      rw [BE.lit_d, BE.var_d]
      rw [hq, h2]; rfl
    · have h1 := of_decide_eq_false (show decide ((xd.length : Int) > 70) = false from hs)
      have h2 : decide (xd.length ≤ 70) = true := decide_eq_true (by omega)
      refine BackP.intro (k + 1) ⟨by omega, ?_⟩ (by show n - (k + 1) < n - k; omega) ⟨?_, HEnt.refl _, rfl⟩
      · rw [hq, h2, Bool.true_and]
      · (cbv; (repeat' (first | exact SnD.refl _ | exact trivial | exact SnD.nat0 | refine And.intro ?_ ?_)))
        exact .inc (by omega)
  · have hkn : l.length ≤ k := by
      have h5 : decide ((k : Int) < (l.length : Int)) = false := hs
      have := of_decide_eq_false h5
      omega
    clear hs
    refine .mk (.cons (.eq (.bool ?_)) .nil) rfl
    show decide ((l.length : Int) ≤ 10) = r
    rw [hq, List.drop_of_length_le (by omega), List.all_nil, Bool.true_and, hn]
    exact decide_eq_decide.2 (by omega)
end Go.Proofs.Ytbmcepkccenoaaa
namespace Go.Proofs.Ytbmcepkccenoaaa
open Go.RowKit

/-! What a vote says. -/
theorem vote_bad {f : FenceD} {vs : List VoteD} {dv : Int} (h : (voteP f vs dv).2 ≠ 0) : (voteP f vs dv).1 = zeroF := by
  unfold voteP at h ⊢
  split
  · rfl
  · split
    · rfl
    · next q1 q2 =>
      rw [if_neg q1, if_neg q2] at h
      exact absurd rfl h
theorem vote_ok {f : FenceD} {vs : List VoteD} {dv : Int} (h : (voteP f vs dv).2 = 0) :
    fvalidB f dv = true ∧ f.no ≠ 1048576 ∧ ∃ a, outsR f dv vs dv.toNat = [a] ∧ freeB f dv a = true ∧ dv - f.devices.length - 1 < 2 * (agK f dv vs a vs.length : Int) ∧ (voteP f vs dv).1 = ⟨f.no + 1, false, joinR f a dv.toNat⟩ := by
  unfold voteP at h ⊢
  split at h
  · cases h
  · split at h
    · cases h
    · next h1 h2 =>
      have hv : fvalidB f dv = true := by
        cases h : fvalidB f dv with
        | true => rfl
        | false => exact absurd (.inl h) h1
      have hd : 1 ≤ dv ∧ dv ≤ 4 := by
        have hv' := hv
        unfold fvalidB at hv'
        simp only [Bool.and_eq_true, decide_eq_true_eq] at hv'
        omega
      have e : outsV f vs dv = outsR f dv vs dv.toNat := by
        unfold outsV
        rw [Int.min_eq_left hd.2]
        exact outs_eq hv vs _
      rw [e] at h2
      obtain ⟨a, ha⟩ : ∃ a, outsR f dv vs dv.toNat = [a] := by
        match h : outsR f dv vs dv.toNat, h2 with
        | [a], _ => exact ⟨a, rfl⟩
        | [], h2 => exact absurd (by decide) h2
        | _ :: _ :: _, h2 => exact absurd (by simp) h2
      have hf := outsR_mem (k := dv.toNat) (a := a) (by rw [ha]; simp)
      obtain ⟨k1, _⟩ := chk_get hv hf.1
      refine ⟨hv, fun q => h1 (.inr q), a, ha, hf.1, hf.2, ?_⟩
      rw [if_neg h1, e, if_neg h2, ha, k1]
theorem inc_get {dv : Int} : ∀ {l : List Int} {last : Int}, incFrom dv last l = true → (∀ (k : Nat) d, l[k]? = some d → last < d ∧ d < dv) ∧ ∀ (k : Nat) c d, l[k]? = some c → l[k + 1]? = some d → c < d
  | [], _, _ => ⟨fun k d h => by simp at h, fun k c d h => by simp at h⟩
  | x :: l, last, h => by
    simp only [incFrom, Bool.and_eq_true, decide_eq_true_eq] at h
    obtain ⟨h1, h2⟩ := inc_get h.2
    refine ⟨fun k d hd => ?_, fun k c d hc hd => ?_⟩
    · cases k with
      | zero => simp at hd; subst hd; exact h.1
      | succ k => have := h1 k d (by simpa using hd); omega
    · cases k with
      | zero =>
        simp at hc
        subst hc
        exact (h1 0 d (by simpa using hd)).1
      | succ k => exact h2 k c d (by simpa using hc) (by simpa using hd)
theorem take_mem {l : List Int} {k : Nat} {d a : Int} (h : l[k]? = some d) : a ∈ l.take (k + 1) ↔ a ∈ l.take k ∨ a = d := by
  rw [List.take_add_one, h]
  simp
theorem nodup_le {l m : List Int} (hl : l.Nodup) (h : ∀ x ∈ l, x ∈ m) : l.length ≤ m.length := by
  induction l generalizing m with
  | nil => simp
  | cons a l ih =>
    rw [List.nodup_cons] at hl
    have ha := h a (by simp)
    have := ih (m := m.erase a) hl.2 fun x hx => (List.mem_erase_of_ne (fun e : x = a => hl.1 (by rw [← e]; exact hx))).2 (h x (by simp [hx]))
    rw [List.length_erase_of_mem ha] at this
    have := List.length_pos_of_mem ha
    simp
    omega
/-- the votes that the majority counts -/
def majB (f : FenceD) (dv a : Int) (v : VoteD) : Bool := decide (v.device = a ∧ v.no = inc64 f.no ∧ v.by_ ≠ a ∧ 0 ≤ v.by_ ∧ v.by_ < dv ∧ ¬ v.by_ ∈ f.devices)
theorem maj_len {f : FenceD} {dv : Int} (hd : dv ≤ 4) {a : Int} {vs : List VoteD} {S : List Int} (h : ∀ v ∈ vs, majB f dv a v = true → v.by_ ∈ S) : agK f dv vs a vs.length ≤ S.length := by
  have h3 := bys_ag f dv hd vs a vs.length (Nat.le_refl _)
  rw [List.take_length] at h3
  rw [← h3]
  have hnd := pickL_nodup (goodC f dv) [] vs
  refine nodup_le ?_ fun x hx => ?_
  · unfold bysD
    exact hnd.sublist (List.filter_sublist.map _)
  · unfold bysD at hx
    obtain ⟨v, h1, rfl⟩ := List.mem_map.1 hx
    obtain ⟨h2, h4⟩ := List.mem_filter.1 h1
    simp only [decide_eq_true_eq] at h4
    obtain ⟨h5, h6, _⟩ := pickL_mem h2
    refine h v h5 ?_
    unfold goodC freeC at h6
    simp only [Bool.and_eq_true, decide_eq_true_eq, Bool.not_eq_true', decide_eq_false_iff_not] at h6
    unfold majB
    simp only [decide_eq_true_eq]
    refine ⟨h4, h6.1, fun e => h6.2.1 (by rw [e, h4]), h6.2.2.1.1, by omega, h6.2.2.1.2.2⟩
end Go.Proofs.Ytbmcepkccenoaaa
namespace Go.Proofs.Ytbmcepkccenoaaa
open Go.RowKit

/-! The order of the votes, one of each device. -/
theorem pick_filter (g : VoteD → Bool) : ∀ (l : List VoteD) (S : List Int), (l.map (·.by_)).Nodup → (∀ v ∈ l, ¬ v.by_ ∈ S) → pickL g S l = l.filter g
  | [], _, _, _ => rfl
  | x :: l, S, h, hS => by
    rw [List.map_cons, List.nodup_cons] at h
    simp only [pickL]
    rw [decide_eq_false (hS x (by simp))]
    by_cases q : g x = true
    · rw [if_pos (by simp [q]), List.filter_cons_of_pos q, pick_filter g l _ h.2 fun v hv => ?_]
      intro hm
      rcases List.mem_cons.1 hm with e | hm
      · exact h.1 (List.mem_map.2 ⟨v, hv, e⟩)
      · exact hS v (by simp [hv]) hm
    · rw [if_neg (by simp [q]), List.filter_cons_of_neg q, pick_filter g l _ h.2 fun v hv => hS v (by simp [hv])]
theorem ag_rev {f : FenceD} {dv : Int} (hd : dv ≤ 4) {vs : List VoteD} (h : (vs.map (·.by_)).Nodup) (d : Int) : agK f dv vs.reverse d vs.reverse.length = agK f dv vs d vs.length := by
  have h1 := bys_ag f dv hd vs d vs.length (Nat.le_refl _)
  have h2 := bys_ag f dv hd vs.reverse d vs.reverse.length (Nat.le_refl _)
  rw [List.take_length] at h1 h2
  rw [← h1, ← h2, pick_filter _ vs [] h (fun v _ => by simp), pick_filter _ vs.reverse [] (by rw [List.map_reverse]; exact List.pairwise_reverse.2 (List.Pairwise.imp (fun h => Ne.symm h) h)) (fun v _ => by simp)]
  unfold bysD
  rw [List.length_map, List.length_map, List.filter_reverse, List.filter_reverse, List.length_reverse]
theorem outsR_rev {f : FenceD} {dv : Int} (hd : dv ≤ 4) {vs : List VoteD} (h : (vs.map (·.by_)).Nodup) : ∀ k, outsR f dv vs.reverse k = outsR f dv vs k
  | 0 => rfl
  | k + 1 => by
    simp only [outsR]
    rw [outsR_rev hd h k, ag_rev hd h]
theorem vote_congr {f : FenceD} {dv : Int} {vs ws : List VoteD} (h : fvalidB f dv = true → outsR f dv vs dv.toNat = outsR f dv ws dv.toNat) : voteP f vs dv = voteP f ws dv := by
  unfold voteP
  by_cases h1 : fvalidB f dv = false ∨ f.no = 1048576
  · rw [if_pos h1, if_pos h1]
  · have hv : fvalidB f dv = true := by
      cases h : fvalidB f dv with
      | true => rfl
      | false => exact absurd (.inl h) h1
    have hd : 1 ≤ dv ∧ dv ≤ 4 := by
      have hv' := hv
      unfold fvalidB at hv'
      simp only [Bool.and_eq_true, decide_eq_true_eq] at hv'
      omega
    have e : ∀ vs, outsV f vs dv = outsR f dv vs dv.toNat := fun vs => by
      unfold outsV
      rw [Int.min_eq_left hd.2]
      exact outs_eq hv vs _
    rw [e, e, h hv]
theorem vote_rev {f : FenceD} {dv : Int} {vs : List VoteD} (h : (vs.map (·.by_)).Nodup) : voteP f vs.reverse dv = voteP f vs dv :=
  vote_congr fun hv => outsR_rev (by
    unfold fvalidB at hv
    simp only [Bool.and_eq_true, decide_eq_true_eq] at hv
    omega) h _
theorem nodup_of {vs : List VoteD} (h : ∀ (i j : Nat) u v, j < i → vs[i]? = some v → vs[j]? = some u → u.by_ ≠ v.by_) : (vs.map (·.by_)).Nodup := by
  rw [List.nodup_iff_pairwise_ne, List.pairwise_iff_getElem]
  intro i j hi hj hij
  simp only [List.length_map] at hi hj
  simp only [List.getElem_map]
  exact h j i _ _ hij (List.getElem?_eq_getElem hj) (List.getElem?_eq_getElem hi)
theorem sameB_refl (a : FenceD) : sameB a a = true := by simp [sameB]
theorem vote_devs (f : FenceD) (vs : List VoteD) (dv : Int) (h : f.devices.length ≤ 10) : (voteP f vs dv).1.devices.length < 100 := by
  unfold voteP
  split
  · simp [zeroF]
  · split
    · simp [zeroF]
    · next q =>
      simp only [sortI, List.length_mergeSort, List.length_append]
      omega
end Go.Proofs.Ytbmcepkccenoaaa
namespace Go.Proofs.Ytbmcepkccenoaaa
open Go.RowKit

/-! Votes that do not count. -/
theorem inc64_ne (x : Int) : x ≠ inc64 x := by
  unfold inc64
  simp only [IntKind.wrap, IntKind.signed, IntKind.bits]
  intro h
  simp at h
  omega
theorem vote_snoc {f : FenceD} {dv : Int} {vs : List VoteD} {v : VoteD} (h : goodC f dv v = false) : voteP f (vs ++ [v]) dv = voteP f vs dv := by
  have e : outsV f (vs ++ [v]) dv = outsV f vs dv := by
    unfold outsV
    rw [pickL_snoc, h]
    simp
  unfold voteP
  rw [e]
theorem good_old (f : FenceD) (dv b d : Int) : goodC f dv ⟨b, d, f.no⟩ = false := by
  unfold goodC
  simp only
  rw [decide_eq_false (inc64_ne f.no), Bool.false_and]
theorem good_now {f : FenceD} {dv b d n : Int} (h : b ∈ f.devices ∨ d ∈ f.devices ∨ b = d) : goodC f dv ⟨b, d, n⟩ = false := by
  unfold goodC freeC
  rcases h with h | h | h
  · rw [decide_eq_false (p := 0 ≤ b ∧ b < min dv 4 ∧ ¬ b ∈ f.devices) (fun q => q.2.2 h)]
    simp
  · rw [decide_eq_false (p := 0 ≤ d ∧ d < min dv 4 ∧ ¬ d ∈ f.devices) (fun q => q.2.2 h)]
    simp
  · simp [h]
theorem vote_one {f : FenceD} {dv : Int} {v : VoteD} (h : (voteP f [v] dv).2 = 0) : 1 ≤ dv ∧ dv ≤ 4 ∧ dv - f.devices.length - 1 ≤ 1 := by
  obtain ⟨h1, _, a, _, _, h5, _⟩ := vote_ok h
  unfold fvalidB at h1
  simp only [Bool.and_eq_true, decide_eq_true_eq] at h1
  have := agK_le f dv [v] a [v].length
  simp only [List.length_singleton] at this h5
  omega
theorem snocD (vs : List VoteD) {e e' : List D} (h : DsEq e e') : DEq (.sll 3 (vs.map VoteD.c ++ [e])) (.sll 3 (vs.map VoteD.c ++ [e'])) := by
  obtain ⟨hl, hd⟩ := h.get
  refine .slls (by simp) (fun i a b h1 h2 => ?_) fun i a b h1 h2 j d d' h3 h4 => ?_
  · rcases Nat.lt_or_ge i (vs.map VoteD.c).length with q | q
    · rw [List.getElem?_append_left q] at h1 h2
      rw [h1] at h2
      cases h2
      rfl
    · rw [List.getElem?_append_right q] at h1 h2
      have q2 : i - (vs.map VoteD.c).length = 0 := by
        have := (List.getElem?_eq_some_iff.1 h1).1
        simp at this ⊢
        omega
      rw [q2] at h1 h2
      cases h1
      cases h2
      exact hl
  · rcases Nat.lt_or_ge i (vs.map VoteD.c).length with q | q
    · rw [List.getElem?_append_left q] at h1 h2
      rw [h1] at h2
      cases h2
      rw [h3] at h4
      cases h4
      exact .refl _
    · rw [List.getElem?_append_right q] at h1 h2
      have q2 : i - (vs.map VoteD.c).length = 0 := by
        have := (List.getElem?_eq_some_iff.1 h1).1
        simp at this ⊢
        omega
      rw [q2] at h1 h2
      cases h1
      cases h2
      exact hd j d d' h3 h4
end Go.Proofs.Ytbmcepkccenoaaa
