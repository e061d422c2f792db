/- Part 4 of the walks and laws that these claims rest on. No condition. -/
import Derived.Shelf.Sort.Plain
import Derived.ProofKit
import Derived.OpenShut
import Derived.ShutString
import Derived.ChangeOld
import Derived.Test.YtbmcepkccenoaaaPart3
set_option linter.all false
set_option linter.unusedSimpArgs false
set_option linter.unusedVariables false
set_option linter.unnecessarySimpa false
namespace Go.Proofs.Ytbmcepkccenoaaa
open Go.RowKit

/-! The reference's Join; equality of shares; few shares. -/
set_option maxRecDepth 100000 in
set_option maxHeartbeats 4000000 in
theorem points_pure (l : List ShareD) (nb : Option BE) (p : Nat) (hl : l.length ≤ 100000) (hp : ∀ s ∈ l, p < s.data.length) : Pure Try.prog 63 [.slm 5 nb ShareD.c l, .int .i64 (.nat p)] (.tup [.slm 1 none u8C (idxL l), .slm 1 none u8C (colL l p)]) := by
  obtain ⟨r1, hr1⟩ : ∃ res, res = idxL l := ⟨_, rfl⟩
  obtain ⟨r2, hr2⟩ : ∃ res, res = colL l p := ⟨_, rfl⟩
  rw [← hr1, ← hr2]
  obtain ⟨n, hn⟩ : ∃ n : Nat, n = l.length := ⟨_, rfl⟩
  refine Pure.intro (want := [.slm 1 none u8C r1, .slm 1 none u8C r2]) T_ok follows Try.func63 rfl (by kernel_rfl) (rs := [.tmp 4, .tmp 5]) rfl (by kernel_rfl) ?_
  generalize hP : Try.prog = P
  have hT : T.ok P := hP ▸ T_ok
  have hm : P.follows .mixedOrders = true := hP ▸ follows
  unfold Try.f63
  dsimp only
  cbv
  refine CodeP.virt 6 5 1 rfl ?_
  refine CodeP.virt 7 5 1 rfl ?_
  refine CodeP.loopm hT hm (X := Nat × List (BitVec 8) × List (BitVec 8)) (fun x => [(8, .int .i64 (.nat x.1)), (6, .osl 1 0 (x.1 + 1) (.cmp .eql (.nat x.1) (.lit 0)) (.lit 0) (.nat x.1)), (7, .osl 1 1 (x.1 + 1) (.cmp .eql (.nat x.1) (.lit 0)) (.lit 0) (.nat x.1))])
    (fun x => [.row 5 1 (x.1 + 1) (.map u8C x.2.1), .row 5 1 (x.1 + 1) (.map u8C x.2.2)]) (fun x => x.1 ≤ n ∧ x.2.1 = idxL (l.take x.1) ∧ x.2.2 = colL (l.take x.1) p) (fun x => n - x.1) (0, [], []) ⟨by simp, rfl, rfl⟩ (fun _ => Nat.zero_le _) ⟨?_, ?_, rfl⟩ ?_
  · (cbv; (repeat' (first | exact SnD.refl _ | exact trivial | exact SnD.nat0 | refine And.intro ?_ ?_)))
    · exact osl_start
    · exact osl_start
  · (cbv; (repeat' (first | exact trivial | exact BkEq.refl _ | exact SnD.refl _ | exact SnDs.nil | refine BkEq.cells ?_ | refine SnDs.cons ?_ ?_ | refine And.intro ?_ ?_)))
    · exact .row rfl
    · exact .row rfl
  intro ⟨k, c1, c2⟩ ⟨hk, hc1, hc2⟩
  replace hk : k ≤ n := hk
  replace hc1 : c1 = idxL (l.take k) := hc1
  replace hc2 : c2 = colL (l.take k) p := hc2
  cbv
  have hl1 : c1.length = k := by rw [hc1]; simp [idxL]; omega
  have hl2 : c2.length = k := by rw [hc2]; simp [colL]; omega
  refine SplitP.mk (fun hs => ?_) (fun hs => ?_)
  · have hkn : k < l.length := by
      have h5 : decide ((k : Int) < (l.length : Int)) = true := hs
      have := of_decide_eq_true h5
      omega
    clear hs
    refine ElemP.mk (by show (0 : Int) ≤ (k : Int) ∧ (k : Int) < (l.length : Int); omega) (fun s hx => ?_)
    replace hx : l[k]? = some s := hx
    have hps := hp s (List.mem_of_getElem? hx)
    obtain ⟨e, i, t, m, nl, d⟩ := s
    simp only at hps
    cbv
    refine ReqP.mk (app_ok hl1 (by omega) (fun _ => rfl) rfl (by decide)) (fun _ => ?_)
    cbv
    refine ElemP.mk (by show (0 : Int) ≤ (k : Int) ∧ (k : Int) < (l.length : Int); omega) (fun s' hx' => ?_)
    replace hx' : l[k]? = some s' := hx'
    rw [hx] at hx'
    simp only [Option.some.injEq] at hx'
    subst hx'
    cbv
    refine ElemP.mk (by show (0 : Int) ≤ (p : Int) ∧ (p : Int) < (d.length : Int); omega) (fun z hz => ?_)
    replace hz : d[p]? = some z := hz
    cbv
    refine ReqP.mk (app_ok hl2 (by omega) (fun _ => rfl) rfl (by decide)) (fun _ => ?_)
    cbv
    obtain ⟨d1, hd1⟩ : ∃ cur', cur' = c1 ++ [BitVec.ofInt 8 i] := ⟨_, rfl⟩
    obtain ⟨d2, hd2⟩ : ∃ cur', cur' = c2 ++ [z] := ⟨_, rfl⟩
    refine BackP.intro (k + 1, d1, d2) ⟨by show k + 1 ≤ n; omega, ?_, ?_⟩ (by show n - (k + 1) < n - k; omega) ⟨?_, ?_, rfl⟩
    · show d1 = idxL (l.take (k + 1))
      rw [hd1, hc1, List.take_add_one, hx]
      simp [idxL]
    · show d2 = colL (l.take (k + 1)) p
      rw [hd2, hc2, List.take_add_one, hx]
      simp [colL, hz]
    · (cbv; (repeat' (first | exact SnD.refl _ | exact trivial | exact SnD.nat0 | refine And.intro ?_ ?_)))
      · exact .inc (by omega)
      · exact osl_step k
      · exact osl_step k
    · (cbv; (repeat' (first | exact trivial | exact BkEq.refl _ | exact SnD.refl _ | exact SnDs.nil | refine BkEq.cells ?_ | refine SnDs.cons ?_ ?_ | refine And.intro ?_ ?_)))
      · exact row_app (BitVec.ofInt 8 i) hd1 (.cons (.byte (conv8 i)) .nil)
      · exact row_app z hd2 (.cons (.refl _) .nil)
  · have hkn : l.length ≤ k := by
      have h5 : decide ((k : Int) < (l.length : Int)) = false := hs
      have := of_decide_eq_false h5
      omega
    clear hs
    have hk2 : k = l.length := by omega
    refine .mk (.cons (.slm rfl (.inl ⟨_, _, rfl, ?_⟩) rfl ?_ (fun e h => by cases h)) (.cons (.slm rfl (.inl ⟨_, _, rfl, ?_⟩) rfl ?_ (fun e h => by cases h)) .nil)) rfl
    · show c1.map u8C = r1.map u8C
      rw [hc1, hk2, List.take_length, hr1]
    · show (k : Int) = (r1.length : Int)
      rw [hr1, ← hl1, hc1, hk2, List.take_length]
    · show c2.map u8C = r2.map u8C
      rw [hc2, hk2, List.take_length, hr2]
    · show (k : Int) = (r2.length : Int)
      rw [hr2, ← hl2, hc2, hk2, List.take_length]
set_option maxRecDepth 100000 in
set_option maxHeartbeats 4000000 in
theorem RThru_pure {a b : ShareD} (h : chkB [a, b] = 0) (h2 : ¬ 2 < a.threshold) (p : Nat) : Pure Try.prog 64 [.slm 1 none u8C (idxL (js a b)), .slm 1 none u8C (colL (js a b) p), .int .u8 (.lit 0)] (.tup [u8D (thru (js a b) p), .int .i64 (.lit 0)]) := by
  obtain ⟨k1, k2, k3, k4, k5, k6⟩ := chk_two h
  rcases js_cases (b := b) k1 h2 with ⟨_, e⟩ | ⟨_, e⟩
  · rw [e]
    exact Pure.args (.cons (.lls rfl (by simp [idxL])) (.cons (.lls rfl (by simp [colL])) (.cons (.refl _) .nil))) (RThrough1_pure (xi a) (a.data.getD p 0))
  · rw [e]
    exact Pure.args (.cons (.lls rfl (by simp [idxL])) (.cons (.lls rfl (by simp [colL])) (.cons (.refl _) .nil))) (RThrough2_pure (xi a) (xi b) (a.data.getD p 0) (b.data.getD p 0) (xi_ne k4 k5 k6))
set_option maxRecDepth 100000 in
set_option maxHeartbeats 4000000 in
theorem RJoin_pure (a b : ShareD) (nb : Option BE) : Pure Try.prog 42 [.slm 5 nb ShareD.c [a, b]] (.tup [.slm 1 none u8C (joinL a b), i64 (joinE a b)]) := by
  have hC := RCheck_pure [a, b] nb (by simp)
  obtain ⟨e0, he0⟩ : ∃ e, e = chkB [a, b] := ⟨_, rfl⟩
  rw [← he0] at hC
  obtain ⟨rl, hrl⟩ : ∃ r, r = joinL a b := ⟨_, rfl⟩
  obtain ⟨re, hre⟩ : ∃ r, r = joinE a b := ⟨_, rfl⟩
  rw [← hrl, ← hre]
  have hTh := fun h h2 p => RThru_pure (a := a) (b := b) h h2 p
  obtain ⟨th, hth⟩ : ∃ th, th = thru (js a b) := ⟨_, rfl⟩
  rw [← hth] at hTh
  obtain ⟨xs, hxs⟩ : ∃ xs, xs = idxL (js a b) := ⟨_, rfl⟩
  rw [← hxs] at hTh
  obtain ⟨cl, hcl⟩ : ∃ cl, cl = colL (js a b) := ⟨_, rfl⟩
  rw [← hcl] at hTh
  have hK := fun (h : ∀ s ∈ js a b, s.data.length = a.data.length) (h2 : (js a b).length ≤ 100000) p (hp : p < a.data.length) => points_pure (js a b) nb p h2 (fun s hs => by rw [h s hs]; exact hp)
  rw [← hcl, ← hxs] at hK
  obtain ⟨ll, hll⟩ : ∃ ll, ll = js a b := ⟨_, rfl⟩
  rw [← hll] at hK
  obtain ⟨ae, ai, at_, am, an, ad⟩ := a
  obtain ⟨be, bi, bt, bm, bn, bd⟩ := b
  obtain ⟨n, hn⟩ : ∃ n : Nat, n = ad.length := ⟨_, rfl⟩
  refine Pure.intro (want := [.slm 1 none u8C rl, i64 re]) T_ok follows Try.func42 rfl (by kernel_rfl) (rs := [.tmp 2, .tmp 3]) rfl (by kernel_rfl) ?_
  generalize hP : Try.prog = P at *
  have hT : T.ok P := hP ▸ T_ok
  have hm : P.follows .mixedOrders = true := hP ▸ follows
  unfold Try.f42
  dsimp only
  cbv
  refine CallP.pure _ hC rfl ?_
  cbv
  have hre0 : re = if e0 = 0 then (if 2 < at_ then 80 else 0) else e0 := by rw [hre, he0]; rfl
  have hrl0 : re ≠ 0 → rl = [] := fun h => by rw [hrl]; unfold joinL; rw [← hre, if_neg h]
  refine SplitP.mk (fun hs => ?_) (fun hs => ?_) <;> simp only [BE.neq_t, BE.neq_f, IE.var_d, IE.lit_d] at hs
  · rw [if_neg hs] at hre0
    exact .mk (.cons (.eq (.nil0 (hrl0 (by rw [hre0]; exact hs)))) (.cons (.eq (.int hre0.symm)) .nil)) rfl
  rw [if_pos hs] at hre0
  have hchk : chkB [⟨ae, ai, at_, am, an, ad⟩, ⟨be, bi, bt, bm, bn, bd⟩] = 0 := by rw [← he0, hs]
  refine ElemP.mk (by show (0 : Int) ≤ 0 ∧ (0 : Int) < ((2 : Nat) : Int); omega) (fun f hf => ?_)
  replace hf : some (⟨ae, ai, at_, am, an, ad⟩ : ShareD) = some f := hf
  simp only [Option.some.injEq] at hf
  subst hf
  cbv
  refine SplitP.mk (fun hs2 => ?_) (fun hs2 => ?_)
  · have h2 : decide (((2 : Nat) : Int) < at_) = true := hs2
    have h3 := of_decide_eq_true h2
    rw [if_pos (by omega)] at hre0
    exact .mk (.cons (.eq (.nil0 (hrl0 (by rw [hre0]; decide)))) (.cons (.eq (.int hre0.symm)) .nil)) rfl
  have ht2 : ¬ 2 < at_ := by
    have h2 : decide (((2 : Nat) : Int) < at_) = false := hs2
    have h3 := of_decide_eq_false h2
    omega
  rw [if_neg ht2] at hre0
  clear hs2
  obtain ⟨k1, k2, k3, k4, k5, k6⟩ := chk_two hchk
  simp only at k1 k2 k3 k4 k5 k6
  have hlen : ll.length ≤ 100000 := by rw [hll]; unfold js; simp; omega
  have hall : ∀ s ∈ ll, s.data.length = ad.length := fun s hs' => by
    rw [hll] at hs'
    have := List.mem_of_mem_take hs'
    simp at this
    rcases this with rfl | rfl
    · rfl
    · exact k3
  replace hK := hK hall hlen
  replace hTh := hTh hchk ht2
  refine CodeP.virt 5 5 1 rfl ?_
  refine CodeP.loopm hT hm (X := Nat × List (BitVec 8)) (fun x => [(6, .int .i64 (.nat x.1)), (5, .osl 1 0 (x.1 + 1) (.cmp .eql (.nat x.1) (.lit 0)) (.lit 0) (.nat x.1))]) (fun x => [.row 5 1 (x.1 + 1) (.map u8C x.2)]) (fun x => x.1 ≤ n ∧ x.2 = (List.range x.1).map th) (fun x => n - x.1) (0, []) ⟨by simp, rfl⟩ (fun _ => Nat.zero_le _) ⟨?_, ?_, rfl⟩ ?_
  · (cbv; (repeat' (first | exact SnD.refl _ | exact trivial | exact SnD.nat0 | refine And.intro ?_ ?_)))
    exact osl_start
  · (cbv; (repeat' (first | exact trivial | exact BkEq.refl _ | exact SnD.refl _ | exact SnDs.nil | refine BkEq.cells ?_ | refine SnDs.cons ?_ ?_ | refine And.intro ?_ ?_)))
    exact .row rfl
  intro ⟨k, cur⟩ ⟨hk, hc⟩
  replace hk : k ≤ n := hk
  replace hc : cur = (List.range k).map th := hc
  cbv
  have hcl2 : cur.length = k := by rw [hc]; simp
  refine ElemP.mk (by show (0 : Int) ≤ 0 ∧ (0 : Int) < ((2 : Nat) : Int); omega) (fun f hf => ?_)
  replace hf : some (⟨ae, ai, at_, am, an, ad⟩ : ShareD) = some f := hf
  simp only [Option.some.injEq] at hf
  subst hf
  cbv
  refine SplitP.mk (fun hs => ?_) (fun hs => ?_)
  · have hkn : k < ad.length := by
      have h5 : decide ((k : Int) < (ad.length : Int)) = true := hs
      have := of_decide_eq_true h5
      omega
    clear hs
    refine ElemP.mk (by show (0 : Int) ≤ 0 ∧ (0 : Int) < ((2 : Nat) : Int); omega) (fun f hf => ?_)
    replace hf : some (⟨ae, ai, at_, am, an, ad⟩ : ShareD) = some f := hf
    simp only [Option.some.injEq] at hf
    subst hf
    cbv
    refine ReqP.mk (by show 0 ≤ (0 : Int) ∧ (0 : Int) ≤ at_ ∧ at_ ≤ ((2 : Nat) : Int) ∧ ((2 : Nat) : Int) ≤ ((2 : Nat) : Int) ∧ _; exact ⟨by omega, by omega, by omega, by omega, fun h => by cases h⟩) (fun _ => ?_)
    refine LetP.mk (fun l' hl' => ?_)
    have hl2 : l' = ll := by rw [hl', hll]; rfl
    rw [hl2]
    clear hl' hl2
    cbv
    refine CallP.pure _ (hK k hkn) rfl ?_
    cbv
    refine CallP.pure _ (hTh k) rfl ?_
    cbv
    refine ReqP.mk (app_ok hcl2 (by omega) (fun _ => rfl) rfl (by decide)) (fun _ => ?_)
    cbv
    obtain ⟨cur', hcur'⟩ : ∃ cur', cur' = cur ++ [th k] := ⟨_, rfl⟩
    refine BackP.intro (k + 1, cur') ⟨by show k + 1 ≤ n; omega, ?_⟩ (by show n - (k + 1) < n - k; omega) ⟨?_, ?_, rfl⟩
    · show cur' = (List.range (k + 1)).map th
      rw [hcur', hc, List.range_succ]
      simp
    · (cbv; (repeat' (first | exact SnD.refl _ | exact trivial | exact SnD.nat0 | refine And.intro ?_ ?_)))
      · exact .inc (by omega)
      · exact osl_step k
    · (cbv; (repeat' (first | exact trivial | exact BkEq.refl _ | exact SnD.refl _ | exact SnDs.nil | refine BkEq.cells ?_ | refine SnDs.cons ?_ ?_ | refine And.intro ?_ ?_)))
      exact row_app (th k) hcur' (.cons (.refl _) .nil)
  · have hkn : ad.length ≤ k := by
      have h5 : decide ((k : Int) < (ad.length : Int)) = false := hs
      have := of_decide_eq_false h5
      omega
    clear hs
    have hk2 : k = ad.length := by omega
    have hrl1 : rl = (List.range ad.length).map th := by
      rw [hrl]
      unfold joinL
      rw [← hre, if_pos hre0, hth]
    refine .mk (.cons (.slm rfl (.inl ⟨_, _, rfl, ?_⟩) rfl ?_ (fun e h => by cases h)) (.cons (.eq (.int ?_)) .nil)) rfl
    · show cur.map u8C = rl.map u8C
      rw [hc, hk2, hrl1]
    · show (k : Int) = (rl.length : Int)
      rw [hrl1]; simp [hk2]
    · rw [IE.lit_d, IE.var_d, hre0]
end Go.Proofs.Ytbmcepkccenoaaa
namespace Go.Proofs.Ytbmcepkccenoaaa
open Go.RowKit

/-! fence.Seed. -/
def seedOf (e : Int) (l : List (BitVec 8)) : List (BitVec 8) × Int := if e ≠ 0 then (List.replicate 32 0, e) else if l.length ≠ 32 then (List.replicate 32 0, 1) else (l, 0)
def seedP (a b : ShareD) : List (BitVec 8) × Int := if b.index < a.index then seedOf (joinE b a) (joinL b a) else seedOf (joinE a b) (joinL a b)
theorem two_mem {α : Type 1} {p : α → Prop} {a b e : α} (ha : p a) (hb : p b) (h : e ∈ [a, b]) : p e := by
  simp only [List.mem_cons, List.not_mem_nil, or_false] at h
  rcases h with rfl | rfl
  · exact ha
  · exact hb
theorem snds_rep {H H' : List Bk} {d d' : D} (h : SnD H H' d d') : ∀ n, SnDs H H' (List.replicate n d) (List.replicate n d')
  | 0 => .nil
  | n + 1 => .cons h (snds_rep h n)
theorem zeros_ret {H : List Bk} {ie : IE} {se : Int} {dl : List D} (h : dl = (List.replicate 32 (0 : BitVec 8), ie.den).1.map (fun b => u8D b) ∧ se = (List.replicate 32 (0 : BitVec 8), ie.den).2) : RetP H [.agg (List.replicate 32 (.int .u8 (.lit 0))), .int .i64 ie] [.agg dl, i64 se] := by
  obtain ⟨rfl, rfl⟩ := h
  refine .mk (.cons (.aggs ?_) (.cons (.eq (.int rfl)) .nil)) rfl
  exact snds_rep (.eq (.byte rfl)) 32
set_option maxRecDepth 100000 in
set_option maxHeartbeats 4000000 in
theorem Seed_pure (a b : ShareD) : Pure Try.prog 21 [.agg a.c, .agg b.c] (.tup [.agg ((seedP a b).1.map fun b => u8D b), i64 (seedP a b).2]) := by
  obtain ⟨sl, hsl⟩ : ∃ r, r = (seedP a b).1.map (fun b => u8D b) := ⟨_, rfl⟩
  obtain ⟨se, hse⟩ : ∃ r, r = (seedP a b).2 := ⟨_, rfl⟩
  rw [← hsl, ← hse]
  have hJ1 := Join_pure a b none
  have hJ2 := Join_pure b a none
  obtain ⟨l1, hl1⟩ : ∃ r, r = joinL a b := ⟨_, rfl⟩
  obtain ⟨l2, hl2⟩ : ∃ r, r = joinL b a := ⟨_, rfl⟩
  obtain ⟨e1, he1⟩ : ∃ r, r = joinE a b := ⟨_, rfl⟩
  obtain ⟨e2, he2⟩ : ∃ r, r = joinE b a := ⟨_, rfl⟩
  rw [← hl1, ← he1] at hJ1
  rw [← hl2, ← he2] at hJ2
  have hr : sl = (if b.index < a.index then seedOf e2 l2 else seedOf e1 l1).1.map (fun b => u8D b) ∧ se = (if b.index < a.index then seedOf e2 l2 else seedOf e1 l1).2 := by
    rw [hsl, hse, hl1, hl2, he1, he2]; exact ⟨rfl, rfl⟩
  clear hsl hse hl1 hl2 he1 he2
  obtain ⟨ae, ai, at_, am, an, ad⟩ := a
  obtain ⟨be, bi, bt, bm, bn, bd⟩ := b
  simp only at hr
  refine Pure.intro (want := [.agg sl, i64 se]) T_ok follows Try.func21 rfl (by kernel_rfl) (rs := [.cell 4 35, .tmp 5]) rfl (by kernel_rfl) ?_
  generalize hP : Try.prog = P at *
  have hT : T.ok P := hP ▸ T_ok
  have hm : P.follows .mixedOrders = true := hP ▸ follows
  unfold Try.f21
  dsimp only
  cbv
  refine SplitP.mk (fun hs => ?_) (fun hs => ?_) <;> simp only [BE.lss_t, BE.lss_f, BE.leq_t, BE.leq_f, BE.gtr_t, BE.gtr_f, BE.geq_t, BE.geq_f, BE.eql_t, BE.eql_f, BE.neq_t, BE.neq_f, BE.not_t, BE.not_f, BE.var_d, BE.lit_d, BE.seq_t, BE.seq_f, BE.beq_t, BE.beq_f, IE.var_d, IE.lit_d, IE.nat_d, IE.len_d, IE.sum_d, IE.u8_d, ncast, Int.ofNat_lt, Int.ofNat_le, Int.ofNat_inj] at hs
  · rw [if_pos hs] at hr
    refine CallP.pre [.sll 5 [[.int .i64 (.var be), .int .i64 (.var bi), .int .i64 (.var bt), .int .i64 (.var bm), .slm 1 (some (.var bn)) u8C bd], [.int .i64 (.var ae), .int .i64 (.var ai), .int .i64 (.var at_), .int .i64 (.var am), .slm 1 (some (.var an)) u8C ad]]] [_, _, _, .dead] (.cons (.sll rfl (.inr ⟨rfl, _, rfl, rfl, fun e he => two_mem (p := fun e => e.length = 5 ∧ e.all (D.dataB 5) = true) ⟨rfl, rfl⟩ ⟨rfl, rfl⟩ he⟩) rfl rfl rfl) .nil) ⟨.refl _, .refl _, .refl _, .dead _, trivial⟩ rfl rfl ?_
    refine CallP.pure _ (Pure.args (.cons (.sll rfl (fun e h => by cases h)) .nil) hJ2) rfl ?_
    cbv
    refine SplitP.mk (fun h1 => ?_) (fun h1 => ?_) <;> simp only [BE.neq_t, BE.neq_f, IE.var_d, IE.lit_d] at h1
    · unfold seedOf at hr
      rw [if_pos h1] at hr
      exact zeros_ret (ie := .var e2) hr
    refine SplitP.mk (fun h2 => ?_) (fun h2 => ?_)
    · have h3 : (!decide ((l2.length : Int) = 32)) = true := h2
      have h4 : ¬ l2.length = 32 := fun q => by rw [q] at h3; cases h3
      unfold seedOf at hr
      rw [if_neg (by simp [h1]), if_pos h4] at hr
      exact zeros_ret (ie := .lit 1) hr
    · have h3 : (!decide ((l2.length : Int) = 32)) = false := h2
      have h4 : l2.length = 32 := by
        have h5 : decide ((l2.length : Int) = 32) = true := by simpa using h3
        have := of_decide_eq_true h5
        omega
      unfold seedOf at hr
      rw [if_neg (by simp [h1]), if_neg (by simp [h4])] at hr
      obtain ⟨rfl, rfl⟩ := hr
      clear h2 h3 hJ1 hJ2
      obtain ⟨x0, x1, x2, x3, x4, x5, x6, x7, x8, x9, x10, x11, x12, x13, x14, x15, x16, x17, x18, x19, x20, x21, x22, x23, x24, x25, x26, x27, x28, x29, x30, x31, rfl⟩ := list32 h4
      refine HoldP.mk ⟨rfl, rfl, rfl, rfl, Nat.le_of_eq rfl, map_cells (fun _ => rfl)⟩ ?_
      cbv
      exact .mk (.cons (.eq (.refl _)) (.cons (.eq (.int rfl)) .nil)) rfl
  · rw [if_neg (by omega)] at hr
    refine CallP.pre [.sll 5 [[.int .i64 (.var ae), .int .i64 (.var ai), .int .i64 (.var at_), .int .i64 (.var am), .slm 1 (some (.var an)) u8C ad], [.int .i64 (.var be), .int .i64 (.var bi), .int .i64 (.var bt), .int .i64 (.var bm), .slm 1 (some (.var bn)) u8C bd]]] [_, _, _, .dead] (.cons (.sll rfl (.inr ⟨rfl, _, rfl, rfl, fun e he => two_mem (p := fun e => e.length = 5 ∧ e.all (D.dataB 5) = true) ⟨rfl, rfl⟩ ⟨rfl, rfl⟩ he⟩) rfl rfl rfl) .nil) ⟨.refl _, .refl _, .refl _, .dead _, trivial⟩ rfl rfl ?_
    refine CallP.pure _ (Pure.args (.cons (.sll rfl (fun e h => by cases h)) .nil) hJ1) rfl ?_
    cbv
    refine SplitP.mk (fun h1 => ?_) (fun h1 => ?_) <;> simp only [BE.neq_t, BE.neq_f, IE.var_d, IE.lit_d] at h1
    · unfold seedOf at hr
      rw [if_pos h1] at hr
      exact zeros_ret (ie := .var e1) hr
    refine SplitP.mk (fun h2 => ?_) (fun h2 => ?_)
    · have h3 : (!decide ((l1.length : Int) = 32)) = true := h2
      have h4 : ¬ l1.length = 32 := fun q => by rw [q] at h3; cases h3
      unfold seedOf at hr
      rw [if_neg (by simp [h1]), if_pos h4] at hr
      exact zeros_ret (ie := .lit 1) hr
    · have h3 : (!decide ((l1.length : Int) = 32)) = false := h2
      have h4 : l1.length = 32 := by
        have h5 : decide ((l1.length : Int) = 32) = true := by simpa using h3
        have := of_decide_eq_true h5
        omega
      unfold seedOf at hr
      rw [if_neg (by simp [h1]), if_neg (by simp [h4])] at hr
      obtain ⟨rfl, rfl⟩ := hr
      clear h2 h3 hJ1 hJ2
      obtain ⟨x0, x1, x2, x3, x4, x5, x6, x7, x8, x9, x10, x11, x12, x13, x14, x15, x16, x17, x18, x19, x20, x21, x22, x23, x24, x25, x26, x27, x28, x29, x30, x31, rfl⟩ := list32 h4
      refine HoldP.mk ⟨rfl, rfl, rfl, rfl, Nat.le_of_eq rfl, map_cells (fun _ => rfl)⟩ ?_
      cbv
      exact .mk (.cons (.eq (.refl _)) (.cons (.eq (.int rfl)) .nil)) rfl
end Go.Proofs.Ytbmcepkccenoaaa
namespace Go.Proofs.Ytbmcepkccenoaaa
open Go.RowKit

/-! Equality of shares; few shares. -/
theorem bytes_inj (l m : List (BitVec 8)) : (bytesOf u8C l = bytesOf u8C m) ↔ l = m := by
  constructor
  · intro h
    have h2 : l.map (fun x => UInt8.ofNat ((IE.u8 x).den.toNat)) = m.map (fun x => UInt8.ofNat ((IE.u8 x).den.toNat)) := by
      have h3 := congrArg (fun b : ByteArray => b.data.toList) h
      simpa [bytesOf, byteOf] using h3
    have inj : ∀ x y : BitVec 8, UInt8.ofNat ((IE.u8 x).den.toNat) = UInt8.ofNat ((IE.u8 y).den.toNat) → x = y := fun x y e => by
      have h1 := x.isLt
      have h2 := y.isLt
      have h3 := congrArg UInt8.toNat e
      simp only [IE.den, Int.toNat_natCast, UInt8.toNat_ofNat'] at h3
      exact BitVec.eq_of_toNat_eq (by omega)
    exact List.map_inj_right inj |>.1 h2
  · intro h; rw [h]
def sameS (a b : ShareD) : Bool := decide (a.epoch = b.epoch ∧ a.index = b.index ∧ a.threshold = b.threshold ∧ a.many = b.many ∧ a.data = b.data)
set_option maxRecDepth 100000 in
set_option maxHeartbeats 4000000 in
theorem SameShare_pure (a b : ShareD) : Pure Try.prog 24 [.agg a.c, .agg b.c] (boolD (sameS a b)) := by
  obtain ⟨r, hr⟩ : ∃ r, r = sameS a b := ⟨_, rfl⟩
  rw [← hr]
  obtain ⟨ae, ai, at_, am, an, ad⟩ := a
  obtain ⟨be, bi, bt, bm, bn, bd⟩ := b
  simp only [sameS] at hr
  refine Pure.intro (want := [boolD r]) T_ok follows Try.func24 rfl (by kernel_rfl) (rs := [.tmp 4]) rfl (by kernel_rfl) ?_
  generalize hP : Try.prog = P
  have hT : T.ok P := hP ▸ T_ok
  have hm : P.follows .mixedOrders = true := hP ▸ follows
  unfold Try.f24
  dsimp only
  cbv
  refine SplitP.mk (fun h1 => ?_) (fun h1 => ?_) <;> simp only [BE.eql_t, BE.eql_f, IE.var_d] at h1
  · refine SplitP.mk (fun h2 => ?_) (fun h2 => ?_) <;> simp only [BE.eql_t, BE.eql_f, IE.var_d] at h2
    · refine SplitP.mk (fun h3 => ?_) (fun h3 => ?_) <;> simp only [BE.eql_t, BE.eql_f, IE.var_d] at h3
      · refine SplitP.mk (fun h4 => ?_) (fun h4 => ?_) <;> simp only [BE.eql_t, BE.eql_f, IE.var_d] at h4
        · refine ReqP.mk (fun x _ => rfl) (fun _ => ?_)
          refine LetSP.mk (fun s hs => ?_)
          cbv
          refine ReqP.mk (fun x _ => rfl) (fun _ => ?_)
          refine LetSP.mk (fun t ht => ?_)
          cbv
          refine .mk (.cons (.eq (.bool ?_)) .nil) rfl
          show (s == t) = r
          rw [hr]
          have h5 : (s = t) ↔ ad = bd := by rw [hs, ht]; exact bytes_inj ad bd
          by_cases q : ad = bd
          · rw [decide_eq_true ⟨h1, h2, h3, h4, q⟩, h5.2 q]; simp
          · rw [decide_eq_false (fun h => q h.2.2.2.2)]
            exact beq_eq_false_iff_ne.2 fun e => q (h5.1 e)
        · refine .mk (.cons (.eq (.bool ?_)) .nil) rfl
          rw [BE.lit_d, BE.var_d]
          rw [hr]; exact (decide_eq_false (fun h => h4 h.2.2.2.1)).symm
      · refine .mk (.cons (.eq (.bool ?_)) .nil) rfl
        rw [BE.lit_d, BE.var_d]
        rw [hr]; exact (decide_eq_false (fun h => h3 h.2.2.1)).symm
    · refine .mk (.cons (.eq (.bool ?_)) .nil) rfl
      rw [BE.lit_d, BE.var_d]
      rw [hr]; exact (decide_eq_false (fun h => h2 h.2.1)).symm
  · refine .mk (.cons (.eq (.bool ?_)) .nil) rfl
    rw [BE.lit_d, BE.var_d]
    rw [hr]; exact (decide_eq_false (fun h => h1 h.1)).symm
def sameL : List ShareD → List ShareD → Bool
  | [], [] => true
  | a :: l, b :: m => sameS a b && sameL l m
  | _, _ => false
theorem sameL_len : ∀ {l m : List ShareD}, sameL l m = true → l.length = m.length
  | [], [], _ => rfl
  | a :: l, b :: m, h => by
    simp only [sameL, Bool.and_eq_true] at h
    simp [sameL_len h.2]
set_option maxRecDepth 100000 in
set_option maxHeartbeats 4000000 in
theorem SSame_pure (l m : List ShareD) (nb nb' : Option BE) (hl : l.length < 9223372036854775807) : Pure Try.prog 23 [.slm 5 nb ShareD.c l, .slm 5 nb' ShareD.c m] (boolD (sameL l m)) := by
  have hS := SameShare_pure
  obtain ⟨sS, hsS⟩ : ∃ s, s = sameS := ⟨_, rfl⟩
  rw [← hsS] at hS
  obtain ⟨r, hr⟩ : ∃ r, r = sameL l m := ⟨_, rfl⟩
  rw [← hr]
  obtain ⟨n, hn⟩ : ∃ n : Nat, n = l.length := ⟨_, rfl⟩
  refine Pure.intro (want := [boolD r]) T_ok follows Try.func23 rfl (by kernel_rfl) (rs := [.tmp 4]) rfl (by kernel_rfl) ?_
  generalize hP : Try.prog = P at *
  have hT : T.ok P := hP ▸ T_ok
  have hm : P.follows .mixedOrders = true := hP ▸ follows
  unfold Try.f23
  dsimp only
  cbv
  refine SplitP.mk (fun h2 => ?_) (fun h2 => ?_)
  · have h3 : ((l.length : Int) != (m.length : Int)) = true := h2
    have h4 : r = false := by
      cases h5 : r
      · rfl
      · rw [hr] at h5
        have := sameL_len h5
        rw [this] at h3
        simp at h3
    refine .mk (.cons (.eq (.bool ?_)) .nil) rfl
    rw [BE.lit_d, BE.var_d]
    rw [h4]
  have h3 : l.length = m.length := by
    have h3 : ((l.length : Int) != (m.length : Int)) = false := h2
    simp at h3
    omega
  clear h2
  refine CodeP.loopc hT hm (X := Nat) (fun k => [(5, .int .i64 (.nat k))]) (fun k => k ≤ n ∧ r = sameL (l.drop k) (m.drop k)) (fun k => n - k) 0 ⟨by simp, hr⟩ (Nat.zero_le _) ?_ rfl ?_
  · (cbv; (repeat' (first | exact SnD.refl _ | exact trivial | exact SnD.nat0 | refine And.intro ?_ ?_)))
  intro k ⟨hk, hq⟩
  cbv
  refine SplitP.mk (fun hs => ?_) (fun hs => ?_)
  · have hkn : k < l.length := by
      have h5 : decide ((k : Int) < (l.length : Int)) = true := hs
      have := of_decide_eq_true h5
      omega
    clear hs
    refine ElemP.mk (by show (0 : Int) ≤ (k : Int) ∧ (k : Int) < (l.length : Int); omega) (fun x hx => ?_)
    replace hx : l[k]? = some x := hx
    obtain ⟨xe, xi, xt_, xm, xn, xd⟩ := x
    cbv
    refine ElemP.mk (by show (0 : Int) ≤ (k : Int) ∧ (k : Int) < (m.length : Int); omega) (fun y hy => ?_)
    replace hy : m[k]? = some y := hy
    obtain ⟨ye, yi, yt, ym, yn, yd⟩ := y
    rw [drop_cons hx, drop_cons hy] at hq
    simp only [sameL] at hq
    rw [← hsS] at hq
    cbv
    refine PureP.mk _ (hS ⟨xe, xi, xt_, xm, xn, xd⟩ ⟨ye, yi, yt, ym, yn, yd⟩) rfl ?_
    obtain ⟨sb, hsb⟩ : ∃ sb, sb = sS ⟨xe, xi, xt_, xm, xn, xd⟩ ⟨ye, yi, yt, ym, yn, yd⟩ := ⟨_, rfl⟩
    rw [← hsb] at hq ⊢
    cbv
    refine SplitP.mk (fun hs => ?_) (fun hs => ?_) <;> simp only [BE.not_t, BE.not_f, BE.var_d] at hs
    · refine .mk (.cons (.eq (.bool ?_)) .nil) rfl
      rw [BE.lit_d, BE.var_d]
      rw [hq, hs]; rfl
    · refine BackP.intro (k + 1) ⟨by omega, ?_⟩ (by show n - (k + 1) < n - k; omega) ⟨?_, HEnt.refl _, rfl⟩
      · rw [hq, hs, Bool.true_and]
      · (cbv; (repeat' (first | exact SnD.refl _ | exact trivial | exact SnD.nat0 | refine And.intro ?_ ?_)))
        exact .inc (by omega)
  · have hkn : l.length ≤ k := by
      have h5 : decide ((k : Int) < (l.length : Int)) = false := hs
      have := of_decide_eq_false h5
      omega
    clear hs
    refine .mk (.cons (.eq (.bool ?_)) .nil) rfl
    rw [BE.lit_d, BE.var_d]
    rw [hq, List.drop_of_length_le (by omega), List.drop_of_length_le (by omega)]; rfl
def sfewB (l : List ShareD) : Bool := l.all (fun s => decide (s.data.length ≤ 70)) && decide (l.length ≤ 10)
set_option maxRecDepth 100000 in
set_option maxHeartbeats 4000000 in
theorem SFew_pure (l : List ShareD) (nb : Option BE) (hl : l.length ≤ 9223372036854775807) : Pure Try.prog 16 [.slm 5 nb ShareD.c l] (boolD (sfewB l)) := by
  obtain ⟨r, hr⟩ : ∃ r, r = sfewB l := ⟨_, rfl⟩
  rw [← hr]
  obtain ⟨n, hn⟩ : ∃ n : Nat, n = l.length := ⟨_, rfl⟩
  unfold sfewB at hr
  rw [← hn] at hr
  refine Pure.intro (want := [boolD r]) T_ok follows Try.func16 rfl (by kernel_rfl) (rs := [.tmp 2]) rfl (by kernel_rfl) ?_
  generalize hP : Try.prog = P
  have hT : T.ok P := hP ▸ T_ok
  have hm : P.follows .mixedOrders = true := hP ▸ follows
  unfold Try.f16
  dsimp only
  cbv
  refine CodeP.loopc hT hm (X := Nat) (fun k => [(3, .int .i64 (.nat k))]) (fun k => k ≤ n ∧ r = ((l.drop k).all (fun s => decide (s.data.length ≤ 70)) && decide (n ≤ 10))) (fun k => n - k) 0 ⟨by simp, hr⟩ (Nat.zero_le _) ?_ rfl ?_
  · (cbv; (repeat' (first | exact SnD.refl _ | exact trivial | exact SnD.nat0 | refine And.intro ?_ ?_)))
  intro k ⟨hk, hq⟩
  cbv
  refine SplitP.mk (fun hs => ?_) (fun hs => ?_)
  · have hkn : k < l.length := by
      have h5 : decide ((k : Int) < (l.length : Int)) = true := hs
      have := of_decide_eq_true h5
      omega
    clear hs
    refine ElemP.mk (by show (0 : Int) ≤ (k : Int) ∧ (k : Int) < (l.length : Int); omega) (fun x hx => ?_)
    replace hx : l[k]? = some x := hx
    rw [drop_cons hx, List.all_cons] at hq
    obtain ⟨xe, xi, xt_, xm, xn, xd⟩ := x
    cbv
    refine SplitP.mk (fun hs => ?_) (fun hs => ?_)
    · have h1 := of_decide_eq_true (show decide ((xd.length : Int) > 70) = true from hs)
      have h2 : decide (xd.length ≤ 70) = false := decide_eq_false (by omega)
      refine .mk (.cons (.eq (.bool ?_)) .nil) rfl
      rw [BE.lit_d, BE.var_d]
      rw [hq, h2]; rfl
    · have h1 := of_decide_eq_false (show decide ((xd.length : Int) > 70) = false from hs)
      have h2 : decide (xd.length ≤ 70) = true := decide_eq_true (by omega)
      refine BackP.intro (k + 1) ⟨by omega, ?_⟩ (by show n - (k + 1) < n - k; omega) ⟨?_, HEnt.refl _, rfl⟩
      · rw [hq, h2, Bool.true_and]
      · (cbv; (repeat' (first | exact SnD.refl _ | exact trivial | exact SnD.nat0 | refine And.intro ?_ ?_)))
        exact .inc (by omega)
  · have hkn : l.length ≤ k := by
      have h5 : decide ((k : Int) < (l.length : Int)) = false := hs
      have := of_decide_eq_false h5
      omega
    clear hs
    refine .mk (.cons (.eq (.bool ?_)) .nil) rfl
    show decide ((l.length : Int) ≤ 10) = r
    rw [hq, List.drop_of_length_le (by omega), List.all_nil, Bool.true_and, hn]
    exact decide_eq_decide.2 (by omega)
end Go.Proofs.Ytbmcepkccenoaaa
namespace Go.Proofs.Ytbmcepkccenoaaa
open Go.RowKit

/-! What shares of one seed give together, and what one share alone leaves open. -/
theorem xx (a : BitVec 8) : a ^^^ a = 0#8 := BitVec.xor_self
theorem geval2 (s c x : BitVec 8) : geval [s, c] x = gmul c x ^^^ s := by
  have h0 : gmul 0 x = 0#8 := (gmul_lin' x).zero
  simp only [geval, List.foldr_cons, List.foldr_nil]
  rw [h0, BitVec.zero_xor]
theorem at0_line (s c x1 x2 : BitVec 8) (h : x1 ≠ x2) : at0 x1 x2 (geval [s, c] x1) (geval [s, c] x2) = s := by
  have hn : x1 ^^^ x2 ≠ 0#8 := xor_ne h
  rw [geval2, geval2]
  unfold at0
  rw [BitVec.xor_comm x2 x1]
  obtain ⟨D, hD⟩ : ∃ D, D = ginv (x1 ^^^ x2) := ⟨_, rfl⟩
  have hi : gmul (x1 ^^^ x2) D = 1#8 := by rw [hD]; exact gmul_inv hn
  rw [← hD]
  rw [← gmul_assoc, ← gmul_assoc, ← gmul_add']
  have e : gmul x2 (gmul c x1 ^^^ s) ^^^ gmul x1 (gmul c x2 ^^^ s) = gmul (x1 ^^^ x2) s := by
    rw [gmul_add, gmul_add, xor4, gmul_add' x1 x2 s]
    have e1 : gmul x2 (gmul c x1) = gmul x1 (gmul c x2) := by
      rw [gmul_comm x2, gmul_comm x1, gmul_assoc, gmul_assoc, gmul_comm x1 x2]
    rw [e1, xx, BitVec.zero_xor, BitVec.xor_comm]
  rw [e, gmul_assoc, gmul_comm s D, ← gmul_assoc, hi, g_one]
/-- the coin that makes a share of another seed out of this one -/
def coinX (x o d : BitVec 8) : BitVec 8 := (co2 0 x o d).2
theorem coin_ok (x o d : BitVec 8) (hx : x ≠ 0#8) : geval [o, coinX x o d] x = d := by
  rw [geval2]
  unfold coinX co2
  simp only
  have e0 : (0 : BitVec 8) ^^^ x = x := BitVec.zero_xor
  have e1 : x ^^^ (0 : BitVec 8) = x := BitVec.xor_zero
  rw [e0, e1, ← gmul_add', gmul_assoc, gmul_comm (ginv x) x, gmul_inv hx, g_one']
  rw [BitVec.xor_comm o d, BitVec.xor_assoc, xx, BitVec.xor_zero]
theorem splitL_get {seed coins : List (BitVec 8)} {dv : Int} (hc : coins.length = 32) {k : Nat} (hk : k < dv.toNat) : (splitL seed coins dv)[k]? = some (shareAt (seed.zip coins) dv k) := by
  unfold splitL
  rw [if_pos hc, List.getElem?_map, List.getElem?_range hk]
  rfl
theorem splitL_len {seed coins : List (BitVec 8)} {dv : Int} (hc : coins.length = 32) : (splitL seed coins dv).length = dv.toNat := by
  unfold splitL
  rw [if_pos hc]
  simp
theorem share_len (seed coins : List (BitVec 8)) (hs : seed.length = 32) (hc : coins.length = 32) (dv : Int) (k : Nat) : (shareAt (seed.zip coins) dv k).data.length = 32 := by
  simp [shareAt, hs, hc]
theorem split_chk {seed coins : List (BitVec 8)} {dv : Int} (hs : seed.length = 32) (hc : coins.length = 32) (h1 : 2 ≤ dv) (h2 : dv ≤ 4) : chkB (splitL seed coins dv) = 0 := by
  unfold splitL
  rw [if_pos hc]
  have e1 : (seed.zip coins).length = 32 := by simp [hs, hc]
  obtain ⟨ps, hps⟩ : ∃ ps, ps = seed.zip coins := ⟨_, rfl⟩
  rw [← hps] at e1 ⊢
  have hd : dv = 2 ∨ dv = 3 ∨ dv = 4 := by omega
  rcases hd with rfl | rfl | rfl
  · simp [chkB, alikeB, okHead, okFrom, shareAt, e1, epOK, c01, List.range, List.range.loop]
  · simp [chkB, alikeB, okHead, okFrom, shareAt, e1, epOK, c01, List.range, List.range.loop]
  · simp [chkB, alikeB, okHead, okFrom, shareAt, e1, epOK, c01, List.range, List.range.loop]
theorem two_chk {seed coins : List (BitVec 8)} {dv : Int} (hs : seed.length = 32) (hc : coins.length = 32) (h1 : 2 ≤ dv) (h2 : dv ≤ 4) {a b : Nat} (ha : a < b) (hb : b < dv.toNat) : chkB [shareAt (seed.zip coins) dv a, shareAt (seed.zip coins) dv b] = 0 := by
  have e1 : (seed.zip coins).length = 32 := by simp [hs, hc]
  obtain ⟨ps, hps⟩ : ∃ ps, ps = seed.zip coins := ⟨_, rfl⟩
  rw [← hps] at e1 ⊢
  have k1 : (0 : Int) < (a : Int) + 1 := by omega
  have k2 : (a : Int) + 1 ≤ dv := by omega
  have k3 : (a : Int) < (b : Int) := by omega
  have k4 : (b : Int) + 1 ≤ dv := by omega
  have k5 : dv ≤ 8 := by omega
  simp [chkB, alikeB, okHead, okFrom, shareAt, e1, epOK, c01, k1, k2, k3, k4, k5, h1]
theorem one_chk {seed coins : List (BitVec 8)} {dv : Int} (hs : seed.length = 32) (hc : coins.length = 32) (h1 : 2 ≤ dv) (h2 : dv ≤ 4) {a : Nat} (ha : a < dv.toNat) : chkB [shareAt (seed.zip coins) dv a] = 0 := by
  have e1 : (seed.zip coins).length = 32 := by simp [hs, hc]
  obtain ⟨ps, hps⟩ : ∃ ps, ps = seed.zip coins := ⟨_, rfl⟩
  rw [← hps] at e1 ⊢
  have k1 : (0 : Int) < (a : Int) + 1 := by omega
  have k2 : (a : Int) + 1 ≤ dv := by omega
  have k5 : dv ≤ 8 := by omega
  simp [chkB, alikeB, okHead, okFrom, shareAt, e1, epOK, c01, k1, k2, k5, h1]
theorem help_split {f : FenceD} {seed coins : List (BitVec 8)} {dv : Int} (hs : seed.length = 32) (hc : coins.length = 32) (h1 : 2 ≤ dv) (h2 : dv ≤ 4) {p q : Nat} (hp : p < dv.toNat) (hq : q < dv.toNat) (hpq : p ≠ q) :
    helpP f (splitL seed coins dv) (p : Int) (q : Int) = if (p : Int) ∈ f.devices ∨ (q : Int) ∈ f.devices then (zeroS, 440) else (shareAt (seed.zip coins) dv q, 0) := by
  unfold helpP
  rw [split_chk hs hc h1 h2, if_neg (by simp), if_neg (by omega)]
  by_cases hf : (p : Int) ∈ f.devices ∨ (q : Int) ∈ f.devices
  · rw [if_pos hf, if_pos hf]
  · rw [if_neg hf, if_neg hf]
    have isb : ∀ k : Nat, k < 4 → isBy (q : Int) (shareAt (seed.zip coins) dv k) = decide (k = q) := fun k hk => by
      unfold isBy
      have : binDen .sub .i64 ((k : Int) + 1) 1 = (k : Int) := by rw [sub64 (by omega) (by omega)]; omega
      show decide (binDen .sub .i64 ((k : Int) + 1) 1 = (q : Int)) = _
      rw [this]
      exact decide_eq_decide.2 (by omega)
    rw [find_first (k := q) (splitL_get hc hq) (fun x hx => ?_) (by rw [isb q (by omega)]; simp)]
    obtain ⟨j, hj⟩ := List.getElem?_of_mem hx
    have hjq : j < q := by have := (List.getElem?_eq_some_iff.1 hj).1; simp at this; omega
    rw [List.getElem?_take, if_pos hjq, splitL_get hc (by omega)] at hj
    cases hj
    rw [isb j (by omega)]
    exact decide_eq_false (by omega)
theorem xi_share (ps : List (BitVec 8 × BitVec 8)) (dv : Int) (k : Nat) : xi (shareAt ps dv k) = BitVec.ofInt 8 ((k : Int) + 1) := rfl
theorem join_split {seed coins : List (BitVec 8)} {dv : Int} (hs : seed.length = 32) (hc : coins.length = 32) (h1 : 2 ≤ dv) (h2 : dv ≤ 4) {a b : Nat} (ha : a < b) (hb : b < dv.toNat) :
    seedOf (joinE (shareAt (seed.zip coins) dv a) (shareAt (seed.zip coins) dv b)) (joinL (shareAt (seed.zip coins) dv a) (shareAt (seed.zip coins) dv b)) = (seed, 0) := by
  have hk := two_chk hs hc h1 h2 ha hb
  obtain ⟨k1, k2, k3, k4, k5, k6⟩ := chk_two hk
  have hne := xi_ne k4 k5 k6
  have he : joinE (shareAt (seed.zip coins) dv a) (shareAt (seed.zip coins) dv b) = 0 := by
    unfold joinE
    rw [if_pos hk, if_neg (by simp [shareAt])]
  have hj : joinL (shareAt (seed.zip coins) dv a) (shareAt (seed.zip coins) dv b) = seed := by
    unfold joinL
    rw [if_pos he]
    refine List.ext_getElem? fun i => ?_
    rw [List.getElem?_map]
    by_cases hi : i < 32
    · rw [List.getElem?_range (by rw [share_len seed coins hs hc]; exact hi), Option.map_some]
      have hjs : js (shareAt (seed.zip coins) dv a) (shareAt (seed.zip coins) dv b) = [shareAt (seed.zip coins) dv a, shareAt (seed.zip coins) dv b] := rfl
      rw [hjs]
      obtain ⟨s, hsi⟩ : ∃ s, seed[i]? = some s := ⟨_, List.getElem?_eq_getElem (by omega)⟩
      obtain ⟨c, hci⟩ : ∃ c, coins[i]? = some c := ⟨_, List.getElem?_eq_getElem (by omega)⟩
      have hd : ∀ k, (shareAt (seed.zip coins) dv k).data.getD i 0 = geval [s, c] (BitVec.ofInt 8 ((k : Int) + 1)) := fun k => by
        have hz : (seed.zip coins)[i]? = some (s, c) := by rw [List.getElem?_zip_eq_some]; exact ⟨hsi, hci⟩
        simp only [shareAt, List.getD_eq_getElem?_getD, List.getElem?_map, hz, Option.map_some, Option.getD_some]
      show some (at0 (xi _) (xi _) _ _) = _
      have hne' : BitVec.ofInt 8 ((a : Int) + 1) ≠ BitVec.ofInt 8 ((b : Int) + 1) := hne
      rw [hd, hd, xi_share, xi_share, at0_line _ _ _ _ hne', hsi]
    · rw [List.getElem?_eq_none (by rw [List.length_range, share_len seed coins hs hc]; omega), List.getElem?_eq_none (by omega)]
      rfl
  rw [he, hj]
  unfold seedOf
  rw [if_neg (by simp), if_neg (by simp [hs])]
theorem seed_split {seed coins : List (BitVec 8)} {dv : Int} (hs : seed.length = 32) (hc : coins.length = 32) (h1 : 2 ≤ dv) (h2 : dv ≤ 4) {p q : Nat} (hp : p < dv.toNat) (hq : q < dv.toNat) (hpq : p ≠ q) :
    seedP (shareAt (seed.zip coins) dv p) (shareAt (seed.zip coins) dv q) = (seed, 0) := by
  unfold seedP
  have e : ∀ k, (shareAt (seed.zip coins) dv k).index = (k : Int) + 1 := fun k => rfl
  rw [e, e]
  by_cases h : (q : Int) + 1 < (p : Int) + 1
  · rw [if_pos h]
    exact join_split hs hc h1 h2 (by omega) hp
  · rw [if_neg h]
    exact join_split hs hc h1 h2 (by omega) hq
def explF (s : ShareD) (o : List (BitVec 8)) (i : Nat) : BitVec 8 := coinX (xi s) (o.getD i 0) (s.data.getD i 0)
def explL (s : ShareD) (o : List (BitVec 8)) : List (BitVec 8) := (List.range o.length).map (explF s o)
theorem expl_split {seed coins other : List (BitVec 8)} {dv : Int} (hs : seed.length = 32) (hc : coins.length = 32) (ho : other.length = 32) (h2 : dv ≤ 4) {p : Nat} (hp : p < dv.toNat) :
    ∃ m, (splitL other (explL (shareAt (seed.zip coins) dv p) other) dv)[p]? = some m ∧ sameS m (shareAt (seed.zip coins) dv p) = true := by
  have hl : (explL (shareAt (seed.zip coins) dv p) other).length = 32 := by simp [explL, ho]
  refine ⟨_, splitL_get hl hp, ?_⟩
  unfold sameS
  refine decide_eq_true ⟨rfl, rfl, rfl, rfl, ?_⟩
  refine List.ext_getElem? fun i => ?_
  by_cases hi : i < 32
  · obtain ⟨o, hoi⟩ : ∃ o, other[i]? = some o := ⟨_, List.getElem?_eq_getElem (by omega)⟩
    obtain ⟨d, hdi⟩ : ∃ d, (shareAt (seed.zip coins) dv p).data[i]? = some d := ⟨_, List.getElem?_eq_getElem (by rw [share_len seed coins hs hc]; exact hi)⟩
    have hci : (explL (shareAt (seed.zip coins) dv p) other)[i]? = some (coinX (xi (shareAt (seed.zip coins) dv p)) o d) := by
      unfold explL
      rw [List.getElem?_map, List.getElem?_range (by omega), Option.map_some]
      unfold explF
      rw [List.getD_eq_getElem?_getD, List.getD_eq_getElem?_getD, hoi, hdi]
      rfl
    have hz : (other.zip (explL (shareAt (seed.zip coins) dv p) other))[i]? = some (o, coinX (xi (shareAt (seed.zip coins) dv p)) o d) := by rw [List.getElem?_zip_eq_some]; exact ⟨hoi, hci⟩
    rw [hdi]
    show ((other.zip (explL (shareAt (seed.zip coins) dv p) other)).map _)[i]? = _
    rw [List.getElem?_map, hz, Option.map_some]
    congr 1
    rw [xi_share]
    refine coin_ok _ _ _ fun e => ?_
    have := congrArg BitVec.toNat e
    simp only [BitVec.toNat_ofInt] at this
    simp at this
    omega
  · rw [List.getElem?_eq_none (by rw [share_len other _ ho hl]; omega), List.getElem?_eq_none (by rw [share_len seed coins hs hc]; omega)]
end Go.Proofs.Ytbmcepkccenoaaa
namespace Go.Proofs.Ytbmcepkccenoaaa
open Go.RowKit

/-! A function that defers one call of a closure, and ends. -/
theorem LRep.move {w w' : World} {E E' : Env} {l : List D} {vs : Array Value} (h : LRep w E l vs) (h1 : E.le w w' E') (h2 : E.own E') : LRep w' E' l vs := ⟨h.1, fun i d v hd hv => (h.2 i d v hd hv).move h1 h2⟩
theorem LRep.trunc {w : World} {E : Env} {l : List D} {vs : Array Value} {n : Nat} (hl : l.all (D.undr 8 n) = true) (h : LRep w E l vs) : LRep w (E.trunc n) l vs :=
  ⟨h.1, fun i d v hd hv => DRep.trunc 8 (List.all_eq_true.1 hl d (List.mem_of_getElem? hd)) (h.2 i d v hd hv)⟩
theorem undr_all_mono {l : List D} {n m : Nat} (hnm : n ≤ m) (hl : l.all (D.undr 8 n) = true) : l.all (D.undr 8 m) = true := List.all_eq_true.2 fun d hd => D.undr_mono 8 hnm (List.all_eq_true.1 hl d hd)
theorem Pure.introD {P : Program} {f : Nat} {fn : Func} {c1 c3 : Code} {rid : Nat} {o1 o2 : Oper} {t n : Nat} {xs : List Operand} {ats : Array TypeId} {args want : List D} {T : Tab} (hT : T.ok P) (hm : P.follows .mixedOrders = true) (hf : P.funcs[f]? = some fn) (hb : fn.body = some (c1.seq ((Code.region rid ⟨[o1, o2]⟩ false).seq c3)))
    (hn : (fn.name == "runtime.NumGoroutine") = false) {rs : List ResultVar} (hr : fn.results.toList = rs) (hl : decide (args.length ≤ fn.ntmps) = true)
    (g1 : o1.guard = none) (h1 : o1.op = .makeFunc (.func n) ⟨[]⟩ ⟨xs⟩) (d1 : o1.dst = some t) (g2 : o2.guard = none) (d2 : o2.dst = none) (h2 : o2.op = .defer ⟨.value (.tmp t), ⟨[]⟩, ats⟩) (ht : decide (t < fn.ntmps) = true)
    (h : vc P ⟨T, fn.ntmps, 0⟩ c1 (argFr 0 args) [] fun e fr H => match e with
      | .normal => ∃ fr1 H1, EntP fr H fr1 H1 ∧ (xs.map fr1.ev).all (D.undr 8 H1.length) = true ∧ vc P ⟨T, fn.ntmps, H1.length⟩ c3 (fr1.set t (.fn (.func n) [] (xs.map fr1.ev))) H1 (retKD P T rs want n (xs.map fr1.ev))
      | e => StuckX e) : Pure P f args (retD want) := by
  simp only [decide_eq_true_eq] at hl ht
  refine ⟨⟨fn, _, hf, hb, hn⟩, fun w G vs hG hv => ?_⟩
  let B : Base := ⟨w, G, fn.ntmps, 0, fun _ _ => True, fun _ _ _ _ _ _ _ => trivial, fun _ _ _ _ _ => trivial, []⟩
  have h0 := enter_rel (B := B) (fn := fn) hl hv (H := []) ⟨fun x y c h => by simp [Env.of] at h, fun x c h => by simp [Env.of] at h, fun _ _ => rfl, fun x b h => by simp at h, fun _ _ => ⟨rfl, rfl⟩, hG, fun _ h => h, fun _ h => .inl h, Below.refl _ _, trivial⟩ rfl rfl
  refine calls_of_wp_defers hf hb (wp_seq (Code.wp_mono (fun e a' w' ⟨fr', H', E', q1, q2⟩ => ?_) ((vc_sound hT hm c1 h).run B _ _ _ ⟨rfl, Nat.le_refl _⟩ h0)))
  cases e with
  | normal =>
    obtain ⟨fr1, H1, qe, k1, k2⟩ := q1
    obtain ⟨E1, q3⟩ : ∃ E1, Rel B ⟨fr1, H1⟩ E1 a' w' := ⟨_, qe.rel (Nat.zero_le _) q2⟩
    clear qe q2 fr' H' E'
    have q2 := q3
    clear q3
    obtain ⟨fr', rfl⟩ : ∃ x, x = fr1 := ⟨_, rfl⟩
    obtain ⟨H', rfl⟩ : ∃ x, x = H1 := ⟨_, rfl⟩
    obtain ⟨E', rfl⟩ : ∃ x, x = E1 := ⟨_, rfl⟩
    refine wp_seq (wp_region_list ?_)
    generalize hcaps : xs.map fr'.ev = caps at k1 k2
    obtain ⟨cv, hcv⟩ : ∃ cv : Array Value, cv = (xs.map a'.eval).toArray := ⟨_, rfl⟩
    have hlr : LRep w' E' caps cv := by
      subst hcaps hcv
      refine ⟨by simp, fun i d v hd hv' => ?_⟩
      simp only [List.getElem?_map, List.getElem?_toArray, Option.map_eq_some_iff] at hd hv'
      obtain ⟨x, hx, rfl⟩ := hd
      obtain ⟨y, hy, rfl⟩ := hv'
      rw [hx] at hy
      cases hy
      exact q2.ev x
    have hfv : DRep w' E' (.fn (.func n) [] caps) (.func (.func n) #[] cv) := .fn (by simp) hlr.1 (fun i d v h => by simp at h) hlr.2
    have hp := q2.put q2.wr (Env.le.refl _ _) (Env.own.refl _) (dst := some t) (by simp [dstB, ht, B]) hfv
    have e1 : (execOp a'.eval o1).run P w' = .ok (.value (.func (.func n) #[] cv)) w' := by
      unfold execOp; rw [h1, hcv]; simp [Instr.makeFunc]
    let d0 : Deferred := ⟨.fn (.func n) cv, #[]⟩
    have e2 : (execOp (a'.put (some t) (.func (.func n) #[] cv)).eval o2).run P w' = .ok (.defer d0) w' := by
      unfold execOp
      rw [h2]
      have : (a'.put (some t) (.func (.func n) #[] cv)).eval (.tmp t) = .func (.func n) #[] cv := eval_put_same (by rw [q2.sz]; exact ht)
      simp [resolve, this, Deferred.ofValue]
      rfl
    have hnd : (a'.put (some t) (.func (.func n) #[] cv)).defers = [] := put_defers'.trans q2.df
    simp only [wpList, Region.wanted, g1, g2, if_true]
    refine .inl ?_
    unfold Oper.wp
    rw [e1, Oper.upon_value, d1]
    refine .inl ?_
    rw [e2, Oper.upon_defer, d2, hnd]
    generalize ha2 : a'.put (some t) (.func (.func n) #[] cv) = a2 at *
    let B2 : Base := ⟨w, G, fn.ntmps, H'.length, fun w E => LRep w E caps cv, fun _ _ _ _ h1 h2 h3 => h3.move h1 h2, fun _ _ _ hn h3 => h3.trunc (undr_all_mono hn k1), [d0]⟩
    have hr2 : Rel B2 ⟨fr'.set t (.fn (.func n) [] caps), H'⟩ E' { tmps := a2.tmps, defers := [d0] } w' := ⟨hp.sz, rfl, hp.fr, ⟨hp.wr.inj, hp.wr.own, hp.wr.wf, hp.wr.heap, hp.wr.out, hp.wr.good, hp.wr.g0, hp.wr.gn, hp.wr.bel, hlr⟩⟩
    show c3.wp P _ { tmps := a2.tmps, defers := [d0] } w'
    refine Code.wp_mono (fun e a3 w3 ⟨fr3, H3, E3, q3, q4⟩ => ?_) ((vc_sound hT hm c3 k2).run B2 _ _ _ ⟨rfl, Nat.le_refl _⟩ hr2)
    have hd3 : a3.defers = [d0] := q4.df
    have fin : retKD P T rs want n caps .ret fr3 H3 → Leaves P fn a3.tmps (fun e w' => ∃ (v : Value) (G' : Nat → Prop), e = Ending.returned v ∧ Below w.heap.size w w' ∧ (∀ b, G b → G' b) ∧ (∀ b, G' b → G b ∨ w.heap.size ≤ b) ∧ (∀ b, G' b → b < w'.heap.size) ∧ DRep w' (Env.of G') (retD want) v) [d0] .returning w3 := by
      intro hk
      unfold retKD at hk
      simp only at hk
      split at hk
      · next hchk =>
        simp only [Bool.and_eq_true] at hchk
        let B3 : Base := ⟨w, G, fn.ntmps, H3.length, fun w E => ∀ t, DRep w E (fr3.get t) (a3.tmps.getD t undef), fun _ _ _ _ h1 h2 h3 t => (h3 t).move h1 h2, fun _ _ _ hn h3 t => DRep.trunc 8 (D.undr_mono 8 hn (Fr.get_undr hchk.1 t)) (h3 t), [d0]⟩
        have hw3 : WRel B3 H3 E3 w3 := ⟨q4.wr.inj, q4.wr.own, q4.wr.wf, q4.wr.heap, q4.wr.out, q4.wr.good, q4.wr.g0, q4.wr.gn, q4.wr.bel, q4.fr⟩
        refine leaves_cons (fun h => by cases h) (by show (callFunc n _).run P w3 = _; exact callFunc_here hk.here _ _) ((hk.run B3 w3 E3 _ (Nat.le_refl _) ?_ hw3).mono ?_)
        · have := q4.wr.phi
          simpa using this
        · rintro e u' w4 ⟨rfl, v4, E4, d4, H4, rfl, r1, r2, r3⟩
          show Leaves P fn a3.tmps _ [] (settle .returning) w4
          have hrel : Rel B3 ⟨fr3, H4⟩ E4 a3 w4 := ⟨q4.sz, hd3, r1.phi, r1⟩
          unfold retX at r3
          split at r3
          · next ds hds =>
            obtain ⟨hs, hdat⟩ := r3
            obtain ⟨v, us, y1, y2, y3, y4⟩ := results_rep hT (fn := fn) hrel (by rw [hr]; exact hds)
            obtain ⟨z1, z2⟩ := hs.get
            refine ⟨v, y1, v, E4.lent, rfl, r1.bel, fun b hb => .inl (r1.g0 b hb), fun b hb => ?_, r1.lentGood, ?_⟩
            · rcases hb with hb | ⟨x, hx⟩
              · exact r1.gn b hb
              · exact .inr (r1.own x b hx).1
            · refine retD_rep y2 (by omega) fun i d u h1 h2 => ?_
              have hlt := (List.getElem?_eq_some_iff.1 h1).1
              have h3 : ds[i]? = some (ds[i]'(by omega)) := List.getElem?_eq_getElem (by omega)
              exact (z2 i _ d h3 h1).lent r1.heap (y4 i _ u h3 h2) (List.all_eq_true.1 hdat d (List.mem_of_getElem? h1))
          · cases r3
      · cases hk
    cases e with
    | ret => show Leaves P fn a3.tmps _ a3.defers .returning w3; rw [hd3]; exact fin q3
    | normal => show Leaves P fn a3.tmps _ a3.defers .returning w3; rw [hd3]; exact fin q3
    | exit i => cases q3
    | goto l => cases q3
    | panic ch => cases q3
    | outgrown => cases q3
  | ret => cases q1
  | exit i => cases q1
  | goto l => cases q1
  | panic ch => cases q1
  | outgrown => cases q1
end Go.Proofs.Ytbmcepkccenoaaa
namespace Go.Proofs.Ytbmcepkccenoaaa
open Go.RowKit

/-! Code in pieces. -/
theorem CodeP.seq {P : Program} {cx : Cx} {c d : Code} {fr : Fr} {H : List Bk} {K : Exit → Fr → List Bk → Prop} (h : CodeP P cx c fr H (thenK (fun fr H => CodeP P cx d fr H K) K)) : CodeP P cx (.seq c d) fr H K := by
  refine ⟨fun B E a w hnt hr => wp_seq (Code.wp_mono (fun e a' w' ⟨fr', H', E', q1, q2⟩ => ?_) (h.run B E a w hnt hr))⟩
  cases e <;> first | exact CodeP.run q1 B E' a' w' hnt q2 | exact ⟨fr', H', E', q1, q2⟩
theorem Pure.introC {P : Program} {f : Nat} {fn : Func} {c : Code} {args want : List D} {T : Tab} (hT : T.ok P) (hf : P.funcs[f]? = some fn) (hb : fn.body = some c) (hn : (fn.name == "runtime.NumGoroutine") = false) {rs : List ResultVar}
    (hr : fn.results.toList = rs) (hl : decide (args.length ≤ fn.ntmps) = true)
    (h : CodeP P ⟨T, fn.ntmps, 0⟩ c (argFr 0 args) [] (retK T rs want)) : Pure P f args (retD want) := by
  simp only [decide_eq_true_eq] at hl
  refine ⟨⟨fn, c, hf, hb, hn⟩, fun w G vs hG hv => ?_⟩
  let B : Base := ⟨w, G, fn.ntmps, 0, fun _ _ => True, fun _ _ _ _ _ _ _ => trivial, fun _ _ _ _ _ => trivial, []⟩
  have h0 := enter_rel (B := B) (fn := fn) hl hv (H := []) ⟨fun x y c h => by simp [Env.of] at h, fun x c h => by simp [Env.of] at h, fun _ _ => rfl, fun x b h => by simp at h, fun _ _ => ⟨rfl, rfl⟩, hG, fun _ h => h, fun _ h => .inl h, Below.refl _ _, trivial⟩ rfl rfl
  refine calls_of_wp hf hb (Code.wp_mono (fun e a' w' ⟨fr', H', E', q1, q2⟩ => ?_) (h.run B _ _ _ ⟨rfl, Nat.le_refl _⟩ h0))
  have fin : retX T rs (fun l H => RetP H l want) fr' H' → a'.defers = [] ∧ ∃ v, (results fn a'.tmps).run P w' = .ok v w' ∧ ∃ (v' : Value) (G' : Nat → Prop), Ending.returned v = .returned v' ∧ Below w.heap.size w w' ∧ (∀ b, G b → G' b) ∧ (∀ b, G' b → G b ∨ w.heap.size ≤ b) ∧ (∀ b, G' b → b < w'.heap.size) ∧ DRep w' (Env.of G') (retD want) v' := by
    intro hs
    unfold retX at hs
    split at hs
    · next ds hds =>
      obtain ⟨hs, hdat⟩ := hs
      have hwr := q2.wr
      obtain ⟨v, us, g1, g2, g3, g4⟩ := results_rep hT (fn := fn) q2 (by rw [hr]; exact hds)
      obtain ⟨k1, k2⟩ := hs.get
      refine ⟨q2.df, v, g1, v, E'.lent, rfl, hwr.bel, fun b hb => .inl (hwr.g0 b hb), fun b hb => ?_, hwr.lentGood, ?_⟩
      · rcases hb with hb | ⟨x, hx⟩
        · exact hwr.gn b hb
        · exact .inr (hwr.own x b hx).1
      · refine retD_rep g2 (by omega) fun i d u h1 h2 => ?_
        have hlt := (List.getElem?_eq_some_iff.1 h1).1
        have h3 : ds[i]? = some (ds[i]'(by omega)) := List.getElem?_eq_getElem (by omega)
        exact (k2 i _ d h3 h1).lent hwr.heap (g4 i _ u h3 h2) (List.all_eq_true.1 hdat d (List.mem_of_getElem? h1))
    · cases hs
  cases e with
  | ret => exact fin q1
  | normal => exact fin q1
  | exit i => cases q1
  | goto l => cases q1
  | panic ch => cases q1
  | outgrown => cases q1

/-- the slots that are still asked for -/
def keepS (ks : List Nat) : Fr → Fr
  | [] => []
  | (t, d) :: r => if hasT ks t then (t, d) :: keepS ks r else keepS ks r
theorem keepS_get (ks : List Nat) (t : Nat) : ∀ fr : Fr, (keepS ks fr).get t = if hasT ks t then fr.get t else .junk
  | [] => by simp [keepS, Fr.get]
  | (m, d) :: r => by
    unfold keepS
    by_cases q : hasT ks m = true
    · rw [if_pos q]
      simp only [Fr.get]
      by_cases e : m = t
      · subst e
        rw [if_pos rfl, if_pos q, if_pos rfl]
      · rw [if_neg e, if_neg e, keepS_get ks t r]
    · rw [if_neg q, keepS_get ks t r]
      by_cases e : m = t
      · subst e
        rw [if_neg q, if_neg q]
      · simp only [Fr.get, if_neg e]
theorem CodeP.keep {P : Program} {cx : Cx} {c : Code} {fr : Fr} {H : List Bk} {K : Exit → Fr → List Bk → Prop} (ks : List Nat) (h : CodeP P cx c (keepS ks fr) H K) : CodeP P cx c fr H K := by
  refine ⟨fun B E a w hnt hr => h.run B E a w hnt ⟨hr.sz, hr.df, fun t => ?_, hr.wr⟩⟩
  show DRep w E ((keepS ks fr).get t) _
  rw [keepS_get]
  split
  · exact hr.fr t
  · exact .junk
theorem OpsP.keep {P : Program} {cx : Cx} {ops : Array Oper} {os : List Oper} {fr : Fr} {H : List Bk} {K : Fr → List Bk → Prop} (ks : List Nat) (h : OpsP P cx ops os (keepS ks fr) H K) : OpsP P cx ops os fr H K := by
  refine ⟨fun B E a w hnt hh hr => h.run B E a w hnt hh ⟨hr.sz, hr.df, fun t => ?_, hr.wr⟩⟩
  show DRep w E ((keepS ks fr).get t) _
  rw [keepS_get]
  split
  · exact hr.fr t
  · exact .junk
/-! Regions whose operations stand in no order that is known here, among them such that write or give up own blocks. -/
def anyE (p : Edge → Bool) : List Edge → Bool
  | [] => false
  | e :: l => if p e then true else anyE p l
/-- does j wait for i, perhaps by way of others? -/
def reach (ops : Array Oper) : Nat → Nat → Nat → Bool
  | 0, _, _ => false
  | f + 1, i, j => match ops[j]? with
    | none => false
    | some o => if waitsOn .any o i then true else anyE (fun e => if Region.binds .any e then reach ops f i e.on else false) o.after.toList
theorem anyE_spec {p : Edge → Bool} : ∀ {l : List Edge}, anyE p l = true → ∃ e ∈ l, p e = true
  | [], h => by cases h
  | e :: l, h => by
    unfold anyE at h
    split at h
    · next q => exact ⟨e, by simp, q⟩
    · obtain ⟨e', h1, h2⟩ := anyE_spec h
      exact ⟨e', by simp [h1], h2⟩
theorem reach_spec {ops : Array Oper} {S : Nat → Prop} (hS : ∀ j o, S j → ops[j]? = some o → ∀ e ∈ o.after, Region.binds .any e = true → S e.on) : ∀ f i j, reach ops f i j = true → S j → S i
  | 0, _, _, h, _ => by cases h
  | f + 1, i, j, h, hj => by
    unfold reach at h
    split at h
    · cases h
    · next o ho =>
      split at h
      · next hw =>
        obtain ⟨e, he, hb, rfl⟩ := waitsOn_spec hw
        exact hS j o hj ho e he hb
      · obtain ⟨e, he, hp⟩ := anyE_spec h
        split at hp
        · next hb => exact reach_spec hS f i e.on hp (hS j o hj ho e (Array.mem_toList_iff.1 he) hb)
        · cases hp
theorem reach_ready {ops : Array Oper} {S : Nat → Prop} (hS : ∀ j o, S j → ops[j]? = some o → ∀ e ∈ o.after, Region.binds .any e = true → S e.on) {f i j : Nat} (h : reach ops f i j = true) {o : Oper} (ho : ops[j]? = some o) (hd : ∀ e ∈ o.after, Region.binds .any e = true → S e.on) : S i := by
  cases f with
  | zero => cases h
  | succ f =>
    unfold reach at h
    rw [ho] at h
    simp only at h
    split at h
    · next hw =>
      obtain ⟨e, he, hb, rfl⟩ := waitsOn_spec hw
      exact hd e he hb
    · obtain ⟨e, he, hp⟩ := anyE_spec h
      split at hp
      · next hb => exact reach_spec hS f i e.on hp (hd e (Array.mem_toList_iff.1 he) hb)
      · cases hp
def touch : List (Nat × List Nat) → Nat → List Nat
  | [], _ => []
  | (j, xs) :: r, i => if j = i then xs else touch r i
def allM : List (Nat × List Nat) → List Nat
  | [] => []
  | (_, xs) :: r => xs ++ allM r
theorem touch_allM : ∀ {mods : List (Nat × List Nat)} {i x : Nat}, x ∈ touch mods i → x ∈ allM mods
  | [], _, _, h => by cases h
  | (j, xs) :: r, i, x, h => by
    unfold touch at h
    unfold allM
    split at h
    · simp [h]
    · simp [touch_allM h]
def maskH (M keep : List Nat) : Nat → List Bk → List Bk
  | _, [] => []
  | y, b :: r => (if hasT M y then (if hasT keep y then b else .dead) else b) :: maskH M keep (y + 1) r
theorem hasT_spec : ∀ {l : List Nat} {n : Nat}, hasT l n = true ↔ n ∈ l
  | [], n => by simp [hasT]
  | a :: l, n => by
    unfold hasT
    split
    · next e => simp [e]
    · next e =>
      rw [hasT_spec, List.mem_cons]
      exact ⟨.inr, fun h => h.elim (fun q => absurd q.symm e) id⟩
theorem maskH_len (M keep : List Nat) : ∀ (y : Nat) (H : List Bk), (maskH M keep y H).length = H.length
  | _, [] => rfl
  | y, b :: r => by simp [maskH, maskH_len M keep (y + 1) r]
theorem maskH_get {M keep : List Nat} : ∀ {y : Nat} {H : List Bk} {x : Nat} {b : Bk}, (maskH M keep y H)[x]? = some b → b = .dead ∨ (H[x]? = some b ∧ (y + x ∈ M → y + x ∈ keep))
  | _, [], x, b, h => by simp [maskH] at h
  | y, b0 :: r, 0, b, h => by
    simp only [maskH, List.getElem?_cons_zero, Option.some.injEq, Nat.add_zero] at h ⊢
    split at h
    · split at h
      · next h1 h2 => exact .inr ⟨h, fun _ => hasT_spec.1 h2⟩
      · exact .inl h.symm
    · next h1 => exact .inr ⟨h, fun q => absurd (hasT_spec.2 q) h1⟩
  | y, b0 :: r, x + 1, b, h => by
    simp only [maskH, List.getElem?_cons_succ] at h ⊢
    have := maskH_get h
    rwa [show y + 1 + x = y + (x + 1) by omega] at this
def setL (H : List Bk) : List (Nat × Bk) → List Bk
  | [] => H
  | (x, b) :: r => setL (H.set x b) r
theorem setL_len : ∀ (md : List (Nat × Bk)) (H : List Bk), (setL H md).length = H.length
  | [], _ => rfl
  | (x, b) :: r, H => by simp [setL, setL_len r]
theorem setL_out : ∀ (md : List (Nat × Bk)) (H : List Bk) (x : Nat), (∀ b, (x, b) ∉ md) → (setL H md)[x]? = H[x]?
  | [], _, _, _ => rfl
  | (y, b) :: r, H, x, h => by
    have h1 : y ≠ x := fun e => h b (by simp [e])
    rw [setL, setL_out r _ x fun b' hb => h b' (by simp [hb]), List.getElem?_set_ne h1]
theorem setL_congr : ∀ (md : List (Nat × Bk)) {H H' : List Bk} {x : Nat}, H.length = H'.length → H[x]? = H'[x]? → (setL H md)[x]? = (setL H' md)[x]?
  | [], _, _, _, _, h => h
  | (y, b) :: r, H, H', x, hl, h => by
    refine setL_congr r (by simp [hl]) ?_
    by_cases e : y = x
    · subst e
      by_cases q : y < H.length
      · rw [List.getElem?_set_self q, List.getElem?_set_self (by omega)]
      · rw [List.getElem?_eq_none (by simp; omega), List.getElem?_eq_none (by simp; omega)]
    · rw [List.getElem?_set_ne e, List.getElem?_set_ne e, h]
theorem setL_app : ∀ (md : List (Nat × Bk)) {H X : List Bk}, (∀ p ∈ md, p.1 < H.length) → setL (H ++ X) md = setL H md ++ X
  | [], _, _, _ => rfl
  | (y, b) :: r, H, X, h => by
    rw [setL, setL, List.set_append_left _ _ (h (y, b) (by simp)), setL_app r fun p hp => by simp; exact h p (by simp [hp])]
theorem setL_cat : ∀ (a b : List (Nat × Bk)) {H : List Bk}, setL H (a ++ b) = setL (setL H a) b
  | [], _, _ => rfl
  | (y, c) :: r, b, H => by rw [List.cons_append, setL, setL, setL_cat r b]
/-- what an operation does, among blocks of which some are not laid yet and some are not looked at -/
def OpZ (P : Program) (H : List Bk) (ρ : Operand → D) (o : Oper) (d : D) (nw : List Bk) (md : List (Nat × Bk)) : Prop :=
  ∀ (B : Base) (Hx : List Bk) (w : World) (E : Env) (a : Act), (∀ x, DRep w E (ρ x) (a.eval x)) → WRel B Hx E w → (H ++ nw).length ≤ Hx.length → Compat H nw Hx → Fresh E H.length (H.length + nw.length) → ∀ (K : Act → World → Prop) (Q : Exit → Act → World → Prop),
    (∀ v w' E', WRel B (setL Hx md) E' w' → E.le w w' E' → E.own E' → (∀ x, (x < H.length ∨ H.length + nw.length ≤ x) → (∀ b, (x, b) ∉ md) → E'.σ x = E.σ x ∧ E'.κ x = E.κ x) → DRep w' E' d v → K (a.put o.dst v) w') → o.wp P a w K Q
theorem OpX.z {P : Program} {H : List Bk} {ρ : Operand → D} {o : Oper} {d : D} {nw : List Bk} (h : OpX P H ρ o d nw) : OpZ P H ρ o d nw [] :=
  fun B Hx w E a h1 h2 _ h3 h4 K Q hk => h B Hx w E a h1 h2 h3 h4 K Q fun v w' E' g1 g2 g3 g4 g5 => hk v w' E' g1 g2 g3 (fun x hx _ => g4 x hx) g5
theorem EEff.z {P : Program} {H : List Bk} {ρ : Operand → D} {o : Oper} {d : D} {b : Nat} {b' : Bk} (h : ∀ Hx, Compat H [] Hx → EEff P Hx ρ o (Hx.set b b') d) : OpZ P H ρ o d [] [(b, b')] := fun B Hx w E a h1 h2 _ h3 h4 K Q hk => by
  obtain ⟨nx, v, w', E', e1, e2, e3, e4, e5, e6, e7⟩ := h Hx h3 B w E a.eval h1 h2
  unfold Oper.wp
  rw [e1]
  have fin := hk v w' E' e3 e4 e5 (fun x _ hx => e7 x (List.getElem?_set_ne fun e => hx b' (by simp [e]))) e6
  rcases e2 with rfl | ⟨rfl, rfl⟩
  · exact fin
  · exact fin
theorem ReqQ.put {b : Bool} {p : Unit → Prop} {K : Prop} (h : p ()) (hk : K) : ReqQ b p K := by
  cases b
  · exact ⟨h, fun _ => hk⟩
  · exact hk
def blkOf : D → Option Nat
  | .ptr b _ _ => some b
  | .rp _ b _ _ _ => some b
  | .osl _ b _ _ _ _ => some b
  | _ => none
theorem sStore_z {P : Program} {T : Tab} {H : List Bk} {ρ : Operand → D} {o : Oper} (hT : T.ok P) {t : Nat} {a x : Operand} (ho : o.op = .store t a x) {K : List Bk → Prop} (hk : sStore T H o t (ρ a) (ρ x) K) : ∃ b b', blkOf (ρ a) = some b ∧ b < H.length ∧ OpZ P H ρ o (.tup []) [] [(b, b')] ∧ K (H.set b b') := by
  have key : ∀ {b : Nat} {b' : Bk}, (∀ Hx, Compat H [] Hx → sStore T Hx o t (ρ a) (ρ x) fun H' => H' = Hx.set b b') → OpZ P H ρ o (.tup []) [] [(b, b')] := fun h => EEff.z fun Hx hc => by
    obtain ⟨H', h1, rfl⟩ := sStore_eff hT ho (h Hx hc)
    exact h1
  unfold sStore at hk
  split at hk
  · next ti m hti hm =>
    split at hk
    · next hc =>
      split at hk
      · next b ver off hd =>
        split at hk
        · next l hl =>
          split at hk
          · next hcc =>
            refine ⟨b, _, by rw [hd]; rfl, (List.getElem?_eq_some_iff.1 hl).1, key fun Hx hx => ?_, hk⟩
            unfold sStore
            simp only [hti, hm, hc, if_true, hd, hx.of (b := .cells l) (by simpa using hl) (by simp)]
            rw [if_pos hcc]
            trivial
          · cases hk
        · cases hk
      · next n b ver i off hd =>
        split at hk
        · next ty n' ver' r hl =>
          split at hk
          · next hcc =>
            obtain ⟨hlt, hk⟩ := ReqQ.get hk ltLit_spec
            refine ⟨b, _, by rw [hd]; rfl, (List.getElem?_eq_some_iff.1 hl).1, key fun Hx hx => ?_, hk⟩
            unfold sStore
            simp only [hti, hm, hc, if_true, hd, hx.of (b := .row ty n' ver' r) (by simpa using hl) (by simp)]
            rw [if_pos hcc]
            exact ReqQ.put hlt trivial
          · cases hk
        · cases hk
      · cases hk
    · cases hk
  · cases hk
theorem elemsOf_mono {H Hx : List Bk} (hc : Compat H [] Hx) {d : D} {n : Nat} {r : RE} {m : IE} (h : elemsOf H d = some (n, r, m)) : elemsOf Hx d = some (n, r, m) := by
  unfold elemsOf at h ⊢
  split at h
  · exact h
  · exact h
  · next n' b ver nb lo len =>
    split at h
    · next ty n2 ver2 r2 hb =>
      rw [hc.of (b := .row ty n2 ver2 r2) (by simpa using hb) (by simp)]
      exact h
    · cases h
  · cases h
theorem sAppend_z {P : Program} {T : Tab} {H : List Bk} {ρ : Operand → D} {o : Oper} (hT : T.ok P) {t : Nat} {s x : Operand} (ho : o.op = .call ⟨.builtin .append, #[s, x], #[t, t]⟩) {K : List Bk → D → Prop} (hs : ρ s ≠ .nils) (hk : sAppend T H o t (ρ s) (ρ x) K) : ∃ b b' d, blkOf (ρ s) = some b ∧ b < H.length ∧ OpZ P H ρ o d [] [(b, b')] ∧ K (H.set b b') d := by
  have key : ∀ {b : Nat} {b' : Bk} {d : D}, (∀ Hx, Compat H [] Hx → sAppend T Hx o t (ρ s) (ρ x) fun H' d' => H' = Hx.set b b' ∧ d' = d) → OpZ P H ρ o d [] [(b, b')] := fun h => EEff.z fun Hx hc => by
    obtain ⟨H', d', h1, rfl, rfl⟩ := sAppend_eff hT ho (h Hx hc)
    exact h1
  unfold sAppend at hk
  split at hk
  · next e sz by_ z n rx m ht hel =>
    have key2 : ∀ {Hx}, Compat H [] Hx → elemsOf Hx (ρ x) = some (n, rx, m) := fun hc => elemsOf_mono hc hel
    split at hk
    · next te hte =>
      split at hk
      · next hc =>
        split at hk
        · next hs' => exact absurd hs' hs
        · next n' bb ver nb len hs' =>
          split at hk
          · next ty n2 ver2 r hb =>
            split at hk
            · next hcc =>
              obtain ⟨hq, hk⟩ := ReqQ.get hk (fun hb => by
                simp only [Bool.and_eq_true, decide_eq_true_eq] at hb
                obtain ⟨k1, k2, k3⟩ := litsOK_spec hb.1.1
                obtain ⟨j1, j2, j3⟩ := litsOK_spec hb.1.2
                exact ⟨k1, j1, k2, j2, by omega, small_bytes (by omega) hb.2⟩)
              refine ⟨bb, _, _, by rw [hs']; rfl, (List.getElem?_eq_some_iff.1 hb).1, key fun Hx hx => ?_, hk⟩
              unfold sAppend
              simp only [ht, key2 hx, hte, hs', hx.of (b := .row ty n2 ver2 r) (by simpa using hb) (by simp)]
              rw [if_pos hc, if_pos hcc]
              exact ReqQ.put hq (by simp)
            · cases hk
          · cases hk
        · cases hk
      · cases hk
    · cases hk
  · cases hk
/-! A call that own blocks are given up to. -/
def Env.give (E : Env) (xs : List Nat) : Env := ⟨fun b => E.G b ∨ ∃ x ∈ xs, E.σ x = some b, fun y => if y ∈ xs then none else E.σ y, fun y => if y ∈ xs then E.κ y + 1 else E.κ y, E.ζ⟩
theorem Env.give_le (E : Env) (xs : List Nat) (w : World) : E.le w w (E.give xs) := ⟨fun _ h => .inl h, fun _ _ _ => rfl⟩
theorem Env.give_own (E : Env) (xs : List Nat) : E.own (E.give xs) := by
  refine ⟨fun b => ?_, fun b e => ?_⟩
  · simp only [Env.give]; split <;> omega
  · simp only [Env.give] at e ⊢
    split at e
    · omega
    · next q => rw [if_neg q]; refine ⟨?_, fun _ _ => ?_⟩ <;> first | rfl | trivial
def deadL (xs : List Nat) : Nat → Nat → List Bk
  | _, 0 => []
  | y, n + 1 => (if hasT xs y then .dead else .cells []) :: deadL xs (y + 1) n
theorem deadL_gone {xs : List Nat} : ∀ {n y x : Nat}, x < n → goneB (deadL xs y n) x = true → y + x ∈ xs
  | 0, _, _, h, _ => by omega
  | n + 1, y, 0, _, h => by
    simp only [deadL, goneB, List.getElem?_cons_zero] at h
    by_cases q : hasT xs y = true
    · exact hasT_spec.1 q
    · rw [if_neg q] at h; cases h
  | n + 1, y, x + 1, hx, h => by
    have : goneB (deadL xs (y + 1) n) x = true := by simpa [deadL, goneB] using h
    have := deadL_gone (by omega) this
    rwa [show y + 1 + x = y + (x + 1) by omega] at this
def deads (xs : List Nat) : List (Nat × Bk) := xs.map fun x => (x, .dead)
theorem setL_deads : ∀ (xs : List Nat) {H : List Bk} {x : Nat} {b : Bk}, (setL H (deads xs))[x]? = some b → b = .dead ∨ (x ∉ xs ∧ H[x]? = some b)
  | [], H, x, b, h => .inr ⟨by simp, h⟩
  | y :: r, H, x, b, h => by
    rcases setL_deads r (H := H.set y .dead) h with q | ⟨q1, q2⟩
    · exact .inl q
    · by_cases e : y = x
      · subst e
        rw [List.getElem?_set] at q2
        simp only [if_true] at q2
        split at q2
        · exact .inl (Option.some.inj q2).symm
        · cases q2
      · rw [List.getElem?_set_ne e] at q2
        exact .inr ⟨by simp [q1, Ne.symm e], q2⟩
theorem WRel.give {B : Base} {Hx : List Bk} {E : Env} {w : World} (hw : WRel B Hx E w) (xs : List Nat) (hx : ∀ x ∈ xs, x < Hx.length) : WRel B (setL Hx (deads xs)) (E.give xs) w := by
  have sub : ∀ {x c}, (E.give xs).σ x = some c → x ∉ xs ∧ E.σ x = some c := fun {x c} h => by
    simp only [Env.give] at h
    split at h
    · cases h
    · next q => exact ⟨q, h⟩
  refine ⟨fun x y c h1 h2 => hw.inj x y c (sub h1).2 (sub h2).2, fun x c h1 => ?_, fun b hb => ?_, fun x b' hb => ?_, fun x hx' => ?_, fun b hb => ?_, fun b hb => .inl (hw.g0 b hb), fun b hb => ?_, hw.bel, B.stab _ _ _ _ (E.give_le xs w) (E.give_own xs) hw.phi⟩
  · obtain ⟨h2, h3⟩ := sub h1
    obtain ⟨q1, q2, q3⟩ := hw.own x c h3
    refine ⟨q1, q2, fun q => ?_⟩
    rcases q with q | ⟨y, hy, hc⟩
    · exact q3 q
    · exact h2 (by rw [hw.inj x y c h3 hc]; exact hy)
  · simp only [Env.give] at hb ⊢
    split at hb
    · omega
    · next q => rw [if_neg q]; exact hw.wf b hb
  · rcases setL_deads xs hb with q | ⟨q1, q2⟩
    · subst q
      exact .inr ⟨trivial, fun _ _ => trivial, fun _ => trivial⟩
    · have e1 : (E.give xs).κ x = E.κ x := by simp [Env.give, q1]
      have e2 : (E.give xs).σ x = E.σ x := by simp [Env.give, q1]
      rw [e1, e2]
      rcases hw.heap x b' q2 with q | ⟨h1, h2, h3⟩
      · exact .inl q
      · exact .inr ⟨h1, fun c hc => (h2 c hc).move (E.give_le xs w) (E.give_own xs) rfl rfl, h3⟩
  · rw [setL_len] at hx'
    have : x ∉ xs := fun q => by have := hx x q; omega
    simp only [Env.give, if_neg this]
    exact hw.out x hx'
  · rcases hb with hb | ⟨x, _, hc⟩
    · exact hw.good b hb
    · exact (hw.own x b hc).2.1
  · rcases hb with hb | ⟨x, _, hc⟩
    · exact hw.gn b hb
    · exact .inr (hw.own x b hc).1
inductive GiveP (P : Program) (n : Nat) (args : List D) (H : List Bk) (xs : List Nat) (K : D → Prop) : Prop
  | mk (args' : List D) (d : D) (hp : Pure P n args' d) (hs : SnDs H (deadL xs 0 H.length) args args') (hd : args'.all (D.dataB 8) = true) (hk : K d)
theorem GiveP.z {P : Program} {H : List Bk} {ρ : Operand → D} {o : Oper} {f : Operand} {args : Array Operand} {ats : Array TypeId} (ho : o.op = .call ⟨.value f, args, ats⟩) {n : Nat} {first cap : List D} (hf : ρ f = .fn (.func n) first cap) {xs : List Nat} (hxs : ∀ x ∈ xs, x < H.length) {K : D → Prop}
    (h : GiveP P n (first ++ args.toList.map ρ ++ cap) H xs K) : ∃ d, OpZ P H ρ o d [] (deads xs) ∧ K d := by
  obtain ⟨args', d, hp, hs, hd, hk⟩ := h
  refine ⟨d, fun B Hx w E a hev hw hle hc hfr K' Q hK' => ?_, hk⟩
  obtain ⟨vs, hex, hl⟩ := call_eval (P := P) ho hf hp.1 hev
  unfold Oper.wp
  rw [hex]
  obtain ⟨h1, h2⟩ := hs.get
  have hxl : ∀ x ∈ xs, x < Hx.length := fun x hx => by have := hxs x hx; simp at hle; omega
  have hg := hw.give xs hxl
  have hH := hc.heap hw.heap
  refine (hp.2 w (E.give xs).G vs hg.good ⟨by rw [← h1]; exact hl.1, fun i x v hx hv' => ?_⟩).mono ?_
  · have hlt := (List.getElem?_eq_some_iff.1 hx).1
    have hx0 : (first ++ args.toList.map ρ ++ cap)[i]? = some ((first ++ args.toList.map ρ ++ cap)[i]'(by omega)) := List.getElem?_eq_getElem (by omega)
    have := (h2 i _ x hx0 hx).rep hH (E.give_le xs w) (E.give_own xs) (fun y c hy hg hc => .inr ⟨y, by have := deadL_gone hy hg; rwa [Nat.zero_add] at this, hc⟩) (hl.2 i _ v hx0 hv')
    exact D.dataB_rep (E := E.give xs) (E' := Env.of (E.give xs).G) rfl 8 (List.all_eq_true.1 hd x (List.mem_of_getElem? hx)) this
  · rintro e w' ⟨v, G', rfl, q2, q3, q4, q5, q6⟩
    have k1 := hg.kept q2 q3 q4 q5
    refine hK' v w' ⟨G', (E.give xs).σ, (E.give xs).κ, (E.give xs).ζ⟩ k1 ?_ ?_ (fun x _ hx => ?_) (DRep.undata (E := ⟨G', (E.give xs).σ, (E.give xs).κ, (E.give xs).ζ⟩) k1.wf q6)
    · have := Below.le_env (E := E) (G' := G') q2 hw.good fun b hb => q3 b (.inl hb)
      exact ⟨this.G, this.cell⟩
    · obtain ⟨g1, g2⟩ := E.give_own xs
      exact ⟨g1, g2⟩
    · have : x ∉ xs := fun q => hx .dead (by simp [deads, q])
      simp [Env.give, this]
/-! The operations of a region, each seen in the order of the text. -/
def readsF (ops : Array Oper) : Bool := (List.range ops.size).all fun i => match ops[i]? with
  | none => true
  | some o => (List.range ops.size).all fun j => match (ops[j]?).bind (·.dst) with
    | none => true
    | some t => if o.op.operands.any (isT t) then reach ops 6 j i else true
def dstF (ops : Array Oper) : Bool := (List.range ops.size).all fun i => (List.range ops.size).all fun j => if i = j then true else match (ops[i]?).bind (·.dst), (ops[j]?).bind (·.dst) with
  | some t, some t' => if t = t' then false else true
  | _, _ => true
def meets : List Nat → List Nat → Bool
  | [], _ => false
  | x :: r, l => if hasT l x then true else meets r l
def ordF (ops : Array Oper) (mods : List (Nat × List Nat)) : Bool := (List.range ops.size).all fun i => (List.range ops.size).all fun j => if i < j then (if meets (touch mods i) (touch mods j) then reach ops 6 i j else true) else true
def footOK (ops : Array Oper) (mods : List (Nat × List Nat)) : Bool := tailWB .any ops ops.size && readsF ops && dstF ops && ordF ops mods
def within (lo hi : Nat) : List Nat → Bool
  | [] => false
  | x :: r => if lo ≤ x then (if x < hi then true else within lo hi r) else within lo hi r
def freshOK (ops : Array Oper) (mods : List (Nat × List Nat)) (k lo hi : Nat) : Bool := (List.range ops.size).all fun j => if within lo hi (touch mods j) then reach ops 6 k j else true
theorem meets_spec : ∀ {l m : List Nat} {x : Nat}, x ∈ l → x ∈ m → meets l m = true
  | [], _, _, h, _ => by cases h
  | y :: r, m, x, h, h2 => by
    unfold meets
    split
    · rfl
    · next q =>
      rcases List.mem_cons.1 h with rfl | h
      · exact absurd (hasT_spec.2 h2) q
      · exact meets_spec h h2
theorem within_spec {lo hi : Nat} : ∀ {l : List Nat} {x : Nat}, x ∈ l → lo ≤ x → x < hi → within lo hi l = true
  | [], _, h, _, _ => by cases h
  | y :: r, x, h, h1, h2 => by
    unfold within
    rcases List.mem_cons.1 h with rfl | h
    · rw [if_pos h1, if_pos h2]
    · split
      · split
        · rfl
        · exact within_spec h h1 h2
      · exact within_spec h h1 h2
/-- an operation that writes own blocks, or gives them up -/
def vopm (P : Program) (cx : Cx) (o : Oper) (fr : Fr) (Hm : List Bk) (xs : List Nat) (K : D → List (Nat × Bk) → Prop) : Prop := match o.op with
  | .call ⟨.value f, args, _⟩ => (match fr.ev f with
    | .fn (.func n) first cap => if xs.all (fun x => decide (x < Hm.length)) then GiveP P n (first ++ args.toList.map fr.ev ++ cap) Hm xs fun d => K d (deads xs) else StuckP o []
    | _ => StuckP o (opnds fr o))
  | .store t a x => (match blkOf (fr.ev a), xs with
    | some b, [x0] => if b = x0 then sStore cx.T Hm o t (fr.ev a) (fr.ev x) fun H' => K (.tup []) [(x0, H'.getD x0 .dead)] else StuckP o []
    | _, _ => StuckP o [])
  | .call ⟨.builtin .append, ⟨[s, x]⟩, ⟨[t, t']⟩⟩ => (match blkOf (fr.ev s), xs with
    | some b, [x0] => if b = x0 then (if t = t' then sAppend cx.T Hm o t (fr.ev s) (fr.ev x) fun H' d => K d [(x0, H'.getD x0 .dead)] else StuckP o []) else StuckP o []
    | _, _ => StuckP o [])
  | _ => StuckP o []
def vfoot (P : Program) (cx : Cx) (ops : Array Oper) (mods : List (Nat × List Nat)) : Nat → List Oper → Fr → List Bk → (Fr → List Bk → Prop) → Prop
  | _, [], fr, H, K => K fr H
  | i, o :: os, fr, H, K => match o.guard with
    | some _ => StuckP o []
    | none => match touch mods i with
      | [] => vopq P cx (baseB ops o) o fr (maskH (allM mods) [] 0 H) fun fr' Hm => if freshOK ops mods i H.length Hm.length then vfoot P cx ops mods (i + 1) os fr' (H ++ Hm.drop H.length) K else StuckP o []
      | x :: xs => if dstB cx.nt o.dst then vopm P cx o fr (maskH (allM mods) (x :: xs) 0 H) (x :: xs) fun d md => vfoot P cx ops mods (i + 1) os (fr.put o.dst d) (setL H md) K else StuckP o []
structure YS where
  fr : Fr
  H : List Bk
  d : D
  nw : List Bk
  md : List (Nat × Bk)
inductive YT (P : Program) (cx : Cx) (ops : Array Oper) (mods : List (Nat × List Nat)) : Nat → List Oper → Fr → List Bk → List YS → Fr → List Bk → Prop
  | nil {i fr H} : YT P cx ops mods i [] fr H [] fr H
  | cons {i o os fr H d nw md tr fr' H'} (hg : o.guard = none) (hd : dstB cx.nt o.dst = true) (hop : OpZ P (maskH (allM mods) (touch mods i) 0 H) (res o fr.ev) o d nw md) (hmd : ∀ p ∈ md, p.1 ∈ touch mods i ∧ p.1 < H.length)
      (hnw : ∀ x, H.length ≤ x → x < H.length + nw.length → ∀ j, j < ops.size → x ∈ touch mods j → reach ops 6 i j = true) (rest : YT P cx ops mods (i + 1) os (fr.put o.dst d) (setL (H ++ nw) md) tr fr' H') : YT P cx ops mods i (o :: os) fr H (⟨fr, H, d, nw, md⟩ :: tr) fr' H'
section
variable {P : Program} {cx : Cx} {ops : Array Oper} {mods : List (Nat × List Nat)}
theorem vopm_z (hT : cx.T.ok P) {o : Oper} {fr : Fr} {Hm : List Bk} {xs : List Nat} {K : D → List (Nat × Bk) → Prop} (hk : vopm P cx o fr Hm xs K) : ∃ d md, OpZ P Hm (res o fr.ev) o d [] md ∧ (∀ p ∈ md, p.1 ∈ xs ∧ p.1 < Hm.length) ∧ K d md := by
  unfold vopm at hk
  split at hk
  · next f args ats ho =>
    split at hk
    · next n first cap hf =>
      split at hk
      · next hx =>
        have hx' : ∀ x ∈ xs, x < Hm.length := fun x hm => of_decide_eq_true (List.all_eq_true.1 hx x hm)
        have e1 : res o fr.ev f = .fn (.func n) first cap := by rw [res_in (by rw [ho]; simp [Op.operands, Call.operands]), hf]
        have e2 : args.toList.map (res o fr.ev) = args.toList.map fr.ev := List.map_congr_left fun x hx => res_in (by rw [ho]; simp only [Op.operands, Call.operands]; simp; exact .inr (by simpa using hx))
        obtain ⟨d, h1, h2⟩ := GiveP.z ho e1 hx' (by rw [e2]; exact hk)
        exact ⟨d, _, h1, fun p hp => by simp only [deads, List.mem_map] at hp; obtain ⟨x, hx, rfl⟩ := hp; exact ⟨hx, hx' x hx⟩, h2⟩
      · cases hk
    · cases hk
  · next t a x ho =>
    split at hk
    · next b x0 hb =>
      split at hk
      · next e =>
        subst e
        have e1 : res o fr.ev a = fr.ev a := res_in (by rw [ho]; simp [Op.operands])
        have e2 : res o fr.ev x = fr.ev x := res_in (by rw [ho]; simp [Op.operands])
        obtain ⟨b1, b', h1, h2, h3, h4⟩ := sStore_z (ρ := res o fr.ev) hT ho (by rw [e1, e2]; exact hk)
        rw [e1, hb] at h1
        cases h1
        rw [List.getD_eq_getElem?_getD, List.getElem?_set_self h2] at h4
        exact ⟨_, _, h3, fun p hp => by simp only [List.mem_singleton] at hp; subst hp; exact ⟨by simp, h2⟩, h4⟩
      · cases hk
    · cases hk
  · next s x t t' ho =>
    split at hk
    · next b x0 hb =>
      split at hk
      · next e =>
        subst e
        split at hk
        · next e =>
          subst e
          have e1 : res o fr.ev s = fr.ev s := res_in (by rw [ho]; simp [Op.operands, Call.operands])
          have e2 : res o fr.ev x = fr.ev x := res_in (by rw [ho]; simp [Op.operands, Call.operands])
          obtain ⟨b1, b', d, h1, h2, h3, h4⟩ := sAppend_z (ρ := res o fr.ev) hT ho (by rw [e1]; intro q; rw [q] at hb; cases hb) (by rw [e1, e2]; exact hk)
          rw [e1, hb] at h1
          cases h1
          rw [List.getD_eq_getElem?_getD, List.getElem?_set_self h2] at h4
          exact ⟨_, _, h3, fun p hp => by simp only [List.mem_singleton] at hp; subst hp; exact ⟨by simp, h2⟩, h4⟩
        · cases hk
      · cases hk
    · cases hk
  · cases hk
theorem vfoot_yt (hT : cx.T.ok P) : ∀ (os : List Oper) {i : Nat} {fr : Fr} {H : List Bk} {K : Fr → List Bk → Prop}, vfoot P cx ops mods i os fr H K → ∃ tr fr' H', YT P cx ops mods i os fr H tr fr' H' ∧ K fr' H'
  | [], i, fr, H, K, hk => ⟨[], fr, H, .nil, hk⟩
  | o :: os, i, fr, H, K, hk => by
    unfold vfoot at hk
    split at hk
    · cases hk
    · next hg =>
      split at hk
      · next ht =>
        obtain ⟨t, d, nw, h1, h2, h3, h4⟩ := vopq_trace hT hk
        simp only [List.length_append, maskH_len] at h4
        split at h4
        · next hf =>
          rw [← maskH_len (allM mods) [] 0 H, List.drop_left] at h4
          obtain ⟨tr, fr', H', h5, h6⟩ := vfoot_yt hT os h4
          refine ⟨_, fr', H', .cons hg (by rw [h1]; simpa [dstB] using h2) (by rw [ht]; exact h3.z) (fun p hp => by cases hp) (fun x hx1 hx2 j hj hxj => ?_) (by rw [h1]; exact h5), h6⟩
          unfold freshOK at hf
          have := List.all_eq_true.1 hf j (List.mem_range.2 hj)
          rwa [if_pos (within_spec hxj hx1 hx2)] at this
        · cases h4
      · next x xs ht =>
        split at hk
        · next hd =>
          obtain ⟨d, md, h1, h2, h3⟩ := vopm_z hT hk
          obtain ⟨tr, fr', H', h5, h6⟩ := vfoot_yt hT os h3
          refine ⟨_, fr', H', .cons (nw := []) hg hd (by rw [ht]; exact h1) (fun p hp => by have := h2 p hp; rw [maskH_len] at this; rw [ht]; exact this) (fun x hx1 hx2 => by simp at hx2; omega) (by rw [List.append_nil]; exact h5), h6⟩
        · cases hk
def mdsOf (tr : List YS) : List (Nat × Bk) := (tr.map (·.md)).flatten
def nwsOf (tr : List YS) : List Bk := (tr.map (·.nw)).flatten
theorem YT.get {i0 : Nat} {os : List Oper} {fr fr' : Fr} {H H' : List Bk} {tr : List YS} (h : YT P cx ops mods i0 os fr H tr fr' H') : (∀ (a b : Nat) oa ob t, os[a]? = some oa → os[b]? = some ob → oa.dst = some t → ob.dst = some t → a = b) →
    tr.length = os.length ∧
    (∀ (k : Nat) s, tr[k]? = some s → ∃ o, os[k]? = some o ∧ o.guard = none ∧ dstB cx.nt o.dst = true ∧ OpZ P (maskH (allM mods) (touch mods (i0 + k)) 0 s.H) (res o s.fr.ev) o s.d s.nw s.md ∧ (∀ p ∈ s.md, p.1 ∈ touch mods (i0 + k) ∧ p.1 < s.H.length) ∧
      (∀ x, s.H.length ≤ x → x < s.H.length + s.nw.length → ∀ j, j < ops.size → x ∈ touch mods j → reach ops 6 (i0 + k) j = true) ∧ (∃ p, setL (H ++ nwsOf tr) (mdsOf (tr.take k)) = s.H ++ s.nw ++ p) ∧ (H.length ≤ s.H.length) ∧
      (∀ (j : Nat) s', j < k → tr[j]? = some s' → s'.H.length + s'.nw.length ≤ s.H.length) ∧
      (∀ t, (∀ (j : Nat) o', j < k → os[j]? = some o' → o'.dst ≠ some t) → s.fr.get t = fr.get t) ∧ (∀ t (j : Nat) s' o', j < k → tr[j]? = some s' → os[j]? = some o' → o'.dst = some t → s.fr.get t = s'.d)) ∧
    H' = setL (H ++ nwsOf tr) (mdsOf tr) ∧ (∀ t, (∀ (j : Nat) o', os[j]? = some o' → o'.dst ≠ some t) → fr'.get t = fr.get t) ∧ (∀ t (j : Nat) s' o', tr[j]? = some s' → os[j]? = some o' → o'.dst = some t → fr'.get t = s'.d) := by
  induction h with
  | nil => exact fun _ => ⟨rfl, fun k s hs => by simp at hs, by simp [nwsOf, mdsOf, setL], fun _ _ => rfl, fun t j s' o' hs => by simp at hs⟩
  | @cons i o os fr H d nw md tr fr' H' hg hd hop hmd hnw rest ih =>
    intro hu
    obtain ⟨h1, h2, h3, h4, h5⟩ := ih fun a b oa ob t q1 q2 q3 q4 => by
      have := hu (a + 1) (b + 1) oa ob t (by simpa using q1) (by simpa using q2) q3 q4
      omega
    have hput : ∀ t, o.dst ≠ some t → (fr.put o.dst d).get t = fr.get t := fun t ht => by
      unfold Fr.put
      split
      · next t' e => rw [Fr.get_set, if_neg fun q => ht (by rw [e, q])]
      · rfl
    have hput2 : ∀ t, o.dst = some t → (fr.put o.dst d).get t = d := fun t ht => by
      rw [ht]; simp [Fr.put, Fr.get_set]
    have hbase : setL (H ++ nwsOf (⟨fr, H, d, nw, md⟩ :: tr)) md = setL (H ++ nw) md ++ nwsOf tr := by
      rw [← setL_app md fun p hp => by have := (hmd p hp).2; simp; omega]
      simp [nwsOf]
    have hnot : ∀ t, o.dst = some t → ∀ (j : Nat) o', os[j]? = some o' → o'.dst ≠ some t := fun t ht j o' ho' e => by
      have := hu 0 (j + 1) o o' t rfl (by simpa using ho') ht e
      omega
    refine ⟨by simp [h1], fun k s hs => ?_, ?_, fun t ht => ?_, fun t j s' o' hs ho' hd' => ?_⟩
    · cases k with
      | zero =>
        simp only [List.getElem?_cons_zero, Option.some.injEq] at hs
        subst hs
        exact ⟨o, rfl, hg, hd, hop, hmd, hnw, ⟨nwsOf tr, by simp [mdsOf, setL, nwsOf]⟩, Nat.le_refl _, fun j s' hj => by omega, fun t _ => rfl, fun t j s' o' hj => by omega⟩
      | succ k =>
        simp only [List.getElem?_cons_succ] at hs
        obtain ⟨o1, g1, g2, g3, g4, g5, g6, ⟨p, g7⟩, g8, g9, g10, g11⟩ := h2 k s hs
        have e0 : i + 1 + k = i + (k + 1) := by omega
        rw [setL_len, List.length_append] at g8
        refine ⟨o1, by simpa using g1, g2, g3, by rw [← e0]; exact g4, by rw [← e0]; exact g5, by rw [← e0]; exact g6, ⟨p, ?_⟩, by omega, fun j s' hj hs' => ?_, fun t ht => ?_, fun t j s' o' hj hs' ho' hd' => ?_⟩
        · rw [← g7]
          simp only [List.take_succ_cons, mdsOf, List.map_cons, List.flatten_cons, setL_cat]
          rw [hbase]
        · cases j with
          | zero =>
            simp only [List.getElem?_cons_zero, Option.some.injEq] at hs'
            subst hs'
            exact g8
          | succ j => exact g9 j s' (by omega) (by simpa using hs')
        · rw [g10 t fun j o' hj ho' => ht (j + 1) o' (by omega) (by simpa using ho')]
          exact hput t (ht 0 o (by omega) rfl)
        · cases j with
          | zero =>
            simp only [List.getElem?_cons_zero, Option.some.injEq] at hs' ho'
            subst hs' ho'
            rw [g10 t fun j o' _ ho' => hnot t hd' j o' ho']
            exact hput2 t hd'
          | succ j => exact g11 t j s' o' (by omega) (by simpa using hs') (by simpa using ho') hd'
    · rw [h3]
      simp only [mdsOf, List.map_cons, List.flatten_cons, setL_cat]
      rw [hbase]
    · rw [h4 t fun j o' ho' => ht (j + 1) o' (by simpa using ho')]
      exact hput t (ht 0 o rfl)
    · cases j with
      | zero =>
        simp only [List.getElem?_cons_zero, Option.some.injEq] at hs ho'
        subst hs ho'
        rw [h4 t fun j o' ho' => hnot t hd' j o' ho']
        exact hput2 t hd'
      | succ j => exact h5 t j s' o' (by simpa using hs) (by simpa using ho') hd'
theorem reach_lt (T : TailW .any ops ops.size) : ∀ (f i j : Nat), reach ops f i j = true → i < j
  | 0, _, _, h => by cases h
  | f + 1, i, j, h => by
    unfold reach at h
    split at h
    · cases h
    · next o ho =>
      split at h
      · next hw =>
        obtain ⟨e, he, hb, rfl⟩ := waitsOn_spec hw
        exact T.back j o ho e he hb
      · obtain ⟨e, he, hp⟩ := anyE_spec h
        split at hp
        · next hb =>
          have := reach_lt T f i e.on hp
          have := T.back j o ho e (Array.mem_toList_iff.1 he) hb
          omega
        · cases hp
theorem mdsOf_take_succ {tr : List YS} {k : Nat} {s : YS} (h : tr[k]? = some s) : mdsOf (tr.take (k + 1)) = mdsOf (tr.take k) ++ s.md := by
  unfold mdsOf
  rw [List.take_add_one, h]
  simp
theorem FootP.intro {fr : Fr} {H : List Bk} {K : Fr → List Bk → Prop} (hT : cx.T.ok P) (hm : P.follows .mixedOrders = true) (mods : List (Nat × List Nat)) (hok : footOK ops mods = true) (h : vfoot P cx ops mods 0 ops.toList fr H K) : FootP P cx ops fr H K := by
  refine ⟨fun B E a w hnt hh0 hr Q hQ id => ?_⟩
  obtain ⟨tr, fr', H', ht, hK⟩ := vfoot_yt hT _ h
  unfold footOK at hok
  simp only [Bool.and_eq_true] at hok
  obtain ⟨⟨⟨ok1, ok2⟩, ok3⟩, ok4⟩ := hok
  have T := tailWB_spec ok1
  obtain ⟨n, hn⟩ : ∃ n, n = ops.size := ⟨_, rfl⟩
  have hlt : ∀ {j : Nat} {o : Oper}, ops[j]? = some o → j < n := fun ho => by rw [hn]; exact (Array.getElem?_eq_some_iff.1 ho).1
  have uniq : ∀ (a b : Nat) oa ob t, ops[a]? = some oa → ops[b]? = some ob → oa.dst = some t → ob.dst = some t → a = b := fun a b oa ob t q1 q2 q3 q4 => by
    unfold dstF at ok3
    have k1 := List.all_eq_true.1 (List.all_eq_true.1 ok3 a (List.mem_range.2 (by rw [← hn]; exact hlt q1))) b (List.mem_range.2 (by rw [← hn]; exact hlt q2))
    by_cases e : a = b
    · exact e
    · rw [if_neg e, q1, q2] at k1
      simp only [Option.bind_some, q3, q4, if_true] at k1
      cases k1
  have reads : ∀ {i j : Nat} {o oj : Oper} {t : Nat}, ops[i]? = some o → ops[j]? = some oj → oj.dst = some t → .tmp t ∈ o.op.operands → reach ops 6 j i = true := fun {i j o oj t} q1 q2 q3 q4 => by
    unfold readsF at ok2
    have k1 := List.all_eq_true.1 ok2 i (List.mem_range.2 (by rw [← hn]; exact hlt q1))
    rw [q1] at k1
    have k2 := List.all_eq_true.1 k1 j (List.mem_range.2 (by rw [← hn]; exact hlt q2))
    rw [q2] at k2
    simp only [Option.bind_some, q3] at k2
    rwa [if_pos (Array.any_eq_true'.2 ⟨.tmp t, q4, by simp [isT]⟩)] at k2
  have ord : ∀ {i j x : Nat}, i < j → j < n → x ∈ touch mods i → x ∈ touch mods j → reach ops 6 i j = true := fun {i j x} q1 q2 q3 q4 => by
    unfold ordF at ok4
    have k1 := List.all_eq_true.1 (List.all_eq_true.1 ok4 i (List.mem_range.2 (by omega))) j (List.mem_range.2 (by omega))
    rwa [if_pos q1, if_pos (meets_spec q3 q4)] at k1
  obtain ⟨g1, g2, g3, g4, g5⟩ := ht.get fun a b oa ob t q1 q2 => uniq a b oa ob t (by simpa using q1) (by simpa using q2)
  simp only [Nat.zero_add, Array.getElem?_toList] at g2 g4 g5
  have htl : tr.length = n := by rw [g1, hn]; simp
  obtain ⟨Hb, hHb⟩ : ∃ Hb, Hb = H ++ nwsOf tr := ⟨_, rfl⟩
  rw [← hHb] at g2 g3
  have hget : ∀ {i : Nat} {o : Oper}, ops[i]? = some o → ∃ s, tr[i]? = some s := fun ho => ⟨_, List.getElem?_eq_getElem (by rw [htl]; exact hlt ho)⟩
  -- what the blocks hold behind k operations, in the order of the text
  have mdM : ∀ {k : Nat} {x : Nat}, (∀ j, j < k → x ∉ touch mods j) → ∀ b, (x, b) ∉ mdsOf (tr.take k) := fun {k x} hx b hb => by
    unfold mdsOf at hb
    simp only [List.mem_flatten, List.mem_map] at hb
    obtain ⟨_, ⟨s, hs, rfl⟩, hb⟩ := hb
    obtain ⟨j, hj⟩ := List.getElem?_of_mem hs
    have hjk : j < k := by have := (List.getElem?_eq_some_iff.1 hj).1; simp at this; omega
    rw [List.getElem?_take, if_pos hjk] at hj
    obtain ⟨_, _, _, _, _, k5, _⟩ := g2 j s hj
    exact hx j hjk (k5 _ hb).1
  have stab : ∀ (d : Nat) {a x : Nat}, a + d ≤ n → (∀ j, a ≤ j → j < a + d → x ∉ touch mods j) → (setL Hb (mdsOf (tr.take (a + d))))[x]? = (setL Hb (mdsOf (tr.take a)))[x]? := by
    intro d
    induction d with
    | zero => exact fun _ _ => rfl
    | succ d ih =>
      intro a x had hx
      obtain ⟨s, hs⟩ : ∃ s, tr[a + d]? = some s := ⟨_, List.getElem?_eq_getElem (by omega)⟩
      rw [show a + (d + 1) = (a + d) + 1 by omega, mdsOf_take_succ hs, setL_cat, setL_out _ _ _ fun b hb => ?_]
      · exact ih (by omega) fun j h1 h2 => hx j h1 (by omega)
      · obtain ⟨_, _, _, _, _, k5, _⟩ := g2 _ s hs
        exact hx (a + d) (by omega) (by omega) (k5 _ hb).1
  let J : List Nat → Act → World → Prop := fun U a' w' => ∃ E' Hx, WRel B Hx E' w' ∧ Hx.length = Hb.length ∧ (∀ x, x ∉ allM mods → Hx[x]? = Hb[x]?) ∧
    (∀ x, x ∈ allM mods → ∀ k, k ≤ n → (∀ j, j < k → x ∈ touch mods j → j ∉ U) → (∀ j, k ≤ j → j < n → x ∈ touch mods j → j ∈ U) → Hx[x]? = (setL Hb (mdsOf (tr.take k)))[x]?) ∧ a'.tmps.size = B.nt ∧ a'.defers = B.df ∧
    (∀ t, (∀ (j : Nat) (o : Oper), ops[j]? = some o → o.dst ≠ some t) → DRep w' E' (fr.get t) (a'.tmps.getD t undef)) ∧ (∀ (j : Nat) (s : YS) (o : Oper) (t : Nat), j ∉ U → tr[j]? = some s → ops[j]? = some o → o.dst = some t → DRep w' E' s.d (a'.tmps.getD t undef)) ∧
    (∀ (j : Nat) (s : YS), j ∈ U → tr[j]? = some s → Fresh E' s.H.length (s.H.length + s.nw.length)) ∧ (∀ (j : Nat) (o : Oper), j ∉ U → ops[j]? = some o → ∀ e ∈ o.after, Region.binds .any e = true → e.on ∉ U)
  refine wp_region_any hm ?_
  rw [show wpAny P .any ops Q ops.size = wpAny P .any ops Q (n + 0) by rw [hn]; rfl]
  rw [← hn] at T
  refine wpAny_joint T J ?_ ?_ n (List.range n) _ a w.drew (by simp) List.nodup_range (by simp) (fun t => ?_) (fun t ht => by simpa using ht) (fun j o' hj hjn => absurd (List.mem_range.2 hj) hjn) ?_
  · intro U i o hUnd hiU hin ho hwait a' w' ⟨E', Hx, q1, q2, q3, q4, q5, q6, q7, q8, q9, q10⟩
    obtain ⟨s, hs⟩ := hget ho
    obtain ⟨o1, k1, k2, k3, k4, k5, k6, ⟨p, k7⟩, k8, k9, k10, k11⟩ := g2 i s hs
    rw [ho] at k1
    cases k1
    have hS : ∀ (j : Nat) (o : Oper), (j ∉ U) → ops[j]? = some o → ∀ e ∈ o.after, Region.binds .any e = true → e.on ∉ U := q10
    have rdy : ∀ {j}, reach ops 6 j i = true → j ∉ U := fun hr => reach_ready (S := fun j => j ∉ U) hS hr ho hwait
    have rch : ∀ {j}, reach ops 6 i j = true → j ∈ U := fun {j} hr => Classical.byContradiction fun q => reach_spec (S := fun j => j ∉ U) hS 6 i j hr q hiU
    have rlt : ∀ {f i j}, reach ops f i j = true → i < j := fun {f i j} hr => reach_lt (by rw [← hn]; exact T) f i j hr
    have cur : ∀ x, x ∈ touch mods i → Hx[x]? = (setL Hb (mdsOf (tr.take i)))[x]? := fun x hx => q4 x (touch_allM hx) i (by omega) (fun j hj hxj => rdy (ord hj hin hxj hx)) (fun j hj hjn hxj => by
      rcases Nat.lt_or_ge i j with q | q
      · exact rch (ord q hjn hx hxj)
      · rw [show j = i by omega]; exact hiU)
    have free : ∀ x, x ∉ allM mods → Hx[x]? = (setL Hb (mdsOf (tr.take i)))[x]? := fun x hx => by
      rw [q3 x hx, setL_out _ _ _ (mdM fun j _ q => hx (touch_allM q))]
    have hbl : (s.H ++ s.nw).length ≤ Hx.length := by
      have := congrArg List.length k7
      rw [setL_len] at this
      simp at this ⊢
      omega
    unfold wpOp
    rw [ho]
    simp only
    rw [show Region.wanted o (yielded ops a'.tmps) = true by unfold Region.wanted; rw [k2], if_pos rfl]
    refine .inl (k4 B Hx w' E' a' (fun x => ?_) q1 (by rw [List.length_append, maskH_len, ← List.length_append]; exact hbl) (fun x b hx => ?_) (by rw [maskH_len]; exact q9 i s hiU hs) _ Q fun v w2 E2 m1 m2 m3 m4 m5 => ?_)
    · unfold res
      split
      · next hx =>
        cases x with
        | tmp t =>
          show DRep w' E' (s.fr.get t) (a'.tmps.getD t undef)
          by_cases q : ∃ (j : Nat) (oj : Oper), ops[j]? = some oj ∧ oj.dst = some t
          · obtain ⟨j, oj, hj, hd⟩ := q
            obtain ⟨sj, hsj⟩ := hget hj
            have hrj := reads ho hj hd hx
            rw [k11 t j sj oj (rlt hrj) hsj hj hd]
            exact q8 j sj oj t (rdy hrj) hsj hj hd
          · rw [k10 t fun j o' _ ho' hd => q ⟨j, o', ho', hd⟩]
            exact q7 t fun j o' ho' hd => q ⟨j, o', ho', hd⟩
        | const v => exact D.ofV_rep v
        | global g => exact .junk
        | func f => exact .fn rfl rfl (fun i d v h => by simp at h) (fun i d v h => by simp at h)
      · exact .junk
    · rcases Nat.lt_or_ge x s.H.length with q | q
      · rw [List.getElem?_append_left (by rw [maskH_len]; exact q)] at hx
        rcases maskH_get hx with hx | ⟨hx, hM⟩
        · exact .inl hx
        · refine .inr ?_
          rw [Nat.zero_add] at hM
          have e1 : (setL Hb (mdsOf (tr.take i)))[x]? = some b := by rw [k7, List.append_assoc, List.getElem?_append_left q, hx]
          by_cases q2 : x ∈ allM mods
          · rw [cur x (hM q2), e1]
          · rw [free x q2, e1]
      · rw [List.getElem?_append_right (by rw [maskH_len]; exact q), maskH_len] at hx
        have hlt2 : x - s.H.length < s.nw.length := (List.getElem?_eq_some_iff.1 hx).1
        have e1 : (setL Hb (mdsOf (tr.take i)))[x]? = some b := by rw [k7, List.append_assoc, List.getElem?_append_right q, List.getElem?_append_left hlt2, hx]
        refine .inr ?_
        rw [← e1]
        by_cases q2 : x ∈ allM mods
        · refine q4 x q2 i (by omega) (fun j hj hxj => ?_) fun j hj hjn hxj => ?_
          · have := rlt (k6 x q (by omega) j (by omega) hxj)
            omega
          · exact rch (k6 x q (by omega) j (by omega) hxj)
        · exact free x q2
    · rw [maskH_len] at m4
      have hne : ∀ {j}, j ∉ U.erase i → j = i ∨ j ∉ U := fun {j} hj => by
        by_cases e : j = i
        · exact .inl e
        · exact .inr fun q => hj ((hUnd.mem_erase_iff).2 ⟨e, q⟩)
      refine ⟨E2, setL Hx s.md, m1, by rw [setL_len, q2], fun x hx => ?_, fun x hx k hk c1 c2 => ?_, put_size.trans q5, put_defers'.trans q6, fun t ht => ?_, fun j s' o' t hj hs' ho' hd' => ?_, fun j s' hj hs' => ?_, fun j o' hj ho' e he hb => ?_⟩
      · rw [setL_out _ _ _ fun b hb => hx (touch_allM (k5 _ hb).1), q3 x hx]
      · by_cases hxi : x ∈ touch mods i
        · have hik : i < k := by
            rcases Nat.lt_or_ge i k with q | q
            · exact q
            · have := c2 i q hin hxi
              exact absurd rfl ((hUnd.mem_erase_iff).1 this).1
          have e1 := stab (k - (i + 1)) (a := i + 1) (x := x) (by omega) fun j h1 h2 h3 => by
            rcases hne (c1 j (by omega) h3) with q | q
            · omega
            · exact q (rch (ord (by omega) (by omega) hxi h3))
          rw [show i + 1 + (k - (i + 1)) = k by omega] at e1
          rw [e1, mdsOf_take_succ hs, setL_cat]
          exact setL_congr s.md (by rw [setL_len, q2]) (cur x hxi)
        · rw [setL_out _ _ _ fun b hb => hxi (k5 _ hb).1]
          refine q4 x hx k hk (fun j hj hxj => ?_) fun j hj hjn hxj => ((hUnd.mem_erase_iff).1 (c2 j hj hjn hxj)).2
          rcases hne (c1 j hj hxj) with q | q
          · exact absurd (q ▸ hxj) hxi
          · exact q
      · have e1 : (a'.put o.dst v).tmps.getD t undef = a'.tmps.getD t undef := by
          cases hd : o.dst with
          | none => rfl
          | some t' => exact eval_put_ne fun e => ht i o ho (by rw [hd, e])
        rw [e1]
        exact (q7 t ht).move m2 m3
      · by_cases e : j = i
        · subst e
          rw [hs] at hs'
          cases hs'
          rw [ho] at ho'
          cases ho'
          rw [hd']
          have htn : t < a'.tmps.size := by rw [q5, ← hnt]; rw [hd'] at k3; simpa [dstB] using k3
          rw [show (a'.put (some t) v).tmps.getD t undef = v from eval_put_same htn]
          exact m5
        · have e1 : (a'.put o.dst v).tmps.getD t undef = a'.tmps.getD t undef := by
            cases hd : o.dst with
            | none => rfl
            | some t' => exact eval_put_ne fun q => e (uniq j i o' o t ho' ho hd' (by rw [hd, q]))
          rw [e1]
          exact (q8 j s' o' t ((hne hj).resolve_left e) hs' ho' hd').move m2 m3
      · obtain ⟨e1, e2⟩ := (hUnd.mem_erase_iff).1 hj
        obtain ⟨oj, j1, _, _, _, _, j6, _, _, j9, _⟩ := g2 j s' hs'
        intro x hx1 hx2
        have hout : x < s.H.length ∨ s.H.length + s.nw.length ≤ x := by
          rcases Nat.lt_or_ge j i with q | q
          · have := k9 j s' q hs'
            omega
          · have := j9 i s (by omega) hs
            omega
        obtain ⟨f1, f2⟩ := m4 x hout fun b hb => rdy (j6 x hx1 hx2 i (by omega) (k5 _ hb).1) e2
        obtain ⟨f3, f4⟩ := q9 j s' e2 hs' x hx1 hx2
        exact ⟨f1.trans f3, f2.trans f4⟩
      · intro q
        have q := (hUnd.mem_erase_iff).1 q
        rcases hne hj with rfl | hj
        · rw [ho] at ho'
          cases ho'
          exact hwait e he hb q.2
        · exact q10 j o' hj ho' e he hb q.2
  · intro listed a' w' hs hu ⟨E', Hx, q1, q2, q3, q4, q5, q6, q7, q8, q9, q10⟩
    refine wpAny_tail T [] n listed a' w' (Nat.le_refl _) (fun j => by simp [hn]) hs hu ?_
    have hHx : Hx = H' := by
      have e0 : tr.take n = tr := List.take_of_length_le (by omega)
      refine List.ext_getElem? fun x => ?_
      rw [g3]
      by_cases q : x ∈ allM mods
      · rw [q4 x q n (Nat.le_refl _) (fun _ _ _ => by simp) (fun j h1 h2 => by omega), e0]
      · rw [q3 x q, ← e0, setL_out _ _ _ (mdM fun j _ q2 => q (touch_allM q2))]
    subst hHx
    refine hQ fr' Hx E' a' w' hK ⟨q5, q6, fun t => ?_, q1⟩
    by_cases q : ∃ (j : Nat) (oj : Oper), ops[j]? = some oj ∧ oj.dst = some t
    · obtain ⟨j, oj, hj, hd⟩ := q
      obtain ⟨sj, hsj⟩ := hget hj
      show DRep w' E' (fr'.get t) _
      rw [g5 t j sj oj hsj hj hd]
      exact q8 j sj oj t (by simp) hsj hj hd
    · show DRep w' E' (fr'.get t) _
      rw [g4 t fun j o' ho' hd => q ⟨j, o', ho', hd⟩]
      exact q7 t fun j o' ho' hd => q ⟨j, o', ho', hd⟩
  · simp only [List.mem_range]
    rcases Nat.lt_or_ge t ops.size with q | q
    · simp [q]; omega
    · simp [show ¬ t < ops.size by omega]; omega
  · obtain ⟨d1, d2⟩ := (hr.wr.ext (nwsOf tr)).drew
    refine ⟨E, Hb, by rw [hHb]; exact d1, rfl, fun _ _ => rfl, fun x hx k hk c1 c2 => ?_, hr.sz, hr.df, fun t _ => (hr.fr t).move d2 (Env.own.refl _), fun j s o t hj hs ho => absurd (List.mem_range.2 (hlt ho)) hj, fun j s hj hs x hx1 _ => ?_, fun j o hj ho => absurd (List.mem_range.2 (hlt ho)) hj⟩
    · rw [setL_out _ _ _ (mdM fun j hj q => ?_)]
      exact absurd (c1 j hj q) (by simp; omega)
    · obtain ⟨_, _, _, _, _, _, _, _, k8, _⟩ := g2 j s hs
      exact hr.wr.out x (by show H.length ≤ x; omega)
end
end Go.Proofs.Ytbmcepkccenoaaa
namespace Go.Proofs.Ytbmcepkccenoaaa
open Go.RowKit

/-! shares.Explain at one share. -/
theorem tupR {a a' b : D} (h : DEq a a') : DEq (.tup [a, b]) (.tup [a', b]) := by
  refine .tups rfl fun i d d' h1 h2 => ?_
  match i, h1, h2 with
  | 0, h1, h2 => cases h1; cases h2; exact h
  | 1, h1, h2 => cases h1; cases h2; exact .refl _
set_option maxRecDepth 100000 in
set_option maxHeartbeats 4000000 in
theorem Explain_pure (s : ShareD) (nb : Option BE) (other : List (BitVec 8)) (hk : chkB [s] = 0) (ht : s.threshold = 2) (hlen : other.length = s.data.length) (hx : xi s ≠ 0#8) (h64 : s.data.length ≤ 64) :
    Pure Try.prog 25 [.slm 5 nb ShareD.c [s], .slm 1 none u8C other] (.tup [.slm 1 none u8C (explL s other), i64 0]) := by
  have hC := Check_pure [s] nb (by simp)
  rw [hk] at hC
  have hI := indices_pure [s] nb (by simp)
  have hI' : idxL [s] = [xi s] := rfl
  rw [hI'] at hI
  have hCo := fun (p : Nat) (hp : p < s.data.length) => column_pure [s] nb p (by simp) (fun t ht => by rw [List.mem_singleton.1 ht]; exact hp)
  have hCo' : ∀ p, colL [s] p = [s.data.getD p 0] := fun p => rfl
  simp only [hCo'] at hCo
  have hcf0 := fun o d => Coeff2_pure 0#8 (xi s) o d (Ne.symm hx)
  have hcf := fun o d => Pure.res (hcf0 o d) (tupR (.sll (l := [(co2 0#8 (xi s) o d).1, (co2 0#8 (xi s) o d).2]) (c := u8C) (nb := none) rfl (fun e h => by cases h)))
  clear hcf0
  have hcx : ∀ i, explF s other i = (co2 0#8 (xi s) (other.getD i 0) (s.data.getD i 0)).2 := fun i => rfl
  have hel : explL s other = (List.range other.length).map (explF s other) := rfl
  obtain ⟨gf, hgf⟩ : ∃ g, g = explF s other := ⟨_, rfl⟩
  rw [← hgf] at hcx hel
  obtain ⟨xb, hxb⟩ : ∃ x, x = xi s := ⟨_, rfl⟩
  rw [← hxb] at hI hcf hcx
  obtain ⟨cc, hcc⟩ : ∃ c, c = fun o d => co2 0#8 xb o d := ⟨_, rfl⟩
  have hcc1 : ∀ o d, co2 0#8 xb o d = cc o d := fun o d => by rw [hcc]
  simp only [hcc1] at hcf hcx
  obtain ⟨rl, hrl⟩ : ∃ r, r = explL s other := ⟨_, rfl⟩
  rw [← hrl] at hel ⊢
  clear hrl hgf hxb hcc hcc1 hI' hCo' hk hx
  obtain ⟨ep, ix, th, mn, nl, data⟩ := s
  simp only at ht hlen h64 hC hI hCo hcx
  subst ht
  obtain ⟨n, hn⟩ : ∃ n : Nat, n = other.length := ⟨_, rfl⟩
  refine Pure.intro (want := [.slm 1 none u8C rl, i64 0]) T_ok follows Try.func25 rfl (by kernel_rfl) (rs := [.tmp 4, .tmp 5]) rfl (by kernel_rfl) ?_
  generalize hP : Try.prog = P at *
  have hT : T.ok P := hP ▸ T_ok
  have hm : P.follows .mixedOrders = true := hP ▸ follows
  unfold Try.f25
  dsimp only
  cbv
  refine CallP.pure _ hC rfl ?_
  cbv
  refine SplitP.mk (fun h => (by have h3 : (!decide ((0 : Int) = 0)) = true := h; simp at h3)) (fun _ => ?_)
  refine ElemP.mk (by show (0 : Int) ≤ 0 ∧ (0 : Int) < 1; omega) (fun x hx => ?_)
  replace hx : some (ShareD.mk ep ix 2 mn nl data) = some x := hx
  cases hx
  cbv
  refine SplitP.mk (fun h => (by have h3 : decide ((1 : Int) ≥ 2) = true := h; simp at h3)) (fun _ => ?_)
  refine ElemP.mk (by show (0 : Int) ≤ 0 ∧ (0 : Int) < 1; omega) (fun x hx => ?_)
  replace hx : some (ShareD.mk ep ix 2 mn nl data) = some x := hx
  cases hx
  cbv
  refine SplitP.mk (fun h => (by have h3 : (!decide ((other.length : Int) = (data.length : Int))) = true := h; rw [hlen] at h3; simp at h3)) (fun _ => ?_)
  refine CallP.pure _ hI rfl ?_
  cbv
  refine ReqP.mk ⟨rfl, rfl, map_cells (fun _ => rfl), (by intro e he; simp only [RE.den, List.mem_singleton] at he; subst he; rfl), by show (1 : Int) + ((1 : Nat) : Int) ≤ 9223372036854775807; omega, by show ((1 : Int) + ((1 : Nat) : Int)) * ((1 : Nat) : Int) ≤ 140737488355328; omega⟩ (fun _ => ?_)
  refine CodeP.pre [(0, .slm 5 nb ShareD.c [⟨ep, ix, 2, mn, nl, data⟩]), (1, .slm 1 none u8C other), (4, .nils), (5, .int .i64 (.lit 0)), (7, i64 2), (9, .sll 1 [u8C 0#8, u8C xb]), (45, .int .i64 (.lit 0)), (46, .int .i64 (.lit 0))] [.dead] ⟨?_, ⟨.dead _, trivial⟩, rfl⟩ (Nat.zero_le _) ?_
  · cbv
    refine ⟨.refl _, .refl _, .refl _, .refl _, .refl _, ?_, .eq (.int ?_), .refl _, trivial⟩
    · exact .trans (.sll (es := [[.int .u8 (.lit 0)], u8C xb]) rfl (.inl ⟨_, _, rfl, rfl⟩) rfl rfl rfl) (.lits (.cons (.cons (.byte rfl) .nil) (.cons (.cons (.refl _) .nil) .nil)))
    · show binDen .sub .i64 (binDen .sub .i64 2 1) 1 = 0
      rfl
  refine CodeP.rounds hT hm 1 ?_
  cbv
  refine CodeP.virt 4 5 1 rfl ?_
  refine CodeP.loopm hT hm (X := Nat × List (BitVec 8)) (fun x => [(58, .int .i64 (.nat x.1)), (4, .osl 1 1 (x.1 + 1) (.cmp .eql (.nat x.1) (.lit 0)) (.lit 0) (.nat x.1))]) (fun x => [.dead, .row 5 1 (x.1 + 1) (.map u8C x.2)])
    (fun x => x.1 ≤ n ∧ x.2.length = x.1 ∧ x.2 = (List.range x.1).map gf) (fun x => n - x.1) (0, []) ⟨by simp, rfl, rfl⟩ (fun _ => by simp) ⟨?_, ?_, rfl⟩ ?_
  · (cbv; (repeat' (first | exact SnD.refl _ | exact trivial | exact SnD.nat0 | refine And.intro ?_ ?_)))
    exact osl_start
  · (cbv; (repeat' (first | exact trivial | exact BkEq.refl _ | exact SnD.refl _ | exact SnDs.nil | refine BkEq.cells ?_ | refine SnDs.cons ?_ ?_ | refine And.intro ?_ ?_)))
    exact .row rfl
  intro ⟨k, acc⟩ ⟨hk, hal, hacc⟩
  replace hk : k ≤ n := hk
  replace hal : acc.length = k := hal
  replace hacc : acc = (List.range k).map gf := hacc
  have hck := hCo k
  have hgk := hcx k
  cbv
  refine SplitP.mk (fun hs => ?_) (fun hs => ?_)
  · have hkn : k < other.length := by
      have h5 : decide ((k : Int) < (other.length : Int)) = true := hs
      have := of_decide_eq_true h5
      omega
    clear hs
    refine ElemP.mk (by show (0 : Int) ≤ (k : Int) ∧ (k : Int) < (other.length : Int); omega) (fun o ho => ?_)
    replace ho : other[k]? = some o := ho
    have hod : other.getD k 0 = o := by rw [List.getD_eq_getElem?_getD, ho]; rfl
    rw [hod] at hgk
    obtain ⟨d, hd⟩ : ∃ d, d = data.getD k 0 := ⟨_, rfl⟩
    rw [← hd] at hgk hck
    have hfo := hcf o d
    cbv
    refine ReqP.mk ⟨by show (0 : Int) ≤ 2; omega, by show (2 : Int) ≤ 2; omega, by show (2 : Int) ≤ 9223372036854775807; omega, by show ((1 : Nat) : Int) * 2 ≤ 281474976710656; omega⟩ (fun _ => ?_)
    refine ReqP.mk ⟨by show (0 : Int) ≤ 0; omega, by show (0 : Int) < 2; omega⟩ (fun _ => ?_)
    refine ReqP.mk (by simp [RE.den, IE.den]) (fun _ => ?_)
    refine ReqP.mk ⟨by show (0 : Int) ≤ 1; omega, by show (1 : Int) < 2; omega⟩ (fun _ => ?_)
    refine .mk _ (hck (by omega)) rfl ?_
    cbv
    refine ReqP.mk ⟨rfl, rfl, by show (0 : Int) ≤ 1; omega, by simp [RE.den, IE.den], map_cells (fun _ => rfl)⟩ (fun _ => ?_)
    refine CallP.pre [.sll 1 [u8C 0#8, u8C xb], .sll 1 [u8C o, u8C d]] [_, _, .dead] (.cons (.eq (.refl _)) (.cons (.sll rfl (.inl ⟨_, _, rfl, by simp [RE.den, IE.den, over, List.replicate]⟩) rfl rfl rfl) .nil)) ⟨.refl _, .refl _, .dead _, trivial⟩ rfl rfl ?_
    refine CallP.pure _ hfo rfl ?_
    obtain ⟨z, hz⟩ : ∃ z, z = (cc o d).2 := ⟨_, rfl⟩
    cbv
    refine ReqP.mk ⟨by show (0 : Int) ≤ 1; omega, by show (1 : Int) ≤ ((2 : Nat) : Int); omega, by show ((2 : Nat) : Int) ≤ ((2 : Nat) : Int); omega, by show ((2 : Nat) : Int) ≤ ((2 : Nat) : Int); omega, fun h => h⟩ (fun _ => ?_)
    refine LetP.mk fun l hl => ?_
    replace hl : l = [z] := by rw [hl, hz]; rfl
    subst hl
    cbv
    refine ReqP.mk ⟨rfl, by show (k : Int) = _; simp [RE.den, hal], map_cells (fun _ => rfl), map_cells (fun _ => rfl), by show (k : Int) + ((1 : Nat) : Int) ≤ 9223372036854775807; omega, by show ((k : Int) + ((1 : Nat) : Int)) * ((1 : Nat) : Int) ≤ 140737488355328; omega⟩ (fun _ => ?_)
    cbv
    obtain ⟨acc', hacc'⟩ : ∃ a, a = acc ++ [z] := ⟨_, rfl⟩
    refine BackP.intro (k + 1, acc') ⟨by show k + 1 ≤ n; omega, by show acc'.length = k + 1; rw [hacc']; simp [hal], ?_⟩ (by show n - (k + 1) < n - k; omega) ⟨?_, ?_, rfl⟩
    · show acc' = (List.range (k + 1)).map gf
      rw [hacc', hacc, List.range_succ, List.map_append]
      show _ = _ ++ [gf k]
      rw [hgk, hz]
    · (cbv; (repeat' (first | exact SnD.refl _ | exact trivial | exact SnD.nat0 | refine And.intro ?_ ?_)))
      · exact .inc (by omega)
      · refine .eq (.osl ?_ rfl ?_)
        · show (((k : Int) == 0) && (((1 : Nat) : Int) == 0)) = (((k + 1 : Nat) : Int) == 0)
          rw [Bool.and_comm]
          symm
          exact beq_eq_false_iff_ne.2 (by omega)
        · show (k : Int) + ((1 : Nat) : Int) = ((k + 1 : Nat) : Int)
          omega
    · (cbv; (repeat' (first | exact trivial | exact BkEq.refl _ | exact SnD.refl _ | exact SnDs.nil | refine BkEq.cells ?_ | refine SnDs.cons ?_ ?_ | refine And.intro ?_ ?_)))
      refine .row ?_
      rw [hacc']
      simp [RE.den]
  · have hkn : other.length ≤ k := by
      have h5 : decide ((k : Int) < (other.length : Int)) = false := hs
      have := of_decide_eq_false h5
      omega
    clear hs
    have hkn2 : k = n := by omega
    have hfin : rl = acc := by rw [hel, hacc, hkn2, hn]
    subst hfin
    refine .mk (.cons (.slm rfl (.inl ⟨_, _, rfl, rfl⟩) rfl ?_ (fun e h => by cases h)) (.cons (.eq (.int rfl)) .nil)) rfl
    show (k : Int) = (rl.length : Int)
    omega
end Go.Proofs.Ytbmcepkccenoaaa
namespace Go.Proofs.Ytbmcepkccenoaaa
open Go.RowKit

/-! valid fences, in the code and in the reference. -/
def incFrom (dv last : Int) : List Int → Bool
  | [] => true
  | d :: r => decide (last < d ∧ d < dv) && incFrom dv d r
def fvalidB (f : FenceD) (dv : Int) : Bool := decide (1 ≤ dv ∧ dv ≤ 4 ∧ 0 ≤ f.no ∧ f.no ≤ 1048576) && incFrom dv (-1) f.devices
set_option maxRecDepth 100000 in
set_option maxHeartbeats 4000000 in
theorem valid_pure (f : FenceD) (dv : Int) (hl : f.devices.length < 9223372036854775807) : Pure Try.prog 27 [f.d, i64 dv] (boolD (fvalidB f dv)) := by
  obtain ⟨no, nl, l⟩ := f
  simp only at hl
  simp only [fvalidB]
  obtain ⟨r, hr⟩ : ∃ r, r = (decide (1 ≤ dv ∧ dv ≤ 4 ∧ 0 ≤ no ∧ no ≤ 1048576) && incFrom dv (-1) l) := ⟨_, rfl⟩
  rw [← hr]
  obtain ⟨n, hn⟩ : ∃ n : Nat, n = l.length := ⟨_, rfl⟩
  have bad : ¬ (1 ≤ dv ∧ dv ≤ 4 ∧ 0 ≤ no ∧ no ≤ 1048576) → r = false := fun h => by rw [hr, decide_eq_false h]; rfl
  refine Pure.intro (want := [boolD r]) T_ok follows Try.func27 rfl (by kernel_rfl) (rs := [.tmp 4]) rfl (by kernel_rfl) ?_
  generalize hP : Try.prog = P
  have hT : T.ok P := hP ▸ T_ok
  have hm : P.follows .mixedOrders = true := hP ▸ follows
  unfold Try.f27
  dsimp only
  cbv
  refine SplitP.mk (fun hs => ?_) (fun hs => ?_) <;> simp only [BE.lss_t, BE.lss_f, BE.leq_t, BE.leq_f, BE.gtr_t, BE.gtr_f, BE.geq_t, BE.geq_f, BE.eql_t, BE.eql_f, BE.neq_t, BE.neq_f, BE.not_t, BE.not_f, BE.var_d, BE.lit_d, BE.seq_t, BE.seq_f, BE.beq_t, BE.beq_f, IE.var_d, IE.lit_d, IE.nat_d, IE.len_d, IE.sum_d, IE.u8_d, ncast, Int.ofNat_lt, Int.ofNat_le, Int.ofNat_inj] at hs
  · refine .mk (.cons (.eq (.bool ?_)) .nil) rfl
    rw [BE.lit_d, BE.var_d]
    rw [bad (by omega)]
  refine SplitP.mk (fun hs => ?_) (fun hs => ?_) <;> simp only [BE.lss_t, BE.lss_f, BE.leq_t, BE.leq_f, BE.gtr_t, BE.gtr_f, BE.geq_t, BE.geq_f, BE.eql_t, BE.eql_f, BE.neq_t, BE.neq_f, BE.not_t, BE.not_f, BE.var_d, BE.lit_d, BE.seq_t, BE.seq_f, BE.beq_t, BE.beq_f, IE.var_d, IE.lit_d, IE.nat_d, IE.len_d, IE.sum_d, IE.u8_d, ncast, Int.ofNat_lt, Int.ofNat_le, Int.ofNat_inj] at hs
  · refine .mk (.cons (.eq (.bool ?_)) .nil) rfl
    rw [BE.lit_d, BE.var_d]
    rw [bad (by omega)]
  refine SplitP.mk (fun hs => ?_) (fun hs => ?_) <;> simp only [BE.lss_t, BE.lss_f, BE.leq_t, BE.leq_f, BE.gtr_t, BE.gtr_f, BE.geq_t, BE.geq_f, BE.eql_t, BE.eql_f, BE.neq_t, BE.neq_f, BE.not_t, BE.not_f, BE.var_d, BE.lit_d, BE.seq_t, BE.seq_f, BE.beq_t, BE.beq_f, IE.var_d, IE.lit_d, IE.nat_d, IE.len_d, IE.sum_d, IE.u8_d, ncast, Int.ofNat_lt, Int.ofNat_le, Int.ofNat_inj] at hs
  · refine .mk (.cons (.eq (.bool ?_)) .nil) rfl
    rw [BE.lit_d, BE.var_d]
    rw [bad (by omega)]
  refine SplitP.mk (fun hs => ?_) (fun hs => ?_) <;> simp only [BE.lss_t, BE.lss_f, BE.leq_t, BE.leq_f, BE.gtr_t, BE.gtr_f, BE.geq_t, BE.geq_f, BE.eql_t, BE.eql_f, BE.neq_t, BE.neq_f, BE.not_t, BE.not_f, BE.var_d, BE.lit_d, BE.seq_t, BE.seq_f, BE.beq_t, BE.beq_f, IE.var_d, IE.lit_d, IE.nat_d, IE.len_d, IE.sum_d, IE.u8_d, ncast, Int.ofNat_lt, Int.ofNat_le, Int.ofNat_inj] at hs
  · refine .mk (.cons (.eq (.bool ?_)) .nil) rfl
    rw [BE.lit_d, BE.var_d]
    rw [bad (by omega)]
  have hq0 : r = incFrom dv (-1) l := by rw [hr, decide_eq_true (by omega), Bool.true_and]
  clear bad hr
  refine CodeP.loopc hT hm (X := Nat × Int) (fun x => [(27, .int .i64 (.nat x.1)), (5, i64 x.2)]) (fun x => x.1 ≤ n ∧ r = incFrom dv x.2 (l.drop x.1)) (fun x => n - x.1) (0, -1) ⟨by simp, hq0⟩ (Nat.zero_le _) ?_ rfl ?_
  · (cbv; (repeat' (first | exact SnD.refl _ | exact trivial | exact SnD.nat0 | refine And.intro ?_ ?_)))
    exact .eq (.int rfl)
  intro ⟨k, last⟩ ⟨hk, hq⟩
  replace hk : k ≤ n := hk
  replace hq : r = incFrom dv last (l.drop k) := hq
  cbv
  refine SplitP.mk (fun hs => ?_) (fun hs => ?_)
  · have hkn : k < l.length := by
      have h5 : decide ((k : Int) < (l.length : Int)) = true := hs
      have := of_decide_eq_true h5
      omega
    clear hs
    refine ElemP.mk (by show (0 : Int) ≤ (k : Int) ∧ (k : Int) < (l.length : Int); omega) (fun x hx => ?_)
    replace hx : l[k]? = some x := hx
    rw [drop_cons hx] at hq
    simp only [incFrom] at hq
    cbv
    refine SplitP.mk (fun hs => ?_) (fun hs => ?_) <;> simp only [BE.lss_t, BE.lss_f, BE.leq_t, BE.leq_f, BE.gtr_t, BE.gtr_f, BE.geq_t, BE.geq_f, BE.eql_t, BE.eql_f, BE.neq_t, BE.neq_f, BE.not_t, BE.not_f, BE.var_d, BE.lit_d, BE.seq_t, BE.seq_f, BE.beq_t, BE.beq_f, IE.var_d, IE.lit_d, IE.nat_d, IE.len_d, IE.sum_d, IE.u8_d, ncast, Int.ofNat_lt, Int.ofNat_le, Int.ofNat_inj] at hs
    · refine .mk (.cons (.eq (.bool ?_)) .nil) rfl
      rw [BE.lit_d, BE.var_d]
      rw [hq, decide_eq_false (by omega)]; rfl
    refine SplitP.mk (fun hs => ?_) (fun hs => ?_) <;> simp only [BE.lss_t, BE.lss_f, BE.leq_t, BE.leq_f, BE.gtr_t, BE.gtr_f, BE.geq_t, BE.geq_f, BE.eql_t, BE.eql_f, BE.neq_t, BE.neq_f, BE.not_t, BE.not_f, BE.var_d, BE.lit_d, BE.seq_t, BE.seq_f, BE.beq_t, BE.beq_f, IE.var_d, IE.lit_d, IE.nat_d, IE.len_d, IE.sum_d, IE.u8_d, ncast, Int.ofNat_lt, Int.ofNat_le, Int.ofNat_inj] at hs
    · refine .mk (.cons (.eq (.bool ?_)) .nil) rfl
      rw [BE.lit_d, BE.var_d]
      rw [hq, decide_eq_false (by omega)]; rfl
    refine BackP.intro (k + 1, x) ⟨by show k + 1 ≤ n; omega, ?_⟩ (by show n - (k + 1) < n - k; omega) ⟨?_, HEnt.refl _, rfl⟩
    · show r = incFrom dv x (l.drop (k + 1))
      rw [hq, decide_eq_true (by omega), Bool.true_and]
    · (cbv; (repeat' (first | exact SnD.refl _ | exact trivial | exact SnD.nat0 | refine And.intro ?_ ?_)))
      exact .inc (by omega)
  · have hkn : l.length ≤ k := by
      have h5 : decide ((k : Int) < (l.length : Int)) = false := hs
      have := of_decide_eq_false h5
      omega
    clear hs
    refine .mk (.cons (.eq (.bool ?_)) .nil) rfl
    rw [BE.lit_d, BE.var_d]
    rw [hq, List.drop_of_length_le (by omega)]; rfl
set_option maxRecDepth 100000 in
set_option maxHeartbeats 4000000 in
theorem RValid_pure (f : FenceD) (dv : Int) (hl : f.devices.length < 9223372036854775807) : Pure Try.prog 32 [f.d, i64 dv] (boolD (fvalidB f dv)) := by
  obtain ⟨no, nl, l⟩ := f
  simp only at hl
  simp only [fvalidB]
  obtain ⟨r, hr⟩ : ∃ r, r = (decide (1 ≤ dv ∧ dv ≤ 4 ∧ 0 ≤ no ∧ no ≤ 1048576) && incFrom dv (-1) l) := ⟨_, rfl⟩
  rw [← hr]
  obtain ⟨n, hn⟩ : ∃ n : Nat, n = l.length := ⟨_, rfl⟩
  have bad : ¬ (1 ≤ dv ∧ dv ≤ 4 ∧ 0 ≤ no ∧ no ≤ 1048576) → r = false := fun h => by rw [hr, decide_eq_false h]; rfl
  refine Pure.intro (want := [boolD r]) T_ok follows Try.func32 rfl (by kernel_rfl) (rs := [.tmp 4]) rfl (by kernel_rfl) ?_
  generalize hP : Try.prog = P
  have hT : T.ok P := hP ▸ T_ok
  have hm : P.follows .mixedOrders = true := hP ▸ follows
  unfold Try.f32
  dsimp only
  cbv
  refine SplitP.mk (fun hs => ?_) (fun hs => ?_) <;> simp only [BE.lss_t, BE.lss_f, BE.leq_t, BE.leq_f, BE.gtr_t, BE.gtr_f, BE.geq_t, BE.geq_f, BE.eql_t, BE.eql_f, BE.neq_t, BE.neq_f, BE.not_t, BE.not_f, BE.var_d, BE.lit_d, BE.seq_t, BE.seq_f, BE.beq_t, BE.beq_f, IE.var_d, IE.lit_d, IE.nat_d, IE.len_d, IE.sum_d, IE.u8_d, ncast, Int.ofNat_lt, Int.ofNat_le, Int.ofNat_inj] at hs
  · refine .mk (.cons (.eq (.bool ?_)) .nil) rfl
    rw [BE.lit_d, BE.var_d]
    rw [bad (by omega)]
  refine SplitP.mk (fun hs => ?_) (fun hs => ?_) <;> simp only [BE.lss_t, BE.lss_f, BE.leq_t, BE.leq_f, BE.gtr_t, BE.gtr_f, BE.geq_t, BE.geq_f, BE.eql_t, BE.eql_f, BE.neq_t, BE.neq_f, BE.not_t, BE.not_f, BE.var_d, BE.lit_d, BE.seq_t, BE.seq_f, BE.beq_t, BE.beq_f, IE.var_d, IE.lit_d, IE.nat_d, IE.len_d, IE.sum_d, IE.u8_d, ncast, Int.ofNat_lt, Int.ofNat_le, Int.ofNat_inj] at hs
  · refine .mk (.cons (.eq (.bool ?_)) .nil) rfl
    rw [BE.lit_d, BE.var_d]
    rw [bad (by omega)]
  refine SplitP.mk (fun hs => ?_) (fun hs => ?_) <;> simp only [BE.lss_t, BE.lss_f, BE.leq_t, BE.leq_f, BE.gtr_t, BE.gtr_f, BE.geq_t, BE.geq_f, BE.eql_t, BE.eql_f, BE.neq_t, BE.neq_f, BE.not_t, BE.not_f, BE.var_d, BE.lit_d, BE.seq_t, BE.seq_f, BE.beq_t, BE.beq_f, IE.var_d, IE.lit_d, IE.nat_d, IE.len_d, IE.sum_d, IE.u8_d, ncast, Int.ofNat_lt, Int.ofNat_le, Int.ofNat_inj] at hs
  · refine .mk (.cons (.eq (.bool ?_)) .nil) rfl
    rw [BE.lit_d, BE.var_d]
    rw [bad (by omega)]
  refine SplitP.mk (fun hs => ?_) (fun hs => ?_) <;> simp only [BE.lss_t, BE.lss_f, BE.leq_t, BE.leq_f, BE.gtr_t, BE.gtr_f, BE.geq_t, BE.geq_f, BE.eql_t, BE.eql_f, BE.neq_t, BE.neq_f, BE.not_t, BE.not_f, BE.var_d, BE.lit_d, BE.seq_t, BE.seq_f, BE.beq_t, BE.beq_f, IE.var_d, IE.lit_d, IE.nat_d, IE.len_d, IE.sum_d, IE.u8_d, ncast, Int.ofNat_lt, Int.ofNat_le, Int.ofNat_inj] at hs
  · refine .mk (.cons (.eq (.bool ?_)) .nil) rfl
    rw [BE.lit_d, BE.var_d]
    rw [bad (by omega)]
  have hq0 : r = incFrom dv (-1) l := by rw [hr, decide_eq_true (by omega), Bool.true_and]
  clear bad hr
  refine CodeP.loopc hT hm (X := Nat × Int) (fun x => [(5, .int .i64 (.nat x.1))]) (fun x => x.1 ≤ n ∧ r = incFrom dv x.2 (l.drop x.1) ∧ (x.1 = 0 → x.2 = -1) ∧ (0 < x.1 → l[x.1 - 1]? = some x.2 ∧ 0 ≤ x.2)) (fun x => n - x.1) (0, -1) ⟨by simp, hq0, fun _ => rfl, fun h => absurd h (by simp)⟩ (Nat.zero_le _) ?_ rfl ?_
  · (cbv; (repeat' (first | exact SnD.refl _ | exact trivial | exact SnD.nat0 | refine And.intro ?_ ?_)))
  intro ⟨k, last⟩ ⟨hk, hq, hz, hpv⟩
  replace hk : k ≤ n := hk
  replace hq : r = incFrom dv last (l.drop k) := hq
  replace hz : k = 0 → last = -1 := hz
  replace hpv : 0 < k → l[k - 1]? = some last ∧ 0 ≤ last := hpv
  have hlast : -1 ≤ last := by
    rcases Nat.eq_zero_or_pos k with q | q
    · rw [hz q]; omega
    · have := (hpv q).2; omega
  cbv
  refine SplitP.mk (fun hs => ?_) (fun hs => ?_)
  · have hkn : k < l.length := by
      have h5 : decide ((k : Int) < (l.length : Int)) = true := hs
      have := of_decide_eq_true h5
      omega
    clear hs
    refine ⟨by kernel_rfl, ?_⟩
    cbv
    refine ElemP.mk (by show (0 : Int) ≤ (k : Int) ∧ (k : Int) < (l.length : Int); omega) (fun x hx => ?_)
    replace hx : l[k]? = some x := hx
    rw [drop_cons hx] at hq
    simp only [incFrom] at hq
    cbv
    refine SplitP.mk (fun hs => ?_) (fun hs => ?_) <;> simp only [BE.lss_t, BE.lss_f, BE.leq_t, BE.leq_f, BE.gtr_t, BE.gtr_f, BE.geq_t, BE.geq_f, BE.eql_t, BE.eql_f, BE.neq_t, BE.neq_f, BE.not_t, BE.not_f, BE.var_d, BE.lit_d, BE.seq_t, BE.seq_f, BE.beq_t, BE.beq_f, IE.var_d, IE.lit_d, IE.nat_d, IE.len_d, IE.sum_d, IE.u8_d, ncast, Int.ofNat_lt, Int.ofNat_le, Int.ofNat_inj] at hs
    · refine .mk (.cons (.eq (.bool ?_)) .nil) rfl
      rw [BE.lit_d, BE.var_d]
      rw [hq, decide_eq_false (by omega)]; rfl
    refine ElemP.mk (by show (0 : Int) ≤ (k : Int) ∧ (k : Int) < (l.length : Int); omega) (fun x' hx' => ?_)
    replace hx' : l[k]? = some x' := hx'
    rw [hx] at hx'
    simp only [Option.some.injEq] at hx'
    subst hx'
    cbv
    refine SplitP.mk (fun hs => ?_) (fun hs => ?_) <;> simp only [BE.lss_t, BE.lss_f, BE.leq_t, BE.leq_f, BE.gtr_t, BE.gtr_f, BE.geq_t, BE.geq_f, BE.eql_t, BE.eql_f, BE.neq_t, BE.neq_f, BE.not_t, BE.not_f, BE.var_d, BE.lit_d, BE.seq_t, BE.seq_f, BE.beq_t, BE.beq_f, IE.var_d, IE.lit_d, IE.nat_d, IE.len_d, IE.sum_d, IE.u8_d, ncast, Int.ofNat_lt, Int.ofNat_le, Int.ofNat_inj] at hs
    · refine .mk (.cons (.eq (.bool ?_)) .nil) rfl
      rw [BE.lit_d, BE.var_d]
      rw [hq, decide_eq_false (by omega)]; rfl
    refine SplitP.mk (fun h10 => ?_) (fun h10 => ?_)
    · have hk0 : 0 < k := by
        have h11 : decide ((k : Int) > 0) = true := h10
        have := of_decide_eq_true h11
        omega
      obtain ⟨hp1, hp2⟩ := hpv hk0
      have ek : binDen .sub .i64 (k : Int) 1 = ((k - 1 : Nat) : Int) := by rw [sub64 (by omega) (by omega)]; omega
      refine ElemP.mk (by show (0 : Int) ≤ (k : Int) ∧ (k : Int) < (l.length : Int); omega) (fun x'' hx'' => ?_)
      replace hx'' : l[k]? = some x'' := hx''
      rw [hx] at hx''
      simp only [Option.some.injEq] at hx''
      subst hx''
      cbv
      refine ElemP.mk (by show (0 : Int) ≤ binDen .sub .i64 (k : Int) 1 ∧ binDen .sub .i64 (k : Int) 1 < (l.length : Int); rw [ek]; ((try simp only [ncast] at *); omega)) (fun p' hp' => ?_)
      replace hp' : l[(binDen .sub .i64 (k : Int) 1).toNat]? = some p' := hp'
      rw [ek, Int.toNat_natCast, hp1] at hp'
      simp only [Option.some.injEq] at hp'
      subst hp'
      clear h10
      cbv
      refine SplitP.mk (fun hs => ?_) (fun hs => ?_) <;> simp only [BE.lss_t, BE.lss_f, BE.leq_t, BE.leq_f, BE.gtr_t, BE.gtr_f, BE.geq_t, BE.geq_f, BE.eql_t, BE.eql_f, BE.neq_t, BE.neq_f, BE.not_t, BE.not_f, BE.var_d, BE.lit_d, BE.seq_t, BE.seq_f, BE.beq_t, BE.beq_f, IE.var_d, IE.lit_d, IE.nat_d, IE.len_d, IE.sum_d, IE.u8_d, ncast, Int.ofNat_lt, Int.ofNat_le, Int.ofNat_inj] at hs
      · refine .mk (.cons (.eq (.bool ?_)) .nil) rfl
        rw [BE.lit_d, BE.var_d]
        rw [hq, decide_eq_false (by omega)]; rfl
      refine BackP.intro (k + 1, x) ⟨by show k + 1 ≤ n; omega, ?_, fun h => absurd h (by simp), fun _ => ⟨hx, by show 0 ≤ x; omega⟩⟩ (by show n - (k + 1) < n - k; omega) ⟨?_, HEnt.refl _, rfl⟩
      · show r = incFrom dv x (l.drop (k + 1))
        rw [hq, decide_eq_true (by omega), Bool.true_and]
      · (cbv; (repeat' (first | exact SnD.refl _ | exact trivial | exact SnD.nat0 | refine And.intro ?_ ?_)))
        exact .inc (by omega)
    · have hk0 : k = 0 := by
        have h11 : decide ((k : Int) > 0) = false := h10
        have := of_decide_eq_false h11
        omega
      have hl0 := hz hk0
      clear h10
      refine BackP.intro (k + 1, x) ⟨by show k + 1 ≤ n; omega, ?_, fun h => absurd h (by simp), fun _ => ⟨hx, by show 0 ≤ x; omega⟩⟩ (by show n - (k + 1) < n - k; omega) ⟨?_, HEnt.refl _, rfl⟩
      · show r = incFrom dv x (l.drop (k + 1))
        rw [hq, decide_eq_true (by omega), Bool.true_and]
      · (cbv; (repeat' (first | exact SnD.refl _ | exact trivial | exact SnD.nat0 | refine And.intro ?_ ?_)))
        exact .inc (by omega)
  · have hkn : l.length ≤ k := by
      have h5 : decide ((k : Int) < (l.length : Int)) = false := hs
      have := of_decide_eq_false h5
      omega
    clear hs
    refine .mk (.cons (.eq (.bool ?_)) .nil) rfl
    rw [BE.lit_d, BE.var_d]
    rw [hq, List.drop_of_length_le (by omega)]; rfl
def freeB (f : FenceD) (dv d : Int) : Bool := decide (0 ≤ d ∧ d < dv ∧ ¬ d ∈ f.devices)
set_option maxRecDepth 100000 in
set_option maxHeartbeats 4000000 in
theorem Free_pure (f : FenceD) (dv d : Int) (hl : f.devices.length < 9223372036854775807) : Pure Try.prog 33 [f.d, i64 dv, i64 d] (boolD (freeB f dv d)) := by
  have hI := RIs_pure f d hl
  obtain ⟨no, nl, l⟩ := f
  simp only at hl hI
  simp only [freeB]
  obtain ⟨m, hmm⟩ : ∃ m, m = decide (d ∈ l) := ⟨_, rfl⟩
  rw [← hmm] at hI
  obtain ⟨r, hr⟩ : ∃ r, r = decide (0 ≤ d ∧ d < dv ∧ ¬ d ∈ l) := ⟨_, rfl⟩
  rw [← hr]
  refine Pure.intro (want := [boolD r]) T_ok follows Try.func33 rfl (by kernel_rfl) (rs := [.tmp 6]) rfl (by kernel_rfl) ?_
  generalize hP : Try.prog = P at *
  have hT : T.ok P := hP ▸ T_ok
  have hm : P.follows .mixedOrders = true := hP ▸ follows
  unfold Try.f33
  dsimp only
  cbv
  refine SplitP.mk (fun hs => ?_) (fun hs => ?_) <;> simp only [BE.lss_t, BE.lss_f, BE.leq_t, BE.leq_f, BE.gtr_t, BE.gtr_f, BE.geq_t, BE.geq_f, BE.eql_t, BE.eql_f, BE.neq_t, BE.neq_f, BE.not_t, BE.not_f, BE.var_d, BE.lit_d, BE.seq_t, BE.seq_f, BE.beq_t, BE.beq_f, IE.var_d, IE.lit_d, IE.nat_d, IE.len_d, IE.sum_d, IE.u8_d, ncast, Int.ofNat_lt, Int.ofNat_le, Int.ofNat_inj] at hs
  · refine SplitP.mk (fun hs => ?_) (fun hs => ?_) <;> simp only [BE.lss_t, BE.lss_f, BE.leq_t, BE.leq_f, BE.gtr_t, BE.gtr_f, BE.geq_t, BE.geq_f, BE.eql_t, BE.eql_f, BE.neq_t, BE.neq_f, BE.not_t, BE.not_f, BE.var_d, BE.lit_d, BE.seq_t, BE.seq_f, BE.beq_t, BE.beq_f, IE.var_d, IE.lit_d, IE.nat_d, IE.len_d, IE.sum_d, IE.u8_d, ncast, Int.ofNat_lt, Int.ofNat_le, Int.ofNat_inj] at hs
    · refine CallP.pure _ hI rfl ?_
      cbv
      refine .mk (.cons (.eq (.bool ?_)) .nil) rfl
      show (!m) = r
      rw [hr, hmm]
      by_cases q : d ∈ l
      · rw [decide_eq_true q, decide_eq_false (fun h => h.2.2 q)]; rfl
      · rw [decide_eq_false q, decide_eq_true ⟨by omega, by omega, q⟩]; rfl
    · refine .mk (.cons (.eq (.bool ?_)) .nil) rfl
      rw [BE.lit_d, BE.var_d]
      rw [hr]; exact (decide_eq_false (by omega)).symm
  · refine .mk (.cons (.eq (.bool ?_)) .nil) rfl
    rw [BE.lit_d, BE.var_d]
    rw [hr]; exact (decide_eq_false (by omega)).symm
end Go.Proofs.Ytbmcepkccenoaaa
namespace Go.Proofs.Ytbmcepkccenoaaa
open Go.RowKit

/-! The votes that count, in the reference. -/
def inc64 (x : Int) : Int := IntKind.i64.wrap (x + 1)
def goodB (f : FenceD) (dv : Int) (v : VoteD) : Bool := !decide (v.by_ = v.device) && (freeB f dv v.by_ && (freeB f dv v.device && decide (v.no = inc64 f.no)))
def stepS (f : FenceD) (dv : Int) (S : List Int) (v : VoteD) : List Int := if (goodB f dv v && !decide (v.by_ ∈ S)) = true then v.by_ :: S else S
def seenK (f : FenceD) (dv : Int) (vs : List VoteD) (k : Nat) : List Int := (vs.take k).foldl (stepS f dv) []
def countsB (f : FenceD) (dv : Int) (vs : List VoteD) (k : Nat) : Bool := match vs[k]? with
  | none => false
  | some v => goodB f dv v && !decide (v.by_ ∈ seenK f dv vs k)
theorem countsB_eq {f : FenceD} {dv : Int} {vs : List VoteD} {k : Nat} {v : VoteD} (h : vs[k]? = some v) : countsB f dv vs k = (goodB f dv v && !decide (v.by_ ∈ seenK f dv vs k)) := by simp [countsB, h]
theorem seenK_succ {f : FenceD} {dv : Int} {vs : List VoteD} {k : Nat} {v : VoteD} (h : vs[k]? = some v) : seenK f dv vs (k + 1) = stepS f dv (seenK f dv vs k) v := by
  unfold seenK
  rw [List.take_add_one, h, List.foldl_append]
  rfl
theorem mem_seenK (f : FenceD) (dv : Int) (vs : List VoteD) (b : Int) : ∀ k, k ≤ vs.length → (b ∈ seenK f dv vs k ↔ ∃ j u, j < k ∧ vs[j]? = some u ∧ u.by_ = b ∧ countsB f dv vs j = true)
  | 0, _ => by simp [seenK]
  | k + 1, hk => by
    have ih := mem_seenK f dv vs b k (by omega)
    obtain ⟨v, hv⟩ : ∃ v, vs[k]? = some v := ⟨_, List.getElem?_eq_getElem (by omega)⟩
    rw [seenK_succ hv]
    unfold stepS
    constructor
    · intro hm
      by_cases hg : (goodB f dv v && !decide (v.by_ ∈ seenK f dv vs k)) = true
      · rw [if_pos hg] at hm
        rcases List.mem_cons.1 hm with q | q
        · exact ⟨k, v, by omega, hv, q.symm, by rw [countsB_eq hv]; exact hg⟩
        · obtain ⟨j, u, h1, h2⟩ := ih.1 q
          exact ⟨j, u, by omega, h2⟩
      · rw [if_neg hg] at hm
        obtain ⟨j, u, h1, h2⟩ := ih.1 hm
        exact ⟨j, u, by omega, h2⟩
    · rintro ⟨j, u, h1, h2, h3, h4⟩
      by_cases hj : j = k
      · subst hj
        rw [hv] at h2
        cases h2
        rw [countsB_eq hv] at h4
        rw [if_pos h4, h3]
        simp
      · have := ih.2 ⟨j, u, by omega, h2, h3, h4⟩
        split
        · exact List.mem_cons_of_mem _ this
        · exact this
set_option maxRecDepth 100000 in
set_option maxHeartbeats 4000000 in
theorem Counts_pure (f : FenceD) (vs : List VoteD) (nb : Option BE) (dv : Int) (hl : f.devices.length < 9223372036854775807) (hv : vs.length < 9223372036854775807) : ∀ (k : Nat) (hk : k < vs.length), Pure Try.prog 48 [f.d, .slm 3 nb VoteD.c vs, i64 dv, .int .i64 (.nat k)] (boolD (countsB f dv vs k)) := by
  intro k
  induction k using Nat.strongRecOn with
  | _ k ih =>
  intro hk
  obtain ⟨v, hx⟩ : ∃ v, vs[k]? = some v := ⟨_, List.getElem?_eq_getElem hk⟩
  have hc := countsB_eq (f := f) (dv := dv) hx
  have hms := mem_seenK f dv vs v.by_ k (by omega)
  obtain ⟨cb, hcb⟩ : ∃ cb, cb = countsB f dv vs := ⟨_, rfl⟩
  rw [← hcb] at hc ih hms ⊢
  obtain ⟨r, hr⟩ : ∃ r, r = cb k := ⟨_, rfl⟩
  rw [← hr] at hc ⊢
  obtain ⟨vb, vd, vn⟩ := v
  have hF1 := Free_pure f dv vb hl
  have hF2 := Free_pure f dv vd hl
  obtain ⟨b1, hb1⟩ : ∃ b, b = freeB f dv vb := ⟨_, rfl⟩
  obtain ⟨b2, hb2⟩ : ∃ b, b = freeB f dv vd := ⟨_, rfl⟩
  rw [← hb1] at hF1
  rw [← hb2] at hF2
  obtain ⟨sn, hsn⟩ : ∃ s, s = decide (vb ∈ seenK f dv vs k) := ⟨_, rfl⟩
  simp only [goodB] at hc hms
  rw [← hb1, ← hb2, ← hsn] at hc
  have hsn' : sn = true ↔ ∃ j u, j < k ∧ vs[j]? = some u ∧ u.by_ = vb ∧ cb j = true := by rw [hsn, decide_eq_true_iff]; exact hms
  clear hms hsn hb1 hb2 hcb hr
  have hno : inc64 f.no = IntKind.i64.wrap (f.no + 1) := rfl
  obtain ⟨no, nl, l⟩ := f
  simp only at hl hno hc
  rw [hno] at hc
  clear hno
  refine Pure.intro (want := [boolD r]) T_ok follows Try.func48 rfl (by kernel_rfl) (rs := [.tmp 8]) rfl (by kernel_rfl) ?_
  generalize hP : Try.prog = P at *
  have hT : T.ok P := hP ▸ T_ok
  have hm : P.follows .mixedOrders = true := hP ▸ follows
  unfold Try.f48
  dsimp only
  cbv
  refine ElemP.mk (by show (0 : Int) ≤ (k : Int) ∧ (k : Int) < (vs.length : Int); omega) (fun v' hx' => ?_)
  replace hx' : vs[k]? = some v' := hx'
  rw [hx] at hx'
  simp only [Option.some.injEq] at hx'
  subst hx'
  cbv
  refine SplitP.mk (fun hs => ?_) (fun hs => ?_) <;> simp only [BE.eql_t, BE.eql_f, IE.var_d] at hs
  · refine .mk (.cons (.eq (.bool ?_)) .nil) rfl
    rw [BE.lit_d, BE.var_d]
    rw [hc, decide_eq_true hs]; rfl
  rw [decide_eq_false hs, Bool.not_false, Bool.true_and] at hc
  refine CallP.pure _ hF1 rfl ?_
  cbv
  refine SplitP.mk (fun hs1 => ?_) (fun hs1 => ?_) <;> simp only [BE.not_t, BE.not_f, BE.var_d] at hs1
  · refine .mk (.cons (.eq (.bool ?_)) .nil) rfl
    rw [BE.lit_d, BE.var_d]
    rw [hc, hs1]; rfl
  rw [hs1, Bool.true_and] at hc
  refine CallP.pure _ hF2 rfl ?_
  cbv
  refine SplitP.mk (fun hs2 => ?_) (fun hs2 => ?_) <;> simp only [BE.not_t, BE.not_f, BE.var_d] at hs2
  · refine .mk (.cons (.eq (.bool ?_)) .nil) rfl
    rw [BE.lit_d, BE.var_d]
    rw [hc, hs2]; rfl
  rw [hs2, Bool.true_and] at hc
  refine SplitP.mk (fun hs3 => ?_) (fun hs3 => ?_)
  · have h3 : (vn != IntKind.i64.wrap (no + 1)) = true := hs3
    refine .mk (.cons (.eq (.bool ?_)) .nil) rfl
    rw [BE.lit_d, BE.var_d]
    rw [hc, decide_eq_false (by simpa using h3)]; rfl
  have h3 : (vn != IntKind.i64.wrap (no + 1)) = false := hs3
  rw [decide_eq_true (by simpa using h3), Bool.true_and] at hc
  clear h3 hs3
  refine CodeP.loopc hT hm (X := Nat) (fun i => [(10, .int .i64 (.nat i))]) (fun i => i ≤ k ∧ ∀ j u, j < i → vs[j]? = some u → ¬ (u.by_ = vb ∧ cb j = true)) (fun i => k - i) 0 ⟨by simp, fun j u h => by omega⟩ (Nat.zero_le _) ?_ rfl ?_
  · (cbv; (repeat' (first | exact SnD.refl _ | exact trivial | exact SnD.nat0 | refine And.intro ?_ ?_)))
  intro i ⟨hi, hq⟩
  cbv
  refine SplitP.mk (fun hs => ?_) (fun hs => ?_)
  · have hik : i < k := by
      have h5 : decide ((i : Int) < (k : Int)) = true := hs
      have := of_decide_eq_true h5
      omega
    clear hs
    refine ElemP.mk (by show (0 : Int) ≤ (i : Int) ∧ (i : Int) < (vs.length : Int); omega) (fun u hu => ?_)
    replace hu : vs[i]? = some u := hu
    obtain ⟨ub, ud, un⟩ := u
    cbv
    refine SplitP.mk (fun hs4 => ?_) (fun hs4 => ?_) <;> simp only [BE.eql_t, BE.eql_f, IE.var_d] at hs4
    · refine PureP.mk _ (ih i hik (by omega)) rfl ?_
      cbv
      refine SplitP.mk (fun hs5 => ?_) (fun hs5 => ?_)
      · replace hs5 : cb i = true := hs5
        refine .mk (.cons (.eq (.bool ?_)) .nil) rfl
        rw [BE.lit_d, BE.var_d]
        rw [hc, hsn'.2 ⟨i, _, hik, hu, hs4, hs5⟩]; rfl
      · replace hs5 : cb i = false := hs5
        refine BackP.intro (i + 1) ⟨by omega, fun j u h1 h2 h3 => ?_⟩ (by show k - (i + 1) < k - i; omega) ⟨?_, HEnt.refl _, rfl⟩
        · by_cases e : j = i
          · subst e; rw [hs5] at h3; cases h3.2
          · exact hq j u (by omega) h2 h3
        · (cbv; (repeat' (first | exact SnD.refl _ | exact trivial | exact SnD.nat0 | refine And.intro ?_ ?_)))
          exact .inc (by omega)
    · refine BackP.intro (i + 1) ⟨by omega, fun j u h1 h2 h3 => ?_⟩ (by show k - (i + 1) < k - i; omega) ⟨?_, HEnt.refl _, rfl⟩
      · by_cases e : j = i
        · subst e; rw [hu] at h2; cases h2; exact hs4 h3.1
        · exact hq j u (by omega) h2 h3
      · (cbv; (repeat' (first | exact SnD.refl _ | exact trivial | exact SnD.nat0 | refine And.intro ?_ ?_)))
        exact .inc (by omega)
  · have hik : k ≤ i := by
      have h5 : decide ((i : Int) < (k : Int)) = false := hs
      have := of_decide_eq_false h5
      omega
    have : sn = false := by
      cases h : sn
      · rfl
      · obtain ⟨j, u, h1, h2, h3⟩ := hsn'.1 h
        exact absurd h3 (hq j u (by omega) h2)
    refine .mk (.cons (.eq (.bool ?_)) .nil) rfl
    rw [BE.lit_d, BE.var_d]
    rw [hc, this]; rfl
end Go.Proofs.Ytbmcepkccenoaaa
namespace Go.Proofs.Ytbmcepkccenoaaa
open Go.RowKit

/-! The votes that count, in the code. -/
def freeC (f : FenceD) (dv d : Int) : Bool := decide (0 ≤ d ∧ d < min dv 4 ∧ ¬ d ∈ f.devices)
set_option maxRecDepth 100000 in
set_option maxHeartbeats 4000000 in
theorem FreeC_pure (f : FenceD) (dv d : Int) (hl : f.devices.length < 9223372036854775807) : Pure Try.prog 28 [i64 d, .dp [i64 dv] 0, .dp [i64 f.no, .slm 1 (some (.var f.nil)) intC f.devices] 0] (boolD (freeC f dv d)) := by
  have hI := Is_pure f d hl
  obtain ⟨no, nl, l⟩ := f
  simp only at hl hI
  simp only [freeC]
  obtain ⟨m, hmm⟩ : ∃ m, m = decide (d ∈ l) := ⟨_, rfl⟩
  rw [← hmm] at hI
  obtain ⟨r, hr⟩ : ∃ r, r = decide (0 ≤ d ∧ d < min dv 4 ∧ ¬ d ∈ l) := ⟨_, rfl⟩
  rw [← hr]
  refine Pure.intro (want := [boolD r]) T_ok follows Try.func28 rfl (by kernel_rfl) (rs := [.tmp 4]) rfl (by kernel_rfl) ?_
  generalize hP : Try.prog = P at *
  have hT : T.ok P := hP ▸ T_ok
  have hm : P.follows .mixedOrders = true := hP ▸ follows
  unfold Try.f28
  dsimp only
  cbv
  refine SplitP.mk (fun h1 => ?_) (fun h1 => ?_) <;> simp only [BE.lss_t, BE.lss_f, BE.leq_t, BE.leq_f, BE.gtr_t, BE.gtr_f, BE.geq_t, BE.geq_f, BE.eql_t, BE.eql_f, BE.neq_t, BE.neq_f, BE.not_t, BE.not_f, BE.var_d, BE.lit_d, BE.seq_t, BE.seq_f, BE.beq_t, BE.beq_f, IE.var_d, IE.lit_d, IE.nat_d, IE.len_d, IE.sum_d, IE.u8_d, ncast, Int.ofNat_lt, Int.ofNat_le, Int.ofNat_inj] at h1
  · refine SplitP.mk (fun h2 => ?_) (fun h2 => ?_)
    · have h3 : decide (d < min dv 4) = true := h2
      have h4 := of_decide_eq_true h3
      refine CallP.pure _ hI rfl ?_
      cbv
      refine .mk (.cons (.eq (.bool ?_)) .nil) rfl
      show (!m) = r
      rw [hr, hmm]
      by_cases q : d ∈ l
      · rw [decide_eq_true q, decide_eq_false (fun h => h.2.2 q)]; rfl
      · rw [decide_eq_false q, decide_eq_true ⟨by omega, by omega, q⟩]; rfl
    · have h3 : decide (d < min dv 4) = false := h2
      have h4 := of_decide_eq_false h3
      refine .mk (.cons (.eq (.bool ?_)) .nil) rfl
      rw [BE.lit_d, BE.var_d]
      rw [hr]; exact (decide_eq_false (fun h => h4 h.2.1)).symm
  · refine .mk (.cons (.eq (.bool ?_)) .nil) rfl
    rw [BE.lit_d, BE.var_d]
    rw [hr]; exact (decide_eq_false (by omega)).symm
def goodC (f : FenceD) (dv : Int) (v : VoteD) : Bool := decide (v.no = inc64 f.no) && (!decide (v.by_ = v.device) && (freeC f dv v.by_ && freeC f dv v.device))
def pickL (g : VoteD → Bool) : List Int → List VoteD → List VoteD
  | _, [] => []
  | S, v :: r => if (g v && !decide (v.by_ ∈ S)) = true then v :: pickL g (v.by_ :: S) r else pickL g S r
abbrev boolC (b : Bool) : List D := [.bool (.lit b)]
abbrev freeFn (f : FenceD) (dv : Int) : D := .fn (.func 28) [] [.dp [i64 dv] 0, .dp [i64 f.no, .slm 1 (some (.var f.nil)) intC f.devices] 0]
theorem row_upd {H H' : List Bk} {ty n ver : Nat} {i : IE} {vl vl' : List Bool} {k : Nat} (hi : i.den = (k : Int)) (hv : vl' = vl.set k true) : BkEq H H' (.row ty n ver (.upd (.map boolC vl) i 0 [.bool (.lit true)])) (.row ty n ver (.map boolC vl')) := by
  subst hv
  refine .row ?_
  simp only [RE.den, hi, Int.toNat_natCast]
  refine List.ext_getElem? fun j => ?_
  rw [List.getElem?_modify, List.getElem?_map, List.getElem?_map, List.getElem?_set]
  by_cases q : k = j
  · subst q
    rw [if_pos rfl]
    cases h : vl[k]? with
    | none =>
      have := List.getElem?_eq_none_iff.1 h
      rw [if_neg (by omega)]
      simp
    | some b =>
      rw [if_pos (List.getElem?_eq_some_iff.1 h).1]
      simp [over]
  · rw [if_neg q]
    cases h : vl[j]? with
    | none => rfl
    | some b => simp [q]
set_option maxRecDepth 100000 in
set_option maxHeartbeats 4000000 in
theorem Counted_pure (f : FenceD) (dv : Int) (vs : List VoteD) (nb : Option BE) (hl : f.devices.length < 9223372036854775807) (hv : vs.length ≤ 100000) : Pure Try.prog 29 [f.d, .slm 3 nb VoteD.c vs, freeFn f dv] (.slm 3 none VoteD.c (pickL (goodC f dv) [] vs)) := by
  have hF := fun d => FreeC_pure f dv d hl
  have hrg : ∀ d, freeC f dv d = true → 0 ≤ d ∧ d < 4 := fun d h => by
    have := of_decide_eq_true h
    omega
  have hgd : ∀ v, goodC f dv v = (decide (v.no = inc64 f.no) && (!decide (v.by_ = v.device) && (freeC f dv v.by_ && freeC f dv v.device))) := fun v => rfl
  obtain ⟨fr, hfr⟩ : ∃ fr, fr = freeC f dv := ⟨_, rfl⟩
  rw [← hfr] at hF hrg hgd
  obtain ⟨g, hg⟩ : ∃ g, g = goodC f dv := ⟨_, rfl⟩
  rw [← hg] at hgd ⊢
  obtain ⟨n, hn⟩ : ∃ n : Nat, n = vs.length := ⟨_, rfl⟩
  obtain ⟨r, hr⟩ : ∃ r, r = pickL g [] vs := ⟨_, rfl⟩
  rw [← hr]
  clear hfr hg
  obtain ⟨no, nl, fl⟩ := f
  simp only [inc64] at hgd
  refine Pure.intro (want := [.slm 3 none VoteD.c r]) T_ok follows Try.func29 rfl (by kernel_rfl) (rs := [.tmp 6]) rfl (by kernel_rfl) ?_
  generalize hP : Try.prog = P at *
  have hT : T.ok P := hP ▸ T_ok
  have hm : P.follows .mixedOrders = true := hP ▸ follows
  unfold Try.f29
  dsimp only
  cbv
  refine CodeP.virt 6 52 3 rfl ?_
  refine CodeP.loopm hT hm (X := Nat × Nat × List VoteD × List Bool × List Int) (fun x => [(12, .int .i64 (.nat x.1)), (6, .osl 3 2 (x.2.1 + 1) (.cmp .eql (.nat x.2.1) (.lit 0)) (.lit 0) (.nat x.2.1))])
    (fun x => [.cells [i64 no, .slm 1 (some (.var nl)) intC fl], .row 1000000 1 1 (.map boolC x.2.2.2.1), .row 52 3 (x.2.1 + 1) (.map VoteD.c x.2.2.1)])
    (fun x => x.1 ≤ n ∧ x.2.1 ≤ x.1 ∧ x.2.2.1.length = x.2.1 ∧ r = x.2.2.1 ++ pickL g x.2.2.2.2 (vs.drop x.1) ∧ x.2.2.2.1.length = 4 ∧ ∀ (j : Nat) b, x.2.2.2.1[j]? = some b → b = decide ((j : Int) ∈ x.2.2.2.2)) (fun x => n - x.1) (0, 0, [], [false, false, false, false], []) ⟨by simp, by simp, rfl, hr, rfl, fun j b h => ?_⟩ (fun _ => by simp) ⟨?_, ?_, rfl⟩ ?_
  · match j, h with
    | 0, h => cases h; rfl
    | 1, h => cases h; rfl
    | 2, h => cases h; rfl
    | 3, h => cases h; rfl
  · (cbv; (repeat' (first | exact SnD.refl _ | exact trivial | exact SnD.nat0 | refine And.intro ?_ ?_)))
    exact osl_start
  · (cbv; (repeat' (first | exact trivial | exact BkEq.refl _ | exact SnD.refl _ | exact SnDs.nil | refine BkEq.cells ?_ | refine SnDs.cons ?_ ?_ | refine And.intro ?_ ?_)))
    · refine .arr rfl fun e he => ?_
      obtain ⟨b, _, rfl⟩ := List.mem_map.1 he
      exact ⟨rfl, rfl⟩
    · exact .row rfl
  intro ⟨k, m, acc, vl, S⟩ ⟨hk, hak, hm0, hq, hv4, hvl⟩
  replace hk : k ≤ n := hk
  replace hak : m ≤ k := hak
  replace hm0 : acc.length = m := hm0
  replace hq : r = acc ++ pickL g S (vs.drop k) := hq
  replace hv4 : vl.length = 4 := hv4
  replace hvl : ∀ (j : Nat) b, vl[j]? = some b → b = decide ((j : Int) ∈ S) := hvl
  cbv
  refine SplitP.mk (fun hs => ?_) (fun hs => ?_)
  · have hkn : k < vs.length := by
      have h5 : decide ((k : Int) < (vs.length : Int)) = true := hs
      have := of_decide_eq_true h5
      omega
    clear hs
    refine ElemP.mk (by show (0 : Int) ≤ (k : Int) ∧ (k : Int) < (vs.length : Int); omega) (fun x hx => ?_)
    replace hx : vs[k]? = some x := hx
    rw [drop_cons hx] at hq
    simp only [pickL] at hq
    have hgx := hgd x
    obtain ⟨xb, xd, xn⟩ := x
    have hF1 := hF xb
    have hF2 := hF xd
    have hr1 := hrg xb
    clear hF hrg hgd
    simp only at hgx hq
    obtain ⟨gx, hgx0⟩ : ∃ gx, gx = g ⟨xb, xd, xn⟩ := ⟨_, rfl⟩
    obtain ⟨f1, hf1⟩ : ∃ y, y = fr xb := ⟨_, rfl⟩
    obtain ⟨f2, hf2⟩ : ∃ y, y = fr xd := ⟨_, rfl⟩
    rw [← hgx0] at hgx hq
    rw [← hf1] at hgx hF1 hr1
    rw [← hf2] at hgx hF2
    clear hgx0 hf1 hf2
    replace hgx : gx = (decide (xn = IntKind.i64.wrap (no + 1)) && (!decide (xb = xd) && (f1 && f2))) := hgx
    have back : gx = false ∨ xb ∈ S → r = acc ++ pickL g S (vs.drop (k + 1)) := fun h => by
      rw [hq]
      rcases h with h | h
      · rw [h]; rfl
      · rw [decide_eq_true h]; simp
    have fore : gx = true → ¬ xb ∈ S → r = (acc ++ [⟨xb, xd, xn⟩]) ++ pickL g (xb :: S) (vs.drop (k + 1)) := fun h h2 => by
      rw [hq, h, decide_eq_false h2]
      simp
    clear hq
    cbv
    refine SplitP.mk (fun h1 => ?_) (fun h1 => ?_)
    · have h1' : decide (xn = IntKind.i64.wrap (no + 1)) = true := h1
      refine SplitP.mk (fun h2 => ?_) (fun h2 => ?_)
      · have h2' : (!decide (xb = xd)) = true := h2
        refine CallP.pure _ hF1 rfl ?_
        cbv
        refine SplitP.mk (fun h3 => ?_) (fun h3 => ?_) <;> simp only [BE.var_d] at h3
        · refine CallP.pure _ hF2 rfl ?_
          cbv
          refine SplitP.mk (fun h4 => ?_) (fun h4 => ?_) <;> simp only [BE.var_d] at h4
          · have hgt : gx = true := by rw [hgx, h1', h2', h3, h4]; rfl
            obtain ⟨b1, b2⟩ := hr1 h3
            obtain ⟨xk, rfl⟩ : ∃ xk : Nat, xb = (xk : Int) := ⟨xb.toNat, by omega⟩
            have hxk : xk < 4 := by omega
            refine ReqP.mk ⟨b1, b2⟩ (fun _ => ?_)
            refine ElemP.mk (by show (0 : Int) ≤ (xk : Int) ∧ (xk : Int) < (vl.length : Int); rw [hv4]; exact ⟨b1, b2⟩) (fun y hy => ?_)
            replace hy : vl[xk]? = some y := hy
            have hyS := hvl xk y hy
            cases y with
            | true =>
              have hS : (xk : Int) ∈ S := of_decide_eq_true hyS.symm
              cbv
              refine BackP.intro (k + 1, m, acc, vl, S) ⟨by show k + 1 ≤ n; omega, by show m ≤ k + 1; omega, hm0, back (.inr hS), hv4, hvl⟩ (by show n - (k + 1) < n - k; omega) ⟨?_, ?_, rfl⟩
              · (cbv; (repeat' (first | exact SnD.refl _ | exact trivial | exact SnD.nat0 | refine And.intro ?_ ?_)))
                exact .inc (by omega)
              · (cbv; (repeat' (first | exact trivial | exact BkEq.refl _ | exact SnD.refl _ | exact SnDs.nil | refine BkEq.cells ?_ | refine SnDs.cons ?_ ?_ | refine And.intro ?_ ?_)))
            | false =>
              have hS : ¬ (xk : Int) ∈ S := of_decide_eq_false hyS.symm
              cbv
              refine ReqP.mk ⟨b1, b2⟩ (fun _ => ?_)
              refine ReqP.mk (by show xk < (vl.map boolC).length; rw [List.length_map, hv4]; exact hxk) (fun _ => ?_)
              refine ReqP.mk (app_ok hm0 (by omega) (fun _ => rfl) rfl (by decide)) (fun _ => ?_)
              cbv
              obtain ⟨acc', hacc'⟩ : ∃ a, a = acc ++ [⟨xk, xd, xn⟩] := ⟨_, rfl⟩
              obtain ⟨vl', hvl'⟩ : ∃ a, a = vl.set xk true := ⟨_, rfl⟩
              refine BackP.intro (k + 1, m + 1, acc', vl', (xk : Int) :: S) ⟨by show k + 1 ≤ n; omega, by show m + 1 ≤ k + 1; omega, by show acc'.length = m + 1; rw [hacc']; simp [hm0], ?_, by show vl'.length = 4; rw [hvl']; simp [hv4], fun j b hj => ?_⟩ (by show n - (k + 1) < n - k; omega) ⟨?_, ?_, rfl⟩
              · show r = acc' ++ pickL g ((xk : Int) :: S) (vs.drop (k + 1))
                rw [hacc']; exact fore hgt hS
              · show b = decide ((j : Int) ∈ (xk : Int) :: S)
                replace hj : vl'[j]? = some b := hj
                rw [hvl', List.getElem?_set] at hj
                by_cases q : xk = j
                · rw [if_pos q, if_pos (by rw [hv4]; exact q ▸ hxk)] at hj
                  cases hj
                  rw [q]; simp
                · rw [if_neg q] at hj
                  rw [hvl j b hj]
                  refine decide_eq_decide.2 ?_
                  simp only [List.mem_cons]
                  constructor
                  · exact .inr
                  · rintro (h | h)
                    · omega
                    · exact h
              · (cbv; (repeat' (first | exact SnD.refl _ | exact trivial | exact SnD.nat0 | refine And.intro ?_ ?_)))
                · exact .inc (by omega)
                · exact osl_step m
              · (cbv; (repeat' (first | exact trivial | exact BkEq.refl _ | exact SnD.refl _ | exact SnDs.nil | refine BkEq.cells ?_ | refine SnDs.cons ?_ ?_ | refine And.intro ?_ ?_)))
                · exact row_upd rfl hvl'
                · exact row_app ⟨xk, xd, xn⟩ hacc' (.cons (.refl _) (.cons (.refl _) (.cons (.refl _) .nil)))
          · have hgt : gx = false := by rw [hgx, h4]; simp
            refine BackP.intro (k + 1, m, acc, vl, S) ⟨by show k + 1 ≤ n; omega, by show m ≤ k + 1; omega, hm0, back (.inl hgt), hv4, hvl⟩ (by show n - (k + 1) < n - k; omega) ⟨?_, ?_, rfl⟩
            · (cbv; (repeat' (first | exact SnD.refl _ | exact trivial | exact SnD.nat0 | refine And.intro ?_ ?_)))
              exact .inc (by omega)
            · (cbv; (repeat' (first | exact trivial | exact BkEq.refl _ | exact SnD.refl _ | exact SnDs.nil | refine BkEq.cells ?_ | refine SnDs.cons ?_ ?_ | refine And.intro ?_ ?_)))
        · have hgt : gx = false := by rw [hgx, h3]; simp
          refine BackP.intro (k + 1, m, acc, vl, S) ⟨by show k + 1 ≤ n; omega, by show m ≤ k + 1; omega, hm0, back (.inl hgt), hv4, hvl⟩ (by show n - (k + 1) < n - k; omega) ⟨?_, ?_, rfl⟩
          · (cbv; (repeat' (first | exact SnD.refl _ | exact trivial | exact SnD.nat0 | refine And.intro ?_ ?_)))
            exact .inc (by omega)
          · (cbv; (repeat' (first | exact trivial | exact BkEq.refl _ | exact SnD.refl _ | exact SnDs.nil | refine BkEq.cells ?_ | refine SnDs.cons ?_ ?_ | refine And.intro ?_ ?_)))
      · have h2' : (!decide (xb = xd)) = false := h2
        have hgt : gx = false := by rw [hgx, h2']; simp
        refine BackP.intro (k + 1, m, acc, vl, S) ⟨by show k + 1 ≤ n; omega, by show m ≤ k + 1; omega, hm0, back (.inl hgt), hv4, hvl⟩ (by show n - (k + 1) < n - k; omega) ⟨?_, ?_, rfl⟩
        · (cbv; (repeat' (first | exact SnD.refl _ | exact trivial | exact SnD.nat0 | refine And.intro ?_ ?_)))
          exact .inc (by omega)
        · (cbv; (repeat' (first | exact trivial | exact BkEq.refl _ | exact SnD.refl _ | exact SnDs.nil | refine BkEq.cells ?_ | refine SnDs.cons ?_ ?_ | refine And.intro ?_ ?_)))
    · have h1' : decide (xn = IntKind.i64.wrap (no + 1)) = false := h1
      have hgt : gx = false := by rw [hgx, h1']; simp
      refine BackP.intro (k + 1, m, acc, vl, S) ⟨by show k + 1 ≤ n; omega, by show m ≤ k + 1; omega, hm0, back (.inl hgt), hv4, hvl⟩ (by show n - (k + 1) < n - k; omega) ⟨?_, ?_, rfl⟩
      · (cbv; (repeat' (first | exact SnD.refl _ | exact trivial | exact SnD.nat0 | refine And.intro ?_ ?_)))
        exact .inc (by omega)
      · (cbv; (repeat' (first | exact trivial | exact BkEq.refl _ | exact SnD.refl _ | exact SnDs.nil | refine BkEq.cells ?_ | refine SnDs.cons ?_ ?_ | refine And.intro ?_ ?_)))
  · have hkn : vs.length ≤ k := by
      have h5 : decide ((k : Int) < (vs.length : Int)) = false := hs
      have := of_decide_eq_false h5
      omega
    clear hs
    have hk2 : k = n := by omega
    have hq2 : r = acc := by rw [hq, List.drop_of_length_le (by omega)]; simp [pickL]
    subst hq2
    refine .mk (.cons (.slm rfl (.inl ⟨_, _, rfl, rfl⟩) rfl ?_ (fun e h => by cases h)) .nil) rfl
    show (m : Int) = (r.length : Int)
    omega
end Go.Proofs.Ytbmcepkccenoaaa
namespace Go.Proofs.Ytbmcepkccenoaaa
open Go.RowKit

/-! The votes against a device, and Vote, in the reference. -/
def agB (f : FenceD) (dv : Int) (vs : List VoteD) (d : Int) (k : Nat) : Bool := match vs[k]? with
  | none => false
  | some v => decide (v.device = d) && countsB f dv vs k
def agK (f : FenceD) (dv : Int) (vs : List VoteD) (d : Int) : Nat → Nat
  | 0 => 0
  | k + 1 => agK f dv vs d k + (if agB f dv vs d k = true then 1 else 0)
theorem agK_le (f : FenceD) (dv : Int) (vs : List VoteD) (d : Int) : ∀ k, agK f dv vs d k ≤ k
  | 0 => Nat.le_refl _
  | k + 1 => by have := agK_le f dv vs d k; simp only [agK]; split <;> omega
set_option maxRecDepth 100000 in
set_option maxHeartbeats 4000000 in
theorem Against_pure (f : FenceD) (vs : List VoteD) (nb : Option BE) (dv d : Int) (hl : f.devices.length < 9223372036854775807) (hv : vs.length ≤ 100000) : Pure Try.prog 34 [f.d, .slm 3 nb VoteD.c vs, i64 dv, i64 d] (.int .i64 (.nat (agK f dv vs d vs.length))) := by
  have hC := Counts_pure f vs nb dv hl (by omega)
  obtain ⟨n, hn⟩ : ∃ n : Nat, n = vs.length := ⟨_, rfl⟩
  have hstep : ∀ (k : Nat) v, vs[k]? = some v → agK f dv vs d (k + 1) = agK f dv vs d k + (if (decide (v.device = d) && countsB f dv vs k) = true then 1 else 0) := fun k v h => by simp only [agK, agB, h]
  have hle := agK_le f dv vs d
  have h0 : agK f dv vs d 0 = 0 := rfl
  obtain ⟨ak, hak⟩ : ∃ ak, ak = agK f dv vs d := ⟨_, rfl⟩
  obtain ⟨cb, hcb⟩ : ∃ cb, cb = countsB f dv vs := ⟨_, rfl⟩
  rw [← hak, ← hcb] at hstep
  rw [← hak] at hle h0 ⊢
  rw [← hcb] at hC
  rw [← hn]
  obtain ⟨r, hr⟩ : ∃ r, r = ak n := ⟨_, rfl⟩
  rw [← hr]
  clear hak hcb
  obtain ⟨no, nl, fl⟩ := f
  refine Pure.intro (want := [.int .i64 (.nat r)]) T_ok follows Try.func34 rfl (by kernel_rfl) (rs := [.tmp 8]) rfl (by kernel_rfl) ?_
  generalize hP : Try.prog = P at *
  have hT : T.ok P := hP ▸ T_ok
  have hm : P.follows .mixedOrders = true := hP ▸ follows
  unfold Try.f34
  dsimp only
  cbv
  refine CodeP.loopc hT hm (X := Nat × Nat) (fun x => [(10, .int .i64 (.nat x.1)), (9, .int .i64 (.nat x.2))]) (fun x => x.1 ≤ n ∧ x.2 = ak x.1) (fun x => n - x.1) (0, 0) ⟨by simp, h0.symm⟩ (by simp) ?_ rfl ?_
  · (cbv; (repeat' (first | exact SnD.refl _ | exact trivial | exact SnD.nat0 | refine And.intro ?_ ?_)))
  intro ⟨k, m⟩ ⟨hk, hm0⟩
  replace hk : k ≤ n := hk
  replace hm0 : m = ak k := hm0
  have hmk := hle k
  cbv
  refine SplitP.mk (fun hs => ?_) (fun hs => ?_)
  · have hkn : k < vs.length := by
      have h5 : decide ((k : Int) < (vs.length : Int)) = true := hs
      have := of_decide_eq_true h5
      omega
    clear hs
    refine ElemP.mk (by show (0 : Int) ≤ (k : Int) ∧ (k : Int) < (vs.length : Int); omega) (fun x hx => ?_)
    replace hx : vs[k]? = some x := hx
    have hst := hstep k x hx
    have hCk := hC k hkn
    obtain ⟨c, hc⟩ : ∃ c, c = cb k := ⟨_, rfl⟩
    rw [← hc] at hCk hst
    obtain ⟨xb, xd, xn⟩ := x
    simp only at hst
    cbv
    refine SplitP.mk (fun h1 => ?_) (fun h1 => ?_) <;> simp only [BE.eql_t, BE.eql_f, IE.var_d] at h1
    · rw [decide_eq_true h1, Bool.true_and] at hst
      refine CallP.pure _ hCk rfl ?_
      cbv
      refine SplitP.mk (fun h2 => ?_) (fun h2 => ?_) <;> simp only [BE.var_d] at h2
      · rw [if_pos h2] at hst
        refine BackP.intro (k + 1, m + 1) ⟨by show k + 1 ≤ n; omega, by show m + 1 = ak (k + 1); omega⟩ (by show n - (k + 1) < n - k; omega) ⟨?_, HEnt.refl _, rfl⟩
        (cbv; (repeat' (first | exact SnD.refl _ | exact trivial | exact SnD.nat0 | refine And.intro ?_ ?_)))
        · exact .inc (by omega)
        · exact .inc (by omega)
      · rw [if_neg (by simp [h2])] at hst
        refine BackP.intro (k + 1, m) ⟨by show k + 1 ≤ n; omega, by show m = ak (k + 1); omega⟩ (by show n - (k + 1) < n - k; omega) ⟨?_, HEnt.refl _, rfl⟩
        (cbv; (repeat' (first | exact SnD.refl _ | exact trivial | exact SnD.nat0 | refine And.intro ?_ ?_)))
        exact .inc (by omega)
    · rw [decide_eq_false h1] at hst
      simp only [Bool.false_and, Bool.false_eq_true, if_false] at hst
      refine BackP.intro (k + 1, m) ⟨by show k + 1 ≤ n; omega, by show m = ak (k + 1); omega⟩ (by show n - (k + 1) < n - k; omega) ⟨?_, HEnt.refl _, rfl⟩
      (cbv; (repeat' (first | exact SnD.refl _ | exact trivial | exact SnD.nat0 | refine And.intro ?_ ?_)))
      exact .inc (by omega)
  · have hkn : vs.length ≤ k := by
      have h5 : decide ((k : Int) < (vs.length : Int)) = false := hs
      have := of_decide_eq_false h5
      omega
    clear hs
    have hk2 : k = n := by omega
    subst hk2
    exact .mk (.cons (.eq (.int (by rw [IE.nat_d, IE.nat_d, hr, hm0]))) .nil) rfl
def zeroF : FenceD := ⟨0, true, []⟩
def outsR (f : FenceD) (dv : Int) (vs : List VoteD) : Nat → List Int
  | 0 => []
  | k + 1 => outsR f dv vs k ++ (if (freeB f dv (k : Int) && decide (dv - f.devices.length - 1 < 2 * (agK f dv vs (k : Int) vs.length : Int))) = true then [(k : Int)] else [])
def joinR (f : FenceD) (out : Int) : Nat → List Int
  | 0 => []
  | k + 1 => joinR f out k ++ (if (decide ((k : Int) = out) || decide ((k : Int) ∈ f.devices)) = true then [(k : Int)] else [])
def rvoteP (f : FenceD) (vs : List VoteD) (dv : Int) : FenceD × Int :=
  if fvalidB f dv = false ∨ f.no = 1048576 then (zeroF, 1) else if (outsR f dv vs dv.toNat).length ≠ 1 then (zeroF, 440) else
  (⟨f.no + 1, (joinR f ((outsR f dv vs dv.toNat).getLastD (-1)) dv.toNat).isEmpty, joinR f ((outsR f dv vs dv.toNat).getLastD (-1)) dv.toNat⟩, 0)
theorem outsR_le (f : FenceD) (dv : Int) (vs : List VoteD) : ∀ k, (outsR f dv vs k).length ≤ k
  | 0 => Nat.le_refl _
  | k + 1 => by have := outsR_le f dv vs k; simp only [outsR]; split <;> simp <;> omega
theorem joinR_le (f : FenceD) (out : Int) : ∀ k, (joinR f out k).length ≤ k
  | 0 => Nat.le_refl _
  | k + 1 => by have := joinR_le f out k; simp only [joinR]; split <;> simp <;> omega
theorem zeroF_ret {H : List Bk} {ie : IE} {re : Int} {rs : FenceD} (h : rs = zeroF ∧ re = ie.den) : RetP H [.agg [.int .i64 (.lit 0), .nils], .int .i64 ie] [rs.d, i64 re] := by
  obtain ⟨rfl, rfl⟩ := h
  exact .mk (.cons (.aggs (.cons (.eq (.int rfl)) (.cons (.eq (.nilv rfl rfl)) .nil))) (.cons (.eq (.int rfl)) .nil)) rfl
set_option maxRecDepth 100000 in
set_option maxHeartbeats 4000000 in
theorem RVote_pure (f : FenceD) (vs : List VoteD) (nb : Option BE) (dv : Int) (hl : f.devices.length ≤ 100000) (hv : vs.length ≤ 100000) : Pure Try.prog 12 [f.d, .slm 3 nb VoteD.c vs, i64 dv] (.tup [(rvoteP f vs dv).1.d, i64 (rvoteP f vs dv).2]) := by
  obtain ⟨rs, hrs⟩ : ∃ r, r = (rvoteP f vs dv).1 := ⟨_, rfl⟩
  obtain ⟨re, hre⟩ : ∃ r, r = (rvoteP f vs dv).2 := ⟨_, rfl⟩
  rw [← hrs, ← hre]
  have hV := RValid_pure f dv (by omega)
  have hF := fun d => Free_pure f dv d (by omega)
  have hA := fun d => Against_pure f vs nb dv d (by omega) hv
  have hI := fun d => RIs_pure f d (by omega)
  have hr1 : fvalidB f dv = false ∨ f.no = 1048576 → rs = zeroF ∧ re = 1 := fun h => by
    rw [hrs, hre]; unfold rvoteP; rw [if_pos h]; exact ⟨rfl, rfl⟩
  have hr2 : ¬ (fvalidB f dv = false ∨ f.no = 1048576) → (outsR f dv vs dv.toNat).length ≠ 1 → rs = zeroF ∧ re = 440 := fun h h2 => by
    rw [hrs, hre]; unfold rvoteP; rw [if_neg h, if_pos h2]; exact ⟨rfl, rfl⟩
  have hr3 : ¬ (fvalidB f dv = false ∨ f.no = 1048576) → (outsR f dv vs dv.toNat).length = 1 → rs = ⟨f.no + 1, (joinR f ((outsR f dv vs dv.toNat).getLastD (-1)) dv.toNat).isEmpty, joinR f ((outsR f dv vs dv.toNat).getLastD (-1)) dv.toNat⟩ ∧ re = 0 := fun h h2 => by
    rw [hrs, hre]; unfold rvoteP; rw [if_neg h, if_neg (by simp [h2])]; exact ⟨rfl, rfl⟩
  have hvb : fvalidB f dv = true → 1 ≤ dv ∧ dv ≤ 4 ∧ 0 ≤ f.no ∧ f.no ≤ 1048576 := fun h => by
    unfold fvalidB at h
    simp only [Bool.and_eq_true, decide_eq_true_eq] at h
    exact h.1
  have hos : ∀ k, outsR f dv vs (k + 1) = outsR f dv vs k ++ (if (freeB f dv (k : Int) && decide (dv - f.devices.length - 1 < 2 * (agK f dv vs (k : Int) vs.length : Int))) = true then [(k : Int)] else []) := fun k => rfl
  have hag := fun d => agK_le f dv vs d vs.length
  have hol := outsR_le f dv vs
  have hjl := joinR_le f ((outsR f dv vs dv.toNat).getLastD (-1))
  have hjs : ∀ k, joinR f ((outsR f dv vs dv.toNat).getLastD (-1)) (k + 1) = joinR f ((outsR f dv vs dv.toNat).getLastD (-1)) k ++ (if (decide ((k : Int) = ((outsR f dv vs dv.toNat).getLastD (-1))) || decide ((k : Int) ∈ f.devices)) = true then [(k : Int)] else []) := fun k => rfl
  obtain ⟨vb, hvb0⟩ : ∃ v, v = fvalidB f dv := ⟨_, rfl⟩
  obtain ⟨fb, hfb⟩ : ∃ v, v = freeB f dv := ⟨_, rfl⟩
  obtain ⟨ag, hag0⟩ : ∃ v, v = fun d => agK f dv vs d vs.length := ⟨_, rfl⟩
  have hag1 : ∀ d, agK f dv vs d vs.length = ag d := fun d => by rw [hag0]
  obtain ⟨om, hom⟩ : ∃ o, o = outsR f dv vs := ⟨_, rfl⟩
  obtain ⟨jo, hjo⟩ : ∃ o, o = joinR f ((outsR f dv vs dv.toNat).getLastD (-1)) := ⟨_, rfl⟩
  have hj0 : jo 0 = [] := by rw [hjo]; rfl
  have ho0 : om 0 = [] := by rw [hom]; rfl
  rw [← hjo] at hjl hjs hr3
  rw [← hom] at hos hol hr2 hr3 hjs
  rw [← hvb0] at hV hr1 hr2 hr3 hvb
  rw [← hfb] at hF hos
  simp only [hag1] at hA hos hag
  obtain ⟨isf, hisf⟩ : ∃ i : Int → Bool, i = fun d => decide (d ∈ f.devices) := ⟨_, rfl⟩
  have hisf1 : ∀ d, decide (d ∈ f.devices) = isf d := fun d => by rw [hisf]
  simp only [hisf1] at hI hjs
  clear hrs hre hom hjo hag0 hag1 hvb0 hfb hisf hisf1
  obtain ⟨no, nl, fl⟩ := f
  simp only at hl hr1 hr2 hr3 hvb hos
  obtain ⟨fn, hfn⟩ : ∃ n : Nat, n = fl.length := ⟨_, rfl⟩
  rw [← hfn] at hos
  refine Pure.intro (want := [rs.d, i64 re]) T_ok follows Try.func12 rfl (by kernel_rfl) (rs := [.cell 6 24, .tmp 7]) rfl (by kernel_rfl) ?_
  generalize hP : Try.prog = P at *
  have hT : T.ok P := hP ▸ T_ok
  have hm : P.follows .mixedOrders = true := hP ▸ follows
  unfold Try.f12
  dsimp only
  cbv
  refine CallP.pure _ hV rfl ?_
  cbv
  refine SplitP.mk (fun hs => ?_) (fun hs => ?_) <;> simp only [BE.not_t, BE.not_f, BE.var_d] at hs
  · exact zeroF_ret (hr1 (.inl hs))
  obtain ⟨d1, d2, n1, n2⟩ := hvb hs
  refine SplitP.mk (fun h1 => ?_) (fun h1 => ?_) <;> simp only [BE.lss_t, BE.lss_f, BE.leq_t, BE.leq_f, BE.gtr_t, BE.gtr_f, BE.geq_t, BE.geq_f, BE.eql_t, BE.eql_f, BE.neq_t, BE.neq_f, BE.not_t, BE.not_f, BE.var_d, BE.lit_d, BE.seq_t, BE.seq_f, BE.beq_t, BE.beq_f, IE.var_d, IE.lit_d, IE.nat_d, IE.len_d, IE.sum_d, IE.u8_d, ncast, Int.ofNat_lt, Int.ofNat_le, Int.ofNat_inj] at h1
  · exact zeroF_ret (hr1 (.inr h1))
  have hok : ¬ (vb = false ∨ no = 1048576) := fun h => by
    rcases h with h | h
    · rw [hs] at h; cases h
    · exact h1 h
  replace hr2 := hr2 hok
  replace hr3 := hr3 hok
  clear hok hr1 hvb hV
  obtain ⟨dn, rfl⟩ : ∃ dn : Nat, dv = (dn : Int) := ⟨dv.toNat, by omega⟩
  have hd4 : dn ≤ 4 := by omega
  simp only [Int.toNat_natCast] at hr2 hr3 hjs
  have hF2 : ∀ k : Nat, Pure P 33 [.agg [i64 no, .slm 1 (some (.var nl)) intC fl], i64 (dn : Int), .int .i64 (.nat k)] (boolD (fb (k : Int))) := fun k => Pure.args (.cons (.refl _) (.cons (.refl _) (.cons (.int (e' := .var (k : Int)) rfl) .nil))) (hF (k : Int))
  have hA2 : ∀ k : Nat, Pure P 34 [.agg [i64 no, .slm 1 (some (.var nl)) intC fl], .slm 3 nb VoteD.c vs, i64 (dn : Int), .int .i64 (.nat k)] (.int .i64 (.nat (ag (k : Int)))) := fun k => Pure.args (.cons (.refl _) (.cons (.refl _) (.cons (.refl _) (.cons (.int (e' := .var (k : Int)) rfl) .nil)))) (hA (k : Int))
  have hI2 : ∀ k : Nat, Pure P 15 [.agg [i64 no, .slm 1 (some (.var nl)) intC fl], .int .i64 (.nat k)] (boolD (isf (k : Int))) := fun k => Pure.args (.cons (.refl _) (.cons (.int (e' := .var (k : Int)) rfl) .nil)) (hI (k : Int))
  clear hF hA hI
  have eo : binDen .sub .i64 (binDen .sub .i64 (dn : Int) (fl.length : Int)) 1 = (dn : Int) - fn - 1 := by
    rw [sub64 (a := (dn : Int)) (by omega) (by omega), sub64 (by omega) (by omega), hfn]
  cbv
  refine CodeP.loopc hT hm (X := Nat × Nat × Int) (fun x => [(11, .int .i64 (.nat x.1)), (10, .int .i64 (.nat x.2.1)), (9, i64 x.2.2)]) (fun x => x.1 ≤ dn ∧ x.2.1 = (om x.1).length ∧ x.2.2 = (om x.1).getLastD (-1)) (fun x => dn - x.1) (0, 0, -1) ⟨by simp, by simp [ho0], by simp [ho0]⟩ (by simp) ?_ rfl ?_
  · (cbv; (repeat' (first | exact SnD.refl _ | exact trivial | exact SnD.nat0 | refine And.intro ?_ ?_)))
    exact .eq (.int rfl)
  intro ⟨k, m, out⟩ ⟨hk, hm0, hout⟩
  replace hk : k ≤ dn := hk
  replace hm0 : m = (om k).length := hm0
  replace hout : out = (om k).getLastD (-1) := hout
  have hmk := hol k
  cbv
  refine SplitP.mk (fun hs => ?_) (fun hs => ?_)
  · have hlt : k < dn := by
      have h3 : decide ((k : Int) < (dn : Int)) = true := hs
      have := of_decide_eq_true h3
      omega
    clear hs
    have hFk := hF2 k
    have hAk := hA2 k
    have hok := hos k
    have hgk := hag (k : Int)
    obtain ⟨a, ha⟩ : ∃ a, a = ag (k : Int) := ⟨_, rfl⟩
    obtain ⟨b, hb⟩ : ∃ b, b = fb (k : Int) := ⟨_, rfl⟩
    rw [← ha] at hAk hok hgk
    rw [← hb] at hFk hok
    have no_ : b = false ∨ ¬ (dn : Int) - fn - 1 < 2 * (a : Int) → om (k + 1) = om k := fun h => by
      rw [hok]
      rcases h with h | h
      · rw [h]; simp
      · rw [decide_eq_false h]; simp
    have yes_ : b = true → (dn : Int) - fn - 1 < 2 * (a : Int) → om (k + 1) = om k ++ [(k : Int)] := fun h h2 => by
      rw [hok, h, decide_eq_true h2]; simp
    refine CallP.pure _ hFk rfl ?_
    cbv
    refine SplitP.mk (fun h1 => ?_) (fun h1 => ?_) <;> simp only [BE.var_d] at h1
    · refine CallP.pure _ hAk rfl ?_
      cbv
      have em : binDen .mul .i64 2 (a : Int) = 2 * (a : Int) := mul64 (by omega) (by omega)
      refine SplitP.mk (fun h2 => ?_) (fun h2 => ?_)
      · have h3 : decide (binDen .mul .i64 2 (a : Int) > binDen .sub .i64 (binDen .sub .i64 (dn : Int) (fl.length : Int)) 1) = true := h2
        rw [em, eo] at h3
        have h4 := yes_ h1 (by have := of_decide_eq_true h3; omega)
        refine BackP.intro (k + 1, m + 1, (k : Int)) ⟨by show k + 1 ≤ dn; omega, by show m + 1 = (om (k + 1)).length; rw [h4, hm0]; simp, by show (k : Int) = (om (k + 1)).getLastD (-1); rw [h4]; simp⟩ (by show dn - (k + 1) < dn - k; omega) ⟨?_, HEnt.refl _, rfl⟩
        (cbv; (repeat' (first | exact SnD.refl _ | exact trivial | exact SnD.nat0 | refine And.intro ?_ ?_)))
        · exact .inc (by omega)
        · exact .inc (by omega)
        · exact .eq (.int rfl)
      · have h3 : decide (binDen .mul .i64 2 (a : Int) > binDen .sub .i64 (binDen .sub .i64 (dn : Int) (fl.length : Int)) 1) = false := h2
        rw [em, eo] at h3
        have h4 := no_ (.inr (by have := of_decide_eq_false h3; omega))
        refine BackP.intro (k + 1, m, out) ⟨by show k + 1 ≤ dn; omega, by show m = (om (k + 1)).length; rw [h4, hm0], by show out = (om (k + 1)).getLastD (-1); rw [h4, hout]⟩ (by show dn - (k + 1) < dn - k; omega) ⟨?_, HEnt.refl _, rfl⟩
        (cbv; (repeat' (first | exact SnD.refl _ | exact trivial | exact SnD.nat0 | refine And.intro ?_ ?_)))
        exact .inc (by omega)
    · have h4 := no_ (.inl h1)
      refine BackP.intro (k + 1, m, out) ⟨by show k + 1 ≤ dn; omega, by show m = (om (k + 1)).length; rw [h4, hm0], by show out = (om (k + 1)).getLastD (-1); rw [h4, hout]⟩ (by show dn - (k + 1) < dn - k; omega) ⟨?_, HEnt.refl _, rfl⟩
      (cbv; (repeat' (first | exact SnD.refl _ | exact trivial | exact SnD.nat0 | refine And.intro ?_ ?_)))
      exact .inc (by omega)
  · have hk2 : k = dn := by
      have h3 : decide ((k : Int) < (dn : Int)) = false := hs
      have := of_decide_eq_false h3
      omega
    clear hs
    subst hk2
    rw [← hm0] at hr2 hr3
    simp only [← hout] at hjs
    clear hos hol hag hF2 hA2 hmk hm0
    refine SplitP.mk (fun h1 => ?_) (fun h1 => ?_) <;> simp only [BE.lss_t, BE.lss_f, BE.leq_t, BE.leq_f, BE.gtr_t, BE.gtr_f, BE.geq_t, BE.geq_f, BE.eql_t, BE.eql_f, BE.neq_t, BE.neq_f, BE.not_t, BE.not_f, BE.var_d, BE.lit_d, BE.seq_t, BE.seq_f, BE.beq_t, BE.beq_f, IE.var_d, IE.lit_d, IE.nat_d, IE.len_d, IE.sum_d, IE.u8_d, ncast, Int.ofNat_lt, Int.ofNat_le, Int.ofNat_inj] at h1
    · exact zeroF_ret (hr2 (by ((try simp only [ncast] at *); omega)))
    obtain ⟨e1, e2⟩ := hr3 (by ((try simp only [ncast] at *); omega))
    subst e1 e2
    clear hr2 hr3
    refine CodeP.virtc 2 1 3 1 _ rfl rfl ?_
    refine CodeP.loopm hT hm (X := Nat × Nat × List Int) (fun x => [(13, .int .i64 (.nat x.1))]) (fun x => [.cells [i64 no, .slm 1 (some (.var nl)) intC fl], .cells [.int .i64 (.lit 0), .nils], .cells [.int .i64 (.bin .add .i64 (.var no) (.lit 1)), .osl 1 3 (x.2.1 + 1) (.cmp .eql (.nat x.2.1) (.lit 0)) (.lit 0) (.nat x.2.1)], .row 3 1 (x.2.1 + 1) (.map intC x.2.2)])
      (fun x => x.1 ≤ k ∧ x.2.2 = jo x.1 ∧ x.2.2.length = x.2.1) (fun x => k - x.1) (0, 0, []) ⟨by simp, hj0.symm, rfl⟩ (fun _ => by simp) ⟨?_, ?_, rfl⟩ ?_
    · (cbv; (repeat' (first | exact SnD.refl _ | exact trivial | exact SnD.nat0 | refine And.intro ?_ ?_)))
    · (cbv; (repeat' (first | exact trivial | exact BkEq.refl _ | exact SnD.refl _ | exact SnDs.nil | refine BkEq.cells ?_ | refine SnDs.cons ?_ ?_ | refine And.intro ?_ ?_)))
      · exact osl_start
      · exact .row rfl
    intro ⟨j, m2, js⟩ ⟨hj, hjs0, hjm⟩
    replace hj : j ≤ k := hj
    replace hjs0 : js = jo j := hjs0
    replace hjm : js.length = m2 := hjm
    have hjlj := hjl j
    have hm2 : m2 ≤ 4 := by rw [← hjm, hjs0]; omega
    cbv
    refine SplitP.mk (fun hs => ?_) (fun hs => ?_)
    · have hlt : j < k := by
        have h3 : decide ((j : Int) < (k : Int)) = true := hs
        have := of_decide_eq_true h3
        omega
      clear hs
      have hok := hjs j
      have hIj := hI2 j
      obtain ⟨b, hb⟩ : ∃ b, b = isf (j : Int) := ⟨_, rfl⟩
      rw [← hb] at hok hIj
      have yes_ : ((j : Int) = out ∨ b = true) → ReqP (fun _ => (IE.lit 1).den = (RE.lits [intC (j : Int)]).den.length) True := fun _ => ReqP.mk rfl fun _ => trivial
      refine SplitP.mk (fun h1 => ?_) (fun h1 => ?_) <;> simp only [BE.eql_t, BE.eql_f, IE.var_d, IE.nat_d] at h1
      · rw [decide_eq_true h1] at hok
        simp only [Bool.true_or, if_true] at hok
        refine ReqP.mk (app_ok hjm (by omega) (fun _ => rfl) rfl (by decide)) (fun _ => ?_)
        cbv
        obtain ⟨js', hjs'⟩ : ∃ a, a = js ++ [(j : Int)] := ⟨_, rfl⟩
        refine BackP.intro (j + 1, m2 + 1, js') ⟨by show j + 1 ≤ k; omega, by show js' = jo (j + 1); rw [hok, hjs', hjs0], by show js'.length = m2 + 1; rw [hjs']; simp [hjm]⟩ (by show k - (j + 1) < k - j; omega) ⟨?_, ?_, rfl⟩
        · (cbv; (repeat' (first | exact SnD.refl _ | exact trivial | exact SnD.nat0 | refine And.intro ?_ ?_)))
          exact .inc (by omega)
        · (cbv; (repeat' (first | exact trivial | exact BkEq.refl _ | exact SnD.refl _ | exact SnDs.nil | refine BkEq.cells ?_ | refine SnDs.cons ?_ ?_ | refine And.intro ?_ ?_)))
          · exact osl_step m2
          · exact row_app (j : Int) hjs' (.cons (.int rfl) .nil)
      · rw [decide_eq_false h1, Bool.false_or] at hok
        refine CallP.pure _ hIj rfl ?_
        cbv
        refine SplitP.mk (fun h2 => ?_) (fun h2 => ?_) <;> simp only [BE.var_d] at h2
        · rw [if_pos h2] at hok
          refine ReqP.mk (app_ok hjm (by omega) (fun _ => rfl) rfl (by decide)) (fun _ => ?_)
          cbv
          obtain ⟨js', hjs'⟩ : ∃ a, a = js ++ [(j : Int)] := ⟨_, rfl⟩
          refine BackP.intro (j + 1, m2 + 1, js') ⟨by show j + 1 ≤ k; omega, by show js' = jo (j + 1); rw [hok, hjs', hjs0], by show js'.length = m2 + 1; rw [hjs']; simp [hjm]⟩ (by show k - (j + 1) < k - j; omega) ⟨?_, ?_, rfl⟩
          · (cbv; (repeat' (first | exact SnD.refl _ | exact trivial | exact SnD.nat0 | refine And.intro ?_ ?_)))
            exact .inc (by omega)
          · (cbv; (repeat' (first | exact trivial | exact BkEq.refl _ | exact SnD.refl _ | exact SnDs.nil | refine BkEq.cells ?_ | refine SnDs.cons ?_ ?_ | refine And.intro ?_ ?_)))
            · exact osl_step m2
            · exact row_app (j : Int) hjs' (.cons (.int rfl) .nil)
        · rw [if_neg (by simp [h2]), List.append_nil] at hok
          refine BackP.intro (j + 1, m2, js) ⟨by show j + 1 ≤ k; omega, by show js = jo (j + 1); rw [hok, hjs0], hjm⟩ (by show k - (j + 1) < k - j; omega) ⟨?_, ?_, rfl⟩
          · (cbv; (repeat' (first | exact SnD.refl _ | exact trivial | exact SnD.nat0 | refine And.intro ?_ ?_)))
            exact .inc (by omega)
          · (cbv; (repeat' (first | exact trivial | exact BkEq.refl _ | exact SnD.refl _ | exact SnDs.nil | refine BkEq.cells ?_ | refine SnDs.cons ?_ ?_ | refine And.intro ?_ ?_)))
    · have hk2 : j = k := by
        have h3 : decide ((j : Int) < (k : Int)) = false := hs
        have := of_decide_eq_false h3
        omega
      clear hs
      subst hk2
      rw [← hjs0]
      refine .mk (.cons (.aggs (.cons (.eq (.int ?_)) (.cons (.slm rfl (.inl ⟨_, _, rfl, rfl⟩) rfl ?_ (fun e h => ?_)) .nil))) (.cons (.eq (.int rfl)) .nil)) rfl
      · exact add64 (by show _ ≤ no + 1; omega) (by show no + 1 ≤ _; omega)
      · show (m2 : Int) = (js.length : Int)
        omega
      · cases h
        show js.isEmpty = ((m2 : Int) == 0)
        cases js with
        | nil => rw [← hjm]; rfl
        | cons a l => rw [← hjm]; symm; exact beq_eq_false_iff_ne.2 (by simp only [List.length_cons]; omega)
end Go.Proofs.Ytbmcepkccenoaaa
namespace Go.Proofs.Ytbmcepkccenoaaa
open Go.RowKit Go.Shelf Go.Sort

/-! slices.Sort at ints: the library's contract laid at this program; the sort of an own row. -/
def lays189_ren : Go.Shelf.Ren := ⟨fun | 189 => 31 | 125 => 47 | 257 => 46 | 128 => 80 | 129 => 81 | 294 => 71 | 295 => 72 | 296 => 73 | 297 => 74 | 298 => 75 | 299 => 76 | 216 => 77 | 300 => 78 | 301 => 79 | 328 => 87 | 329 => 88 | 330 => 89 | 331 => 90 | 332 => 91 | 215 => 92 | 343 => 95 | n => n, fun | 28 => 22 | 3 => 3 | 46 => 76 | 0 => 0 | 51 => 104 | 53 => 106 | 4 => 4 | 183 => 96 | 182 => 95 | 131 => 101 | 5 => 5 | 9 => 9 | 218 => 113 | 222 => 117 | 228 => 121 | 229 => 122 | n => n, fun | n => n⟩
theorem lays189 : Go.Proofs.Lays.n189 Try.prog lays189_ren := {
  mixed := by kernel_rfl
  f125 := Try.func47.trans (congrArg some (by kernel_rfl))
  f128 := Try.func80.trans (congrArg some (by kernel_rfl))
  f129 := Try.func81.trans (congrArg some (by kernel_rfl))
  f189 := Try.func31.trans (congrArg some (by kernel_rfl))
  f215 := Try.func92.trans (congrArg some (by kernel_rfl))
  f216 := Try.func77.trans (congrArg some (by kernel_rfl))
  f257 := Try.func46.trans (congrArg some (by kernel_rfl))
  f294 := Try.func71.trans (congrArg some (by kernel_rfl))
  f295 := Try.func72.trans (congrArg some (by kernel_rfl))
  f296 := Try.func73.trans (congrArg some (by kernel_rfl))
  f297 := Try.func74.trans (congrArg some (by kernel_rfl))
  f298 := Try.func75.trans (congrArg some (by kernel_rfl))
  f299 := Try.func76.trans (congrArg some (by kernel_rfl))
  f300 := Try.func78.trans (congrArg some (by kernel_rfl))
  f301 := Try.func79.trans (congrArg some (by kernel_rfl))
  f328 := Try.func87.trans (congrArg some (by kernel_rfl))
  f329 := Try.func88.trans (congrArg some (by kernel_rfl))
  f330 := Try.func89.trans (congrArg some (by kernel_rfl))
  f331 := Try.func90.trans (congrArg some (by kernel_rfl))
  f332 := Try.func91.trans (congrArg some (by kernel_rfl))
  f343 := Try.func95.trans (congrArg some (by kernel_rfl))
  t0 := Try.underlying0
  a0 := Try.isAgg0
  z0 := Try.sizeOf0
  v0 := Try.zeroValue0
  t3 := Try.underlying3
  a3 := Try.isAgg3
  z3 := Try.sizeOf3
  v3 := Try.zeroValue3
  t4 := Try.underlying4
  a4 := Try.isAgg4
  z4 := Try.sizeOf4
  v4 := Try.zeroValue4
  t5 := Try.underlying5
  a5 := Try.isAgg5
  z5 := Try.sizeOf5
  v5 := Try.zeroValue5
  t9 := Try.underlying9
  a9 := Try.isAgg9
  z9 := Try.sizeOf9
  v9 := Try.zeroValue9
  t28 := Try.underlying22
  a28 := Try.isAgg22
  z28 := Try.sizeOf22
  v28 := Try.zeroValue22
  t46 := Try.underlying76
  a46 := Try.isAgg76
  z46 := Try.sizeOf76
  v46 := Try.zeroValue76
  t51 := Try.underlying104
  a51 := Try.isAgg104
  z51 := Try.sizeOf104
  v51 := Try.zeroValue104
  t53 := Try.underlying106
  a53 := Try.isAgg106
  z53 := Try.sizeOf106
  v53 := Try.zeroValue106
  t131 := Try.underlying101
  a131 := Try.isAgg101
  z131 := Try.sizeOf101
  v131 := Try.zeroValue101
  t182 := Try.underlying95
  a182 := Try.isAgg95
  z182 := Try.sizeOf95
  v182 := Try.zeroValue95
  t183 := Try.underlying96
  a183 := Try.isAgg96
  z183 := Try.sizeOf96
  v183 := Try.zeroValue96
  t218 := Try.underlying113
  a218 := Try.isAgg113
  z218 := Try.sizeOf113
  v218 := Try.zeroValue113
  t222 := Try.underlying117
  a222 := Try.isAgg117
  z222 := Try.sizeOf117
  v222 := Try.zeroValue117
  t228 := Try.underlying121
  a228 := Try.isAgg121
  z228 := Try.sizeOf121
  v228 := Try.zeroValue121
  t229 := Try.underlying122
  a229 := Try.isAgg122
  z229 := Try.sizeOf122
  v229 := Try.zeroValue122 }

theorem onCells_cells (f : Array Value → Array Value) (cs : Array Value) (t : TypeId) (fz : Nat × Nat) : onCells f (.cells cs t fz) = .cells (f cs) t fz := rfl
theorem sort_call {H : List Bk} {b ver ty : Nat} {nb : BE} {len : IE} {r : RE} {l : List Int} {K : D → List Bk → Prop} (hb : H[b]? = some (.row ty 1 ver r)) (hr : r.den = l.map intC) (hnn : nb.den = false) (hlen : len.den = (l.length : Int)) (hsz : l.length < 4611686018427387904)
    (hk : K (.tup []) (H.set b (.row ty 1 ver (.map intC (l.mergeSort fun x y => decide (x ≤ y)))))) : CallP Try.prog 31 [.osl 1 b ver nb (.lit 0) len] H K := by
  refine ⟨⟨_, _, Try.func31, rfl, by kernel_rfl⟩, fun B w E vs hh hl hw => ?_⟩
  obtain ⟨h1, h2⟩ := hl
  simp only [List.length_cons, List.length_nil] at h1
  obtain ⟨v, rfl⟩ : ∃ v, vs = #[v] := by
    obtain ⟨vl⟩ := vs
    match vl, h1 with
    | [v], _ => exact ⟨v, rfl⟩
  have hv := h2 0 _ v rfl rfl
  have hblk := hw.heap b _ hb
  cases hv with
  | osln hk' hs hnb => rw [hnn] at hnb; cases hnb
  | osls hk' =>
    rcases hblk with ⟨z1, _⟩ | ⟨z1, _⟩
    · omega
    · simp only [Bk.ver] at z1; omega
  | oslc hk' hs hnb hlz hn hc hm hz =>
    rename_i c m cap
    rcases hblk with ⟨_, z2⟩ | ⟨z1, z2, _⟩
    · rw [z2] at hs; cases hs
    obtain ⟨cs, t, y1, y2, y3, y4, y5⟩ := z2 c hs
    have hml : m = l.length := by rw [hlen] at hn; omega
    subst hml
    have hbk : Blk w c cs t := y2
    have hcl : l.length ≤ cs.size := by rw [hr] at y4; simpa using y4
    have hcs : ∀ j, j < l.length → cs[j]? = some (.int .i64 l[j]!) := fun j hj => by
      have he : r.den[j]? = some (intC l[j]) := by rw [hr]; simp [hj]
      obtain ⟨_, u2⟩ := y5 j _ he
      obtain ⟨v, u3, u4⟩ := u2 0 _ rfl
      cases u4
      simp only [Nat.mul_one, Nat.add_zero] at u3
      rw [u3]
      simp [hj, IE.den]
    have hin : ∀ x ∈ l, InR .i64 x := fun x hx => by
      obtain ⟨j, hj, rfl⟩ := List.getElem_of_mem hx
      have he : r.den[j]? = some (intC l[j]) := by rw [hr]; simp [hj]
      obtain ⟨_, u2⟩ := y5 j _ he
      obtain ⟨v, u3, u4⟩ := u2 0 _ rfl
      cases u4 with | int hi => exact hi
    have hH : Go.Sort.Holds (Value.int .i64) w c 0 l.toArray := fun j hj => by
      simp at hj
      refine ⟨?_, hbk.frozen _⟩
      rw [hbk.cell]
      simp only [Nat.zero_add]
      rw [hcs j hj]
      simp
    have hcw : c < w.heap.size := (hw.own b c hs).2.1
    have key := Any.slices_Sort_int lays189 c 0 cap l w hH hcw hsz
    have e31 : lays189_ren.f 189 = 31 := rfl
    rw [e31] at key
    have e0 : (IE.lit 0).den.toNat * 1 = 0 := rfl
    rw [e0]
    refine key.mono ?_
    rintro e w' ⟨rfl, n, os, rfl⟩
    obtain ⟨srt, hsrt⟩ : ∃ srt, srt = l.mergeSort fun x y => decide (x ≤ y) := ⟨_, rfl⟩
    rw [← hsrt] at hk ⊢
    have hsl : srt.length = l.length := by rw [hsrt, List.length_mergeSort]
    obtain ⟨c', k1, k2, k3⟩ := setCells_blk (srt.map (Value.int .i64)) 0 w cs hbk (by simp; omega)
    simp only [Nat.zero_le, true_and, Nat.zero_add, List.length_map, Nat.sub_zero] at k3
    obtain ⟨p1, p2⟩ := hw.put (x := b) (c := c) hs hb (b' := .row ty 1 ver (.map intC srt)) (srt.map (Value.int .i64)) 0 z1 (by
      refine ⟨c', t, y1, k1, by omega, by simp [RE.den]; omega, fun i e he => ?_⟩
      simp only [RE.den, List.getElem?_map, Option.map_eq_some_iff] at he
      obtain ⟨x, hx, rfl⟩ := he
      have hi := (List.getElem?_eq_some_iff.1 hx).1
      refine ⟨rfl, fun j d hd => ?_⟩
      match j, hd with
      | 0, hd =>
        simp only [List.getElem?_cons_zero, Option.some.injEq] at hd
        subst hd
        refine ⟨.int .i64 x, ?_, ?_⟩
        · simp only [Nat.mul_one, Nat.add_zero]
          rw [k3 i (by omega), if_pos (by omega)]
          simp [hx]
        · refine .int (hin x ?_)
          have := List.mem_of_getElem? hx
          rw [hsrt] at this
          exact List.mem_mergeSort.1 this)
    have hos := below_setCells (hw.own b c hs).1 (srt.map (Value.int .i64)) 0 w
    have hw1 : (w.setCells c 0 (srt.map (Value.int .i64))).heap[c]? = some (.cells c' t (0, 0)) := k1
    have hbel : Below (w.setCells c 0 (srt.map (Value.int .i64))).heap.size (w.setCells c 0 (srt.map (Value.int .i64))) (grow (putRow (Value.int .i64) (Sort.ahead w n) c 0 srt.toArray) os) := by
      refine ⟨hos.os.symm ▸ rfl, hos.tape.symm ▸ rfl, hos.output.symm ▸ rfl, ?_, fun k hk => ?_⟩
      · rw [setCells_size]
        show w.heap.size ≤ (w.heap.modify c _ ++ os).size
        simp
      · rw [setCells_size] at hk
        show (w.heap.modify c (onCells (putCells (Value.int .i64) 0 srt.toArray)) ++ os)[k]? = _
        rw [Array.getElem?_append_left (by simpa using hk), Array.getElem?_modify]
        by_cases e : c = k
        · subst e
          rw [if_pos rfl, hw1, y2]
          simp only [Option.map_some, onCells_cells, Option.some.injEq]
          congr 1
          refine Array.ext_getElem? fun i => ?_
          unfold putCells
          rw [Array.getElem?_mapIdx]
          rcases Nat.lt_or_ge i cs.size with q | q
          · rw [k3 i q, Array.getElem?_eq_getElem q]
            simp only [Option.map_some, Nat.zero_le, true_and, Nat.zero_add, Nat.sub_zero, List.size_toArray]
            by_cases q2 : i < srt.length
            · rw [if_pos q2, if_pos q2]
              simp [q2]
            · rw [if_neg q2, if_neg q2]
          · rw [Array.getElem?_eq_none q, Array.getElem?_eq_none (by omega)]
            rfl
        · rw [if_neg e, setCells_heap c _ 0 w k (fun q => e q.symm)]
    have hfin : WRel B (H.set b (.row ty 1 ver (.map intC srt))) E (grow (putRow (Value.int .i64) (Sort.ahead w n) c 0 srt.toArray) os) := p1.same hbel
    exact ⟨_, E, _, _, rfl, hfin, .tup rfl (fun i d v h => by simp at h), hk⟩
end Go.Proofs.Ytbmcepkccenoaaa
namespace Go.Proofs.Ytbmcepkccenoaaa
open Go.RowKit

/-! fence.Vote. -/
def othK (fr : Int → Bool) (d : Int) : Nat → Nat
  | 0 => 0
  | k + 1 => othK fr d k + (if (!decide ((k : Int) = d) && fr (k : Int)) = true then 1 else 0)
def bysD (d : Int) (l : List VoteD) : List Int := (l.filter fun v => decide (v.device = d)).map (·.by_)
def outsC (fr : Int → Bool) (L : List VoteD) (mn : Nat) : Nat → List Int
  | 0 => []
  | k + 1 => outsC fr L mn k ++ (if (fr (k : Int) && decide (othK fr (k : Int) mn < 2 * (bysD (k : Int) L).length)) = true then [(k : Int)] else [])
def outsV (f : FenceD) (vs : List VoteD) (dv : Int) : List Int := outsC (freeC f dv) (pickL (goodC f dv) [] vs) (min dv 4).toNat (min dv 4).toNat
def sortI (l : List Int) : List Int := l.mergeSort fun x y => decide (x ≤ y)
def voteP (f : FenceD) (vs : List VoteD) (dv : Int) : FenceD × Int :=
  if fvalidB f dv = false ∨ f.no = 1048576 then (zeroF, 1) else if (outsV f vs dv).length ≠ 1 then (zeroF, 440) else
  (⟨f.no + 1, false, sortI (f.devices ++ outsV f vs dv)⟩, 0)
theorem othK_le (fr : Int → Bool) (d : Int) : ∀ k, othK fr d k ≤ k
  | 0 => Nat.le_refl _
  | k + 1 => by have := othK_le fr d k; simp only [othK]; split <;> omega
theorem outsC_le (fr : Int → Bool) (L : List VoteD) (mn : Nat) : ∀ k, (outsC fr L mn k).length ≤ k
  | 0 => Nat.le_refl _
  | k + 1 => by have := outsC_le fr L mn k; simp only [outsC]; split <;> simp <;> omega
theorem bysD_le (d : Int) (l : List VoteD) : (bysD d l).length ≤ l.length := by
  unfold bysD
  rw [List.length_map]
  exact List.length_filter_le _ _
theorem pickL_mem {g : VoteD → Bool} : ∀ {S : List Int} {l : List VoteD} {v : VoteD}, v ∈ pickL g S l → v ∈ l ∧ g v = true ∧ ¬ v.by_ ∈ S
  | S, [], v, h => by simp [pickL] at h
  | S, x :: l, v, h => by
    simp only [pickL] at h
    split at h
    · next hc =>
      simp only [Bool.and_eq_true, Bool.not_eq_true', decide_eq_false_iff_not] at hc
      rcases List.mem_cons.1 h with rfl | h
      · exact ⟨by simp, hc.1, hc.2⟩
      · obtain ⟨a, b, c⟩ := pickL_mem h
        exact ⟨by simp [a], b, fun h => c (by simp [h])⟩
    · obtain ⟨a, b, c⟩ := pickL_mem h
      exact ⟨by simp [a], b, c⟩
theorem pickL_nodup (g : VoteD → Bool) : ∀ (S : List Int) (l : List VoteD), ((pickL g S l).map (·.by_)).Nodup
  | S, [] => by simp [pickL]
  | S, x :: l => by
    simp only [pickL]
    split
    · rw [List.map_cons, List.nodup_cons]
      refine ⟨fun h => ?_, pickL_nodup g _ l⟩
      obtain ⟨v, h1, h2⟩ := List.mem_map.1 h
      exact (pickL_mem h1).2.2 (by rw [h2]; simp)
    · exact pickL_nodup g S l
theorem pickL_len (g : VoteD → Bool) : ∀ (S : List Int) (l : List VoteD), (pickL g S l).length ≤ l.length
  | S, [] => by simp [pickL]
  | S, x :: l => by
    simp only [pickL]
    split
    · have := pickL_len g (x.by_ :: S) l; simp; omega
    · have := pickL_len g S l; simp; omega
theorem bysD_step {d : Int} {L : List VoteD} {k : Nat} {v : VoteD} (h : L[k]? = some v) : bysD d (L.take (k + 1)) = bysD d (L.take k) ++ (if v.device = d then [v.by_] else []) := by
  unfold bysD
  rw [List.take_add_one, h]
  simp only [Option.toList_some, List.filter_append, List.map_append]
  congr 1
  by_cases q : v.device = d <;> simp [q]
theorem bysD_new {d : Int} {L : List VoteD} (hn : (L.map (·.by_)).Nodup) {k : Nat} {v : VoteD} (h : L[k]? = some v) : ¬ v.by_ ∈ bysD d (L.take k) := fun hm => by
  unfold bysD at hm
  obtain ⟨u, h1, h2⟩ := List.mem_map.1 hm
  obtain ⟨j, h3⟩ := List.getElem?_of_mem (List.mem_filter.1 h1).1
  have hj : j < k := by
    have := (List.getElem?_eq_some_iff.1 h3).1
    rw [List.length_take] at this
    omega
  rw [List.getElem?_take, if_pos hj] at h3
  have e1 : (L.map (·.by_))[j]? = some u.by_ := by simp [h3]
  have e2 : (L.map (·.by_))[k]? = some v.by_ := by simp [h]
  have h5 : (L.map (·.by_))[j]? = (L.map (·.by_))[k]? := by rw [e1, e2, h2]
  have := (List.getElem?_inj (List.getElem?_eq_some_iff.1 e1).1 hn).1 h5
  omega
theorem mp_start {H H' : List Bk} {S : Int → Bool} (hS : ∀ x, S x = false) : BkEq H H' (.mp .i64 (.lits [])) (.mp .i64 (.setb S (.nat 0))) := by
  refine .mp rfl fun x => ?_
  simp only [ME.den, findE, hS, Bool.false_eq_true, if_false]
  exact .none
theorem mp_same {H H' : List Bk} {S S' : Int → Bool} {n n' : IE} (hn : n.den = n'.den) (hS : ∀ x, S x = S' x) : BkEq H H' (.mp .i64 (.setb S n)) (.mp .i64 (.setb S' n')) := by
  refine .mp hn fun x => ?_
  simp only [ME.den, hS]
  split
  · exact .some (.refl _)
  · exact .none
set_option maxRecDepth 100000 in
set_option maxHeartbeats 4000000 in
theorem Vote_pure (f : FenceD) (vs : List VoteD) (nb : Option BE) (dv : Int) (hl : f.devices.length ≤ 100000) (hn : f.nil = true → f.devices = []) (hv : vs.length ≤ 100000) : Pure Try.prog 11 [f.d, .slm 3 nb VoteD.c vs, i64 dv] (.tup [(voteP f vs dv).1.d, i64 (voteP f vs dv).2]) := by
  obtain ⟨rs, hrs⟩ : ∃ r, r = (voteP f vs dv).1 := ⟨_, rfl⟩
  obtain ⟨re, hre⟩ : ∃ r, r = (voteP f vs dv).2 := ⟨_, rfl⟩
  rw [← hrs, ← hre]
  have hV := valid_pure f dv (by omega)
  have hF := fun d => FreeC_pure f dv d (by omega)
  have hC := Counted_pure f dv vs nb (by omega) hv
  have hr1 : fvalidB f dv = false ∨ f.no = 1048576 → rs = zeroF ∧ re = 1 := fun h => by
    rw [hrs, hre]; unfold voteP; rw [if_pos h]; exact ⟨rfl, rfl⟩
  have hr2 : ¬ (fvalidB f dv = false ∨ f.no = 1048576) → (outsV f vs dv).length ≠ 1 → rs = zeroF ∧ re = 440 := fun h h2 => by
    rw [hrs, hre]; unfold voteP; rw [if_neg h, if_pos h2]; exact ⟨rfl, rfl⟩
  have hr3 : ¬ (fvalidB f dv = false ∨ f.no = 1048576) → (outsV f vs dv).length = 1 → rs = ⟨f.no + 1, false, sortI (f.devices ++ outsV f vs dv)⟩ ∧ re = 0 := fun h h2 => by
    rw [hrs, hre]; unfold voteP; rw [if_neg h, if_neg (by simp [h2])]; exact ⟨rfl, rfl⟩
  have hvb : fvalidB f dv = true → 1 ≤ dv ∧ dv ≤ 4 ∧ 0 ≤ f.no ∧ f.no ≤ 1048576 := fun h => by
    unfold fvalidB at h
    simp only [Bool.and_eq_true, decide_eq_true_eq] at h
    exact h.1
  have hLn := pickL_nodup (goodC f dv) [] vs
  have hLl := pickL_len (goodC f dv) [] vs
  unfold outsV at hr2 hr3
  obtain ⟨L, hL⟩ : ∃ l, l = pickL (goodC f dv) [] vs := ⟨_, rfl⟩
  obtain ⟨fr, hfr⟩ : ∃ v, v = freeC f dv := ⟨_, rfl⟩
  obtain ⟨vb, hvb0⟩ : ∃ v, v = fvalidB f dv := ⟨_, rfl⟩
  obtain ⟨mn, hmn⟩ : ∃ v, v = (min dv 4).toNat := ⟨_, rfl⟩
  have hmn4 : mn ≤ 4 := by omega
  have hmlt : ∀ k : Nat, decide ((k : Int) < min dv 4) = decide (k < mn) := fun k => decide_eq_decide.2 (by omega)
  have hmlx : ∀ k : Nat, decide ((k : Int) < max (min dv 4) 0) = decide (k < mn) := fun k => decide_eq_decide.2 (by omega)
  rw [← hL, ← hfr, ← hmn] at hr2 hr3
  rw [← hL] at hC hLn hLl
  rw [← hfr] at hF
  rw [← hvb0] at hr1 hr2 hr3 hvb hV
  have hos : ∀ k, outsC fr L mn (k + 1) = outsC fr L mn k ++ (if (fr (k : Int) && decide (othK fr (k : Int) mn < 2 * (bysD (k : Int) L).length)) = true then [(k : Int)] else []) := fun k => rfl
  have hol := outsC_le fr L mn
  have ho0 : outsC fr L mn 0 = [] := rfl
  have hts : ∀ d k, othK fr d (k + 1) = othK fr d k + (if (!decide ((k : Int) = d) && fr (k : Int)) = true then 1 else 0) := fun d k => rfl
  have ht0 : ∀ d, othK fr d 0 = 0 := fun d => rfl
  have htl := othK_le fr
  obtain ⟨om, hom⟩ : ∃ o, o = outsC fr L mn := ⟨_, rfl⟩
  obtain ⟨ot, hot⟩ : ∃ o, o = othK fr := ⟨_, rfl⟩
  rw [← hom] at hr2 hr3 hos hol ho0
  rw [← hot] at hos hts ht0 htl
  have hbs : ∀ (d : Int) (k : Nat) (v : VoteD), L[k]? = some v → bysD d (L.take (k + 1)) = bysD d (L.take k) ++ (if v.device = d then [v.by_] else []) := fun d k v h => bysD_step h
  have hbn : ∀ (d : Int) (k : Nat) (v : VoteD), L[k]? = some v → ¬ v.by_ ∈ bysD d (L.take k) := fun d k v h => bysD_new hLn h
  have hbl := fun d l => bysD_le d l
  have hb0 : ∀ d, bysD d [] = [] := fun d => rfl
  obtain ⟨by_, hby⟩ : ∃ o, o = bysD := ⟨_, rfl⟩
  rw [← hby] at hos hbs hbn hbl hb0
  obtain ⟨so, hso⟩ : ∃ s, s = sortI := ⟨_, rfl⟩
  have hso1 : ∀ l : List Int, l.mergeSort (fun x y => decide (x ≤ y)) = so l := fun l => by rw [hso]; rfl
  rw [← hso] at hr3
  clear hrs hre hL hfr hvb0 hom hot hby hso hLn hmn
  obtain ⟨no, nl, fl⟩ := f
  simp only at hl hn hr1 hr2 hr3 hvb
  have hcn := CloneI_new fl hl
  have hcz := fun h => CloneI_nil fl (hn h)
  have hsort := @sort_call
  have e : (.tup [rs.d, i64 re] : D) = retD [rs.d, i64 re] := rfl
  rw [e]
  refine Pure.introD T_ok follows Try.func11 rfl (by kernel_rfl) (rs := [.cell 6 24, .cell 7 28]) rfl (by kernel_rfl) rfl rfl rfl rfl rfl rfl (by kernel_rfl) ?_
  generalize hP : Try.prog = P at *
  have hT : T.ok P := hP ▸ T_ok
  have hm : P.follows .mixedOrders = true := hP ▸ follows
  cbv
  refine ⟨[(1, .slm 3 nb (fun v => [.int .i64 (.var v.by_), .int .i64 (.var v.device), .int .i64 (.var v.no)]) vs), (3, .dp [i64 no, .slm 1 (some (.var nl)) intC fl] 0), (5, .dp [i64 dv] 0), (6, .ptr 2 1 0), (7, .ptr 3 1 0)], [.dead, .dead, .cells [.int .i64 (.lit 0), .nils], .cells [.int .i64 (.lit 0)]], ⟨?_, ?_, rfl⟩, rfl, ?_⟩
  · cbv
    exact ⟨.refl _, .dp rfl rfl rfl, .dp rfl rfl rfl, .refl _, .refl _, trivial⟩
  · exact ⟨.dead _, .dead _, .refl _, .refl _, trivial⟩
  cbv
  refine CallP.pure _ hC rfl ?_
  clear hC
  have hF2 : ∀ k : Nat, Pure P 28 [.int .i64 (.nat k), .dp [i64 dv] 0, .dp [i64 no, .slm 1 (some (.var nl)) intC fl] 0] (boolD (fr (k : Int))) := fun k => Pure.args (.cons (.int (e' := .var (k : Int)) rfl) (.cons (.refl _) (.cons (.refl _) .nil))) (hF (k : Int))
  clear hF
  cbv
  refine CodeP.virt 11 3 1 rfl ?_
  refine CodeP.loopm hT hm (X := Nat × Nat × List Int × (Int → Bool) × Nat) (fun x => [(28, .int .i64 (.nat x.1)), (11, .osl 1 5 (x.2.1 + 1) (.cmp .eql (.nat x.2.1) (.lit 0)) (.lit 0) (.nat x.2.1))])
    (fun x => [.dead, .dead, .cells [.int .i64 (.lit 0), .nils], .cells [.int .i64 (.lit 0)], .mp .i64 (.setb x.2.2.2.1 (.nat x.2.2.2.2)), .row 3 1 (x.2.1 + 1) (.map intC x.2.2.1)])
    (fun x => x.1 ≤ mn ∧ x.2.2.1 = om x.1 ∧ x.2.2.1.length = x.2.1) (fun x => mn - x.1) (0, 0, [], (fun _ => false), 0) ⟨by simp, ho0.symm, rfl⟩ (fun _ => by simp) ⟨?_, ?_, rfl⟩ ?_
  · (cbv; (repeat' (first | exact SnD.refl _ | exact trivial | exact SnD.nat0 | refine And.intro ?_ ?_)))
    exact osl_start
  · (cbv; (repeat' (first | exact trivial | exact BkEq.refl _ | exact SnD.refl _ | exact SnDs.nil | refine BkEq.cells ?_ | refine SnDs.cons ?_ ?_ | refine And.intro ?_ ?_)))
    · exact mp_start fun _ => rfl
    · exact .row rfl
  intro ⟨k, m, acc, S0, c0⟩ ⟨hk, hacc, hm0⟩
  replace hk : k ≤ mn := hk
  replace hacc : acc = om k := hacc
  replace hm0 : acc.length = m := hm0
  have hm4 : m ≤ 4 := by have := hol k; rw [← hm0, hacc]; omega
  cbv
  refine SplitP.mk (fun hs => ?_) (fun hs => ?_)
  · have hlt : k < mn := by
      have h3 : decide ((k : Int) < max (min dv 4) 0) = true := hs
      rw [hmlx] at h3
      exact of_decide_eq_true h3
    clear hs
    have hFk := hF2 k
    have hok := hos k
    obtain ⟨b, hb⟩ : ∃ b, b = fr (k : Int) := ⟨_, rfl⟩
    rw [← hb] at hFk hok
    refine CallP.pure _ hFk rfl ?_
    cbv
    refine SplitP.mk (fun h1 => ?_) (fun h1 => ?_) <;> simp only [BE.not_t, BE.not_f, BE.var_d] at h1
    · rw [h1] at hok
      simp only [Bool.false_and, Bool.false_eq_true, if_false, List.append_nil] at hok
      refine BackP.intro (k + 1, m, acc, S0, c0) ⟨by show k + 1 ≤ mn; omega, by show acc = om (k + 1); rw [hok, hacc], hm0⟩ (by show mn - (k + 1) < mn - k; omega) ⟨?_, ?_, rfl⟩
      · (cbv; (repeat' (first | exact SnD.refl _ | exact trivial | exact SnD.nat0 | refine And.intro ?_ ?_)))
        exact .inc (by omega)
      · (cbv; (repeat' (first | exact trivial | exact BkEq.refl _ | exact SnD.refl _ | exact SnDs.nil | refine BkEq.cells ?_ | refine SnDs.cons ?_ ?_ | refine And.intro ?_ ?_)))
    rw [h1, Bool.true_and] at hok
    have htk := hts (k : Int)
    have ht0k := ht0 (k : Int)
    have htlk := htl (k : Int)
    obtain ⟨tk, htk0⟩ : ∃ t, t = ot (k : Int) := ⟨_, rfl⟩
    rw [← htk0] at htk ht0k htlk hok
    clear hFk hb htk0
    refine CodeP.loopc hT hm (X := Nat × Nat) (fun x => [(38, .int .i64 (.nat x.1)), (13, .int .i64 (.nat x.2))]) (fun x => x.1 ≤ mn ∧ x.2 = tk x.1) (fun x => mn - x.1) (0, 0) ⟨by simp, ht0k.symm⟩ (by simp) ?_ rfl ?_
    · (cbv; (repeat' (first | exact SnD.refl _ | exact trivial | exact SnD.nat0 | refine And.intro ?_ ?_)))
    intro ⟨j, c⟩ ⟨hj, hc⟩
    replace hj : j ≤ mn := hj
    replace hc : c = tk j := hc
    have hcj := htlk j
    cbv
    refine SplitP.mk (fun hs => ?_) (fun hs => ?_)
    · have hlt2 : j < mn := by
        have h3 : decide ((j : Int) < min dv 4) = true := hs
        rw [hmlt] at h3
        exact of_decide_eq_true h3
      clear hs
      have hFj := hF2 j
      have htj := htk j
      obtain ⟨b, hb⟩ : ∃ b, b = fr (j : Int) := ⟨_, rfl⟩
      rw [← hb] at hFj htj
      refine SplitP.mk (fun h2 => ?_) (fun h2 => ?_)
      · have h2' : (!decide ((j : Int) = (k : Int))) = true := h2
        rw [h2', Bool.true_and] at htj
        refine CallP.pure _ hFj rfl ?_
        cbv
        refine SplitP.mk (fun h3 => ?_) (fun h3 => ?_) <;> simp only [BE.var_d] at h3
        · rw [h3] at htj
          refine BackP.intro (j + 1, c + 1) ⟨by show j + 1 ≤ mn; omega, by show c + 1 = tk (j + 1); rw [htj, hc]; rfl⟩ (by show mn - (j + 1) < mn - j; omega) ⟨?_, HEnt.refl _, rfl⟩
          (cbv; (repeat' (first | exact SnD.refl _ | exact trivial | exact SnD.nat0 | refine And.intro ?_ ?_)))
          · exact .inc (by omega)
          · exact .inc (by omega)
        · rw [h3] at htj
          refine BackP.intro (j + 1, c) ⟨by show j + 1 ≤ mn; omega, by show c = tk (j + 1); rw [htj, hc]; rfl⟩ (by show mn - (j + 1) < mn - j; omega) ⟨?_, HEnt.refl _, rfl⟩
          (cbv; (repeat' (first | exact SnD.refl _ | exact trivial | exact SnD.nat0 | refine And.intro ?_ ?_)))
          exact .inc (by omega)
      · have h2' : (!decide ((j : Int) = (k : Int))) = false := h2
        rw [h2', Bool.false_and] at htj
        refine BackP.intro (j + 1, c) ⟨by show j + 1 ≤ mn; omega, by show c = tk (j + 1); rw [htj, hc]; rfl⟩ (by show mn - (j + 1) < mn - j; omega) ⟨?_, HEnt.refl _, rfl⟩
        (cbv; (repeat' (first | exact SnD.refl _ | exact trivial | exact SnD.nat0 | refine And.intro ?_ ?_)))
        exact .inc (by omega)
    have hj2 : j = mn := by
      have h3 : decide ((j : Int) < min dv 4) = false := hs
      rw [hmlt] at h3
      have := of_decide_eq_false h3
      omega
    clear hs
    rw [hj2] at hc
    rw [← hc] at hok
    clear hj2 hcj
    have hbsk := hbs (k : Int)
    have hbnk := hbn (k : Int)
    have hblk := fun l => hbl (k : Int) l
    have hb0k := hb0 (k : Int)
    obtain ⟨bk, hbk⟩ : ∃ t, t = by_ (k : Int) := ⟨_, rfl⟩
    rw [← hbk] at hbsk hbnk hblk hb0k hok
    obtain ⟨n, hn⟩ : ∃ n : Nat, n = L.length := ⟨_, rfl⟩
    refine CodeP.loopm hT hm (X := Nat × (Int → Bool) × Nat) (fun x => [(54, .int .i64 (.nat x.1))])
      (fun x => [.dead, .dead, .cells [.int .i64 (.lit 0), .nils], .cells [.int .i64 (.lit 0)], .mp .i64 (.setb x.2.1 (.nat x.2.2)), .row 3 1 (m + 1) (.map intC acc)])
      (fun x => x.1 ≤ n ∧ x.2.2 = (bk (L.take x.1)).length ∧ ∀ y, x.2.1 y = decide (y ∈ bk (L.take x.1))) (fun x => n - x.1) (0, (fun _ => false), 0) ⟨by simp, by simp [hb0k], fun y => by simp [hb0k]⟩ (fun _ => by simp) ⟨?_, ?_, rfl⟩ ?_
    · (cbv; (repeat' (first | exact SnD.refl _ | exact trivial | exact SnD.nat0 | refine And.intro ?_ ?_)))
    · (cbv; (repeat' (first | exact trivial | exact BkEq.refl _ | exact SnD.refl _ | exact SnDs.nil | refine BkEq.cells ?_ | refine SnDs.cons ?_ ?_ | refine And.intro ?_ ?_)))
      exact mp_same rfl fun _ => rfl
    intro ⟨i, S, e⟩ ⟨hi, he, hS⟩
    replace hi : i ≤ n := hi
    replace he : e = (bk (L.take i)).length := he
    replace hS : ∀ y, S y = decide (y ∈ bk (L.take i)) := hS
    have hei := hblk (L.take i)
    rw [List.length_take] at hei
    cbv
    refine SplitP.mk (fun hs => ?_) (fun hs => ?_)
    · have hkn : i < L.length := by
        have h5 : decide ((i : Int) < (L.length : Int)) = true := hs
        have := of_decide_eq_true h5
        omega
      clear hs
      refine ElemP.mk (by show (0 : Int) ≤ (i : Int) ∧ (i : Int) < (L.length : Int); omega) (fun x hx => ?_)
      replace hx : L[i]? = some x := hx
      have hbi := hbsk i x hx
      have hbni := hbnk i x hx
      obtain ⟨xb, xd, xn⟩ := x
      simp only at hbi hbni
      have hSx := hS xb
      rw [decide_eq_false hbni] at hSx
      cbv
      refine SplitP.mk (fun h2 => ?_) (fun h2 => ?_)
      · have h2' : xd = (k : Int) := of_decide_eq_true h2
        rw [if_pos h2'] at hbi
        refine SplitP.mk (fun h => ?_) (fun h => ?_)
        · exfalso
          replace h : S xb = true := h
          rw [hSx] at h
          cases h
        · refine ReqP.mk ⟨by show (e : Int) < maxLen; simp only [maxLen]; omega⟩ (fun _ => ?_)
          cbv
          refine BackP.intro (i + 1, fun z => z == xb || S z, e + 1) ⟨by show i + 1 ≤ n; omega, by show e + 1 = (bk (L.take (i + 1))).length; rw [hbi, he]; simp, fun y => ?_⟩ (by show n - (i + 1) < n - i; omega) ⟨?_, ?_, rfl⟩
          · show (y == xb || S y) = decide (y ∈ bk (L.take (i + 1)))
            rw [hbi, hS, Bool.eq_iff_iff]
            simp only [Bool.or_eq_true, beq_iff_eq, decide_eq_true_eq, List.mem_append, List.mem_singleton]
            exact Or.comm
          · (cbv; (repeat' (first | exact SnD.refl _ | exact trivial | exact SnD.nat0 | refine And.intro ?_ ?_)))
            exact .inc (by omega)
          · (cbv; (repeat' (first | exact trivial | exact BkEq.refl _ | exact SnD.refl _ | exact SnDs.nil | refine BkEq.cells ?_ | refine SnDs.cons ?_ ?_ | refine And.intro ?_ ?_)))
            exact mp_same rfl fun _ => rfl
      · have h2' : ¬ xd = (k : Int) := of_decide_eq_false h2
        rw [if_neg h2', List.append_nil] at hbi
        refine BackP.intro (i + 1, S, e) ⟨by show i + 1 ≤ n; omega, by show e = (bk (L.take (i + 1))).length; rw [hbi, he], fun y => by show S y = decide (y ∈ bk (L.take (i + 1))); rw [hbi, hS]⟩ (by show n - (i + 1) < n - i; omega) ⟨?_, ?_, rfl⟩
        · (cbv; (repeat' (first | exact SnD.refl _ | exact trivial | exact SnD.nat0 | refine And.intro ?_ ?_)))
          exact .inc (by omega)
        · (cbv; (repeat' (first | exact trivial | exact BkEq.refl _ | exact SnD.refl _ | exact SnDs.nil | refine BkEq.cells ?_ | refine SnDs.cons ?_ ?_ | refine And.intro ?_ ?_)))
    have hkn : L.length ≤ i := by
      have h5 : decide ((i : Int) < (L.length : Int)) = false := hs
      have := of_decide_eq_false h5
      omega
    clear hs
    have hi2 : i = n := by omega
    rw [← he] at hei
    rw [hi2, hn, List.take_length] at he
    rw [← he] at hok
    clear hi2 hS hbsk hbnk hblk hb0k htk ht0k htlk
    have em : binDen .mul .i64 2 (e : Int) = 2 * (e : Int) := mul64 (by omega) (by omega)
    refine SplitP.mk (fun h2 => ?_) (fun h2 => ?_)
    · have h3 : decide (binDen .mul .i64 2 (e : Int) > (c : Int)) = true := h2
      rw [em] at h3
      have h4 := of_decide_eq_true h3
      rw [decide_eq_true (by omega : c < 2 * e), if_pos rfl] at hok
      refine ReqP.mk (app_ok hm0 (by omega) (fun _ => rfl) rfl (by decide)) (fun _ => ?_)
      cbv
      obtain ⟨acc', hacc'⟩ : ∃ a, a = acc ++ [(k : Int)] := ⟨_, rfl⟩
      refine BackP.intro (k + 1, m + 1, acc', S, e) ⟨by show k + 1 ≤ mn; omega, by show acc' = om (k + 1); rw [hok, hacc', hacc], by show acc'.length = m + 1; rw [hacc']; simp [hm0]⟩ (by show mn - (k + 1) < mn - k; omega) ⟨?_, ?_, rfl⟩
      · (cbv; (repeat' (first | exact SnD.refl _ | exact trivial | exact SnD.nat0 | refine And.intro ?_ ?_)))
        · exact .inc (by omega)
        · exact osl_step m
      · (cbv; (repeat' (first | exact trivial | exact BkEq.refl _ | exact SnD.refl _ | exact SnDs.nil | refine BkEq.cells ?_ | refine SnDs.cons ?_ ?_ | refine And.intro ?_ ?_)))
        · exact row_app (k : Int) hacc' (.cons (.int rfl) .nil)
    · have h3 : decide (binDen .mul .i64 2 (e : Int) > (c : Int)) = false := h2
      rw [em] at h3
      have h4 := of_decide_eq_false h3
      rw [decide_eq_false (by omega : ¬ c < 2 * e), if_neg (by simp), List.append_nil] at hok
      refine BackP.intro (k + 1, m, acc, S, e) ⟨by show k + 1 ≤ mn; omega, by show acc = om (k + 1); rw [hok, hacc], hm0⟩ (by show mn - (k + 1) < mn - k; omega) ⟨?_, ?_, rfl⟩
      · (cbv; (repeat' (first | exact SnD.refl _ | exact trivial | exact SnD.nat0 | refine And.intro ?_ ?_)))
        exact .inc (by omega)
      · (cbv; (repeat' (first | exact trivial | exact BkEq.refl _ | exact SnD.refl _ | exact SnDs.nil | refine BkEq.cells ?_ | refine SnDs.cons ?_ ?_ | refine And.intro ?_ ?_)))
  have hk2 : k = mn := by
    have h3 : decide ((k : Int) < max (min dv 4) 0) = false := hs
    rw [hmlx] at h3
    have := of_decide_eq_false h3
    omega
  clear hs
  rw [hk2] at hacc
  rw [← hacc, hm0] at hr2 hr3
  clear hk2 hos hol ho0 hts ht0 htl hbs hbn hbl hb0 hF2 hmlt hmlx hLl
  refine SplitP.mk (fun h1 => ?_) (fun h1 => ?_) <;> simp only [BE.lss_t, BE.lss_f, BE.leq_t, BE.leq_f, BE.gtr_t, BE.gtr_f, BE.geq_t, BE.geq_f, BE.eql_t, BE.eql_f, BE.neq_t, BE.neq_f, BE.not_t, BE.not_f, BE.var_d, BE.lit_d, BE.seq_t, BE.seq_f, BE.beq_t, BE.beq_f, IE.var_d, IE.lit_d, IE.nat_d, IE.len_d, IE.sum_d, IE.u8_d, ncast, Int.ofNat_lt, Int.ofNat_le, Int.ofNat_inj] at h1
  · refine DefP.inl hT hm (hP ▸ Try.func26) rfl (by kernel_rfl) (rs := []) rfl (by kernel_rfl) ?_
    unfold Try.f26
    dsimp only
    cbv
    refine CallP.pure _ hV rfl ?_
    cbv
    refine SplitP.mk (fun h2 => ?_) (fun h2 => ?_) <;> simp only [BE.not_t, BE.not_f, BE.var_d] at h2
    · exact zeroF_ret (hr1 (.inl h2))
    refine SplitP.mk (fun h3 => ?_) (fun h3 => ?_) <;> simp only [BE.lss_t, BE.lss_f, BE.leq_t, BE.leq_f, BE.gtr_t, BE.gtr_f, BE.geq_t, BE.geq_f, BE.eql_t, BE.eql_f, BE.neq_t, BE.neq_f, BE.not_t, BE.not_f, BE.var_d, BE.lit_d, BE.seq_t, BE.seq_f, BE.beq_t, BE.beq_f, IE.var_d, IE.lit_d, IE.nat_d, IE.len_d, IE.sum_d, IE.u8_d, ncast, Int.ofNat_lt, Int.ofNat_le, Int.ofNat_inj] at h3
    · exact zeroF_ret (hr1 (.inr h3))
    refine zeroF_ret (hr2 (fun h => ?_) (by ((try simp only [ncast] at *); omega)))
    rcases h with h | h
    · rw [h2] at h; cases h
    · exact h3 h
  have hm1 : m = 1 := by ((try simp only [ncast] at *); omega)
  clear hr2 h1
  subst hm1
  obtain ⟨a, rfl⟩ : ∃ a, acc = [a] := by
    match acc, hm0 with
    | [a], _ => exact ⟨a, rfl⟩
  obtain ⟨sl, hsl⟩ : ∃ s, s = so (fl ++ [a]) := ⟨_, rfl⟩
  have hsll : sl.length = fl.length + 1 := by rw [hsl, ← hso1, List.length_mergeSort]; simp
  rw [← hsl] at hr3
  clear hm0 hacc
  cases nl
  · refine .new hcn rfl (by simp [D.scalB, RE.den]) (by decide) ?_
    cbv
    refine ReqP.mk ⟨by show (0 : Int) ≤ 0; omega, by show (0 : Int) < (1 : Nat); omega⟩ (fun _ => ?_)
    refine ElemP.mk (by show (0 : Int) ≤ 0 ∧ (0 : Int) < 1; omega) (fun x hx => ?_)
    replace hx : some a = some x := hx
    cases hx
    cbv
    refine ReqP.mk ⟨rfl, by simp [IE.den, RE.den], (by intro e he; simp only [RE.den, List.mem_singleton] at he; subst he; rfl), (by intro e he; simp only [RE.den, List.nil_append, List.mem_map] at he; obtain ⟨x, _, rfl⟩ := he; rfl), by show (fl.length : Int) + 1 ≤ _; omega, by show ((fl.length : Int) + 1) * ((8 : Nat) : Int) ≤ _; omega⟩ (fun _ => ?_)
    refine hsort (l := fl ++ [a]) rfl (by simp [RE.den]) rfl (by simp [IE.den]) (by simp; omega) ?_
    rw [hso1]
    rw [← hsl]
    cbv
    refine DefP.inl hT hm (hP ▸ Try.func26) rfl (by kernel_rfl) (rs := []) rfl (by kernel_rfl) ?_
    unfold Try.f26
    dsimp only
    cbv
    refine CallP.pure _ hV rfl ?_
    cbv
    refine SplitP.mk (fun h2 => ?_) (fun h2 => ?_) <;> simp only [BE.not_t, BE.not_f, BE.var_d] at h2
    · exact zeroF_ret (hr1 (.inl h2))
    refine SplitP.mk (fun h3 => ?_) (fun h3 => ?_) <;> simp only [BE.lss_t, BE.lss_f, BE.leq_t, BE.leq_f, BE.gtr_t, BE.gtr_f, BE.geq_t, BE.geq_f, BE.eql_t, BE.eql_f, BE.neq_t, BE.neq_f, BE.not_t, BE.not_f, BE.var_d, BE.lit_d, BE.seq_t, BE.seq_f, BE.beq_t, BE.beq_f, IE.var_d, IE.lit_d, IE.nat_d, IE.len_d, IE.sum_d, IE.u8_d, ncast, Int.ofNat_lt, Int.ofNat_le, Int.ofNat_inj] at h3
    · exact zeroF_ret (hr1 (.inr h3))
    obtain ⟨d1, d2, n1, n2⟩ := hvb h2
    obtain ⟨e1, e2⟩ := hr3 (fun h => by
      rcases h with h | h
      · rw [h2] at h; cases h
      · exact h3 h) rfl
    subst e1 e2
    refine .mk (.cons (.aggs (.cons (.eq (.int ?_)) (.cons (.slm rfl (.inl ⟨_, _, rfl, rfl⟩) rfl ?_ (fun e h => ?_)) .nil))) (.cons (.eq (.int rfl)) .nil)) rfl
    · exact add64 (by show _ ≤ no + 1; omega) (by show no + 1 ≤ _; omega)
    · rw [hsll]; simp [IE.den]
    · cases h
      rfl
  · refine .mk .nils (hcz rfl) rfl ?_
    cbv
    refine ReqP.mk ⟨by show (0 : Int) ≤ 0; omega, by show (0 : Int) < (1 : Nat); omega⟩ (fun _ => ?_)
    refine ElemP.mk (by show (0 : Int) ≤ 0 ∧ (0 : Int) < 1; omega) (fun x hx => ?_)
    replace hx : some a = some x := hx
    cases hx
    cbv
    refine hsort (l := fl ++ [a]) rfl (by rw [hn rfl]; rfl) rfl (by rw [hn rfl]; rfl) (by simp; omega) ?_
    rw [hso1]
    rw [← hsl]
    cbv
    refine DefP.inl hT hm (hP ▸ Try.func26) rfl (by kernel_rfl) (rs := []) rfl (by kernel_rfl) ?_
    unfold Try.f26
    dsimp only
    cbv
    refine CallP.pure _ hV rfl ?_
    cbv
    refine SplitP.mk (fun h2 => ?_) (fun h2 => ?_) <;> simp only [BE.not_t, BE.not_f, BE.var_d] at h2
    · exact zeroF_ret (hr1 (.inl h2))
    refine SplitP.mk (fun h3 => ?_) (fun h3 => ?_) <;> simp only [BE.lss_t, BE.lss_f, BE.leq_t, BE.leq_f, BE.gtr_t, BE.gtr_f, BE.geq_t, BE.geq_f, BE.eql_t, BE.eql_f, BE.neq_t, BE.neq_f, BE.not_t, BE.not_f, BE.var_d, BE.lit_d, BE.seq_t, BE.seq_f, BE.beq_t, BE.beq_f, IE.var_d, IE.lit_d, IE.nat_d, IE.len_d, IE.sum_d, IE.u8_d, ncast, Int.ofNat_lt, Int.ofNat_le, Int.ofNat_inj] at h3
    · exact zeroF_ret (hr1 (.inr h3))
    obtain ⟨d1, d2, n1, n2⟩ := hvb h2
    obtain ⟨e1, e2⟩ := hr3 (fun h => by
      rcases h with h | h
      · rw [h2] at h; cases h
      · exact h3 h) rfl
    subst e1 e2
    refine .mk (.cons (.aggs (.cons (.eq (.int ?_)) (.cons (.slm rfl (.inl ⟨_, _, rfl, rfl⟩) rfl ?_ (fun e h => ?_)) .nil))) (.cons (.eq (.int rfl)) .nil)) rfl
    · exact add64 (by show _ ≤ no + 1; omega) (by show no + 1 ≤ _; omega)
    · rw [hsll]; simp [IE.den]; rw [hn rfl]; rfl
    · cases h
      rfl
end Go.Proofs.Ytbmcepkccenoaaa
namespace Go.Proofs.Ytbmcepkccenoaaa
open Go.RowKit

/-! The examples of the chapter: the calls. -/
def litC (v : VoteD) : List D := [.int .i64 (.lit v.by_), .int .i64 (.lit v.device), .int .i64 (.lit v.no)]
theorem litC_eq (vs : List VoteD) : DEq (.sll 3 (vs.map litC)) (.sll 3 (vs.map VoteD.c)) := by
  refine .slls (by simp) (fun i e e' h1 h2 => ?_) fun i e e' h1 h2 j d d' h3 h4 => ?_
  · simp only [List.getElem?_map, Option.map_eq_some_iff] at h1 h2
    obtain ⟨x, _, rfl⟩ := h1
    obtain ⟨y, _, rfl⟩ := h2
    rfl
  · simp only [List.getElem?_map, Option.map_eq_some_iff] at h1 h2
    obtain ⟨x, h5, rfl⟩ := h1
    obtain ⟨y, h6, rfl⟩ := h2
    rw [h5] at h6
    cases h6
    match j, h3, h4 with
    | 0, h3, h4 => cases h3; cases h4; exact .int rfl
    | 1, h3, h4 => cases h3; cases h4; exact .int rfl
    | 2, h3, h4 => cases h3; cases h4; exact .int rfl
theorem zeroF_eq : DEq (.agg [.int .i64 (.lit 0), .nils]) zeroF.d := by
  refine .aggs rfl fun i d d' h1 h2 => ?_
  match i, h1, h2 with
  | 0, h1, h2 => cases h1; cases h2; exact .int rfl
  | 1, h1, h2 => cases h1; cases h2; exact .nilv rfl rfl
theorem litR (a : D) (x : Int) : DEq (.tup [a, i64 x]) (.tup [a, .int .i64 (.lit x)]) := by
  refine .tups rfl fun i d d' h1 h2 => ?_
  match i, h1, h2 with
  | 0, h1, h2 => cases h1; cases h2; exact .refl _
  | 1, h1, h2 => cases h1; cases h2; exact .int rfl
theorem voteG (vs : List VoteD) (dv : Int) {r : FenceD × Int} (hv : vs.length ≤ 100) (hr : voteP zeroF vs dv = r) : Pure Try.prog 11 [.agg [.int .i64 (.lit 0), .nils], .sll 3 (vs.map litC), .int .i64 (.lit dv)] (.tup [r.1.d, .int .i64 (.lit r.2)]) := by
  subst hr
  refine Pure.res ?_ (litR _ _)
  exact Pure.args (args' := [zeroF.d, .sll 3 (vs.map VoteD.c), i64 dv]) (.cons zeroF_eq (.cons (litC_eq vs) (.cons (.int rfl) .nil))) (Pure.args (args' := [zeroF.d, .slm 3 none VoteD.c vs, i64 dv]) (.cons (.refl _) (.cons (.sll rfl (fun e h => by cases h)) (.cons (.refl _) .nil))) (Vote_pure zeroF vs none dv (by simp [zeroF]) (fun _ => rfl) (by omega)))
theorem voteM (vs : List VoteD) (dv : Int) {r : FenceD × Int} (hv : vs.length ≤ 100) (hr : voteP zeroF vs dv = r) : Pure Try.prog 11 [.agg [.int .i64 (.lit 0), .nils], .slm 3 none VoteD.c vs, .int .i64 (.lit dv)] (.tup [r.1.d, .int .i64 (.lit r.2)]) := by
  subst hr
  refine Pure.res ?_ (litR _ _)
  exact Pure.args (args' := [zeroF.d, .slm 3 none VoteD.c vs, i64 dv]) (.cons zeroF_eq (.cons (.refl _) (.cons (.int rfl) .nil))) (Vote_pure zeroF vs none dv (by simp [zeroF]) (fun _ => rfl) (by omega))
theorem voteN (dv : Int) {r : FenceD × Int} (hr : voteP zeroF [] dv = r) : Pure Try.prog 11 [.agg [.int .i64 (.lit 0), .nils], .nils, .int .i64 (.lit dv)] (.tup [r.1.d, .int .i64 (.lit r.2)]) := by
  subst hr
  refine Pure.res ?_ (litR _ _)
  exact Pure.args (args' := [zeroF.d, .slm 3 none VoteD.c [], i64 dv]) (.cons zeroF_eq (.cons (.nil0 rfl) (.cons (.int rfl) .nil))) (Vote_pure zeroF [] none dv (by simp [zeroF]) (fun _ => rfl) (by simp))
theorem sort1 (a : Int) : sortI [a] = [a] := by simp [sortI]
theorem v1 : voteP zeroF [⟨0, 2, 1⟩, ⟨1, 2, 1⟩] 3 = (⟨1, false, [2]⟩, 0) := by
  have : (⟨1, false, sortI [2]⟩, 0) = ((⟨1, false, [2]⟩ : FenceD), (0 : Int)) := by rw [sort1]
  rw [← this]; rfl
theorem v2 : voteP zeroF [⟨0, 2, 1⟩] 3 = (zeroF, 440) := by rfl
theorem v3 : voteP zeroF [] 0 = (zeroF, 1) := by rfl
theorem v4 : voteP zeroF [] 2 = (zeroF, 440) := by rfl
theorem v5 : voteP zeroF [⟨0, 1, 1⟩, ⟨1, 0, 1⟩] 2 = (zeroF, 440) := by rfl
theorem v6 : voteP zeroF [⟨0, 1, 1⟩] 2 = (⟨1, false, [1]⟩, 0) := by
  have : (⟨1, false, sortI [1]⟩, 0) = ((⟨1, false, [1]⟩ : FenceD), (0 : Int)) := by rw [sort1]
  rw [← this]; rfl
def seedG : List (BitVec 8) := 5 :: 1 :: List.replicate 30 0
def sharesG : List ShareD := fsplitL seedG 3 (List.replicate 32 0)
def f1G : FenceD := ⟨1, false, [2]⟩
theorem h0 : fsplitL (List.replicate 32 0) 1 [] = [] := by rfl
theorem h1 : fsplitE 1 [] = 1 := by rfl
theorem h2 : fsplitE 3 (List.replicate 32 0) = 0 := by rfl
theorem h3 : sharesG = (List.range 3).map (shareAt (seedG.zip (List.replicate 32 0)) 3) := by rfl
theorem h4 : helpP f1G sharesG 0 1 = (shareAt (seedG.zip (List.replicate 32 0)) 3 1, 0) := by rfl
theorem h5 : helpP f1G sharesG 2 1 = (zeroS, 440) := by rfl
theorem h6 : helpP f1G sharesG 1 2 = (zeroS, 440) := by rfl
theorem h7 : helpP f1G sharesG 1 1 = (zeroS, 1) := by rfl
theorem h8 : seedP (shareAt (seedG.zip (List.replicate 32 0)) 3 1) (shareAt (seedG.zip (List.replicate 32 0)) 3 0) = (seedG, 0) := by kernel_rfl
theorem bytesD (l : List Int) : DEq (.sll 1 (l.map fun x => [.int .u8 (.lit x)])) (.sll 1 ((l.map (BitVec.ofInt 8)).map u8C)) := by
  refine .slls (by simp) (fun i e e' h1 h2 => ?_) fun i e e' h1 h2 j d d' h3 h4 => ?_
  · simp only [List.getElem?_map, Option.map_eq_some_iff] at h1 h2
    obtain ⟨x, _, rfl⟩ := h1
    obtain ⟨y, _, rfl⟩ := h2
    rfl
  · simp only [List.getElem?_map, Option.map_eq_some_iff] at h1 h2
    obtain ⟨x, h5, rfl⟩ := h1
    obtain ⟨z, ⟨y, h6, rfl⟩, rfl⟩ := h2
    rw [h5] at h6
    cases h6
    match j, h3, h4 with
    | 0, h3, h4 => cases h3; cases h4; exact .byte rfl
theorem digD (l : List Int) : DEq (.agg (l.map fun x => .int .u8 (.lit x))) (.agg ((l.map (BitVec.ofInt 8)).map fun b => u8D b)) := by
  refine .aggs (by simp) (fun i e e' h1 h2 => ?_)
  simp only [List.getElem?_map, Option.map_eq_some_iff] at h1 h2
  obtain ⟨x, h5, rfl⟩ := h1
  obtain ⟨z, ⟨y, h6, rfl⟩, rfl⟩ := h2
  rw [h5] at h6
  cases h6
  exact .byte rfl
theorem splitG (l : List Int) (hl : l.length = 32) (dv : Int) (coins : List (BitVec 8)) (nb : Option BE) {rl : List ShareD} {re : Int} (h1 : fsplitL (l.map (BitVec.ofInt 8)) dv coins = rl) (h2 : fsplitE dv coins = re) : Pure Try.prog 17 [.agg (l.map fun x => .int .u8 (.lit x)), .int .i64 (.lit dv), .slm 1 nb u8C coins] (.tup [.slm 5 none ShareD.c rl, .int .i64 (.lit re)]) := by
  subst h1 h2
  refine Pure.res ?_ (litR _ _)
  exact Pure.args (args' := [.agg ((l.map (BitVec.ofInt 8)).map fun b => u8D b), i64 dv, .slm 1 nb u8C coins]) (.cons (digD l) (.cons (.int rfl) (.cons (.refl _) .nil))) (FSplit_pure _ coins (by simp [hl]) nb dv)
theorem helpG (f : FenceD) (l : List ShareD) (d b : Int) {r : ShareD × Int} (hf : f.devices.length < 100) (hl : l.length < 100) (hd : ∀ s ∈ l, s.nil = false ∧ s.data.length ≤ 100) (h : helpP f l d b = r) : Pure Try.prog 19 [f.d, .slm 5 none ShareD.c l, .int .i64 (.lit d), .int .i64 (.lit b)] (.tup [.agg r.1.c, .int .i64 (.lit r.2)]) := by
  subst h
  refine Pure.res ?_ (litR _ _)
  exact Pure.args (args' := [f.d, .slm 5 none ShareD.c l, i64 d, i64 b]) (.cons (.refl _) (.cons (.refl _) (.cons (.int rfl) (.cons (.int rfl) .nil)))) (Help_pure f l none d b (by omega) (by omega) fun s hs => ⟨fun h => (by rw [(hd s hs).1] at h; cases h), (by have := (hd s hs).2; omega)⟩)
end Go.Proofs.Ytbmcepkccenoaaa
namespace Go.Proofs.Ytbmcepkccenoaaa
open Go.RowKit

/-! The examples of the chapter: what the calls give. -/
def shG : ShareD := shareAt (seedG.zip (List.replicate 32 0)) 3 1
def s0G : ShareD := shareAt (seedG.zip (List.replicate 32 0)) 3 0
theorem i1 : Pure Try.prog 17 [.agg (List.replicate 32 (.int .u8 (.lit 0))), .int .i64 (.lit 1), .nils] (.tup [.slm 5 none ShareD.c [], .int .i64 (.lit 1)]) :=
  Pure.args (args' := [.agg ((List.replicate 32 0).map fun x => .int .u8 (.lit x)), .int .i64 (.lit 1), .slm 1 none u8C []]) (.cons (.refl _) (.cons (.refl _) (.cons (.nil0 rfl) .nil))) (splitG (List.replicate 32 0) rfl 1 [] none h0 h1)
theorem i2 : (5 :: 1 :: List.replicate 30 (0 : Int)).map (BitVec.ofInt 8) = seedG := by rfl
theorem i3 : (List.replicate 32 (0 : Int)).map (BitVec.ofInt 8) = List.replicate 32 0 := by rfl
theorem i4 : Pure Try.prog 17 [.agg ((5 :: 1 :: List.replicate 30 0).map fun x => .int .u8 (.lit x)), .int .i64 (.lit 3), .slm 1 none u8C (List.replicate 32 0)] (.tup [.slm 5 none ShareD.c sharesG, .int .i64 (.lit 0)]) :=
  splitG (5 :: 1 :: List.replicate 30 0) rfl 3 (List.replicate 32 0) none (by rw [i2]; rfl) h2
theorem i14 {H H' : List Bk} {b : Nat} {nb : BE} (hg : goneB H' b = true) (hb : H[b]? = some (.row 5 1 1 (.lits (List.replicate 32 [.int .u8 (.lit 0)])))) (hn : nb.den = false) : SnD H H' (.osl 1 b 1 nb (.lit 0) (.lit 32)) (.slm 1 none u8C (List.replicate 32 0)) :=
  .trans (.trans (.sll hg (.inl ⟨_, _, hb, rfl⟩) rfl rfl hn) (bytesD (List.replicate 32 0))) (.sll (by rw [i3]) (fun e h => by cases h))
theorem i5 : sharesG.length = 3 := by rw [h3]; rfl
theorem i6 : ∀ s ∈ sharesG, s.nil = false ∧ s.data.length ≤ 100 := fun s hs => by
  rw [h3, List.mem_map] at hs
  obtain ⟨k, _, rfl⟩ := hs
  exact ⟨rfl, by simp [shareAt, seedG]⟩
theorem i7 : Pure Try.prog 19 [f1G.d, .slm 5 none ShareD.c sharesG, .int .i64 (.lit 0), .int .i64 (.lit 1)] (.tup [.agg shG.c, .int .i64 (.lit 0)]) := helpG f1G sharesG 0 1 (by decide) (by rw [i5]; decide) i6 (r := (shG, 0)) h4
theorem i8 : Pure Try.prog 19 [f1G.d, .slm 5 none ShareD.c sharesG, .int .i64 (.lit 2), .int .i64 (.lit 1)] (.tup [.agg zeroS.c, .int .i64 (.lit 440)]) := helpG f1G sharesG 2 1 (by decide) (by rw [i5]; decide) i6 (r := (zeroS, 440)) h5
theorem i9 : Pure Try.prog 19 [f1G.d, .slm 5 none ShareD.c sharesG, .int .i64 (.lit 1), .int .i64 (.lit 2)] (.tup [.agg zeroS.c, .int .i64 (.lit 440)]) := helpG f1G sharesG 1 2 (by decide) (by rw [i5]; decide) i6 (r := (zeroS, 440)) h6
theorem i10 : Pure Try.prog 19 [f1G.d, .slm 5 none ShareD.c sharesG, .int .i64 (.lit 1), .int .i64 (.lit 1)] (.tup [.agg zeroS.c, .int .i64 (.lit 1)]) := helpG f1G sharesG 1 1 (by decide) (by rw [i5]; decide) i6 (r := (zeroS, 1)) h7
theorem i11 : Pure Try.prog 21 [.agg shG.c, .agg s0G.c] (.tup [.agg (seedG.map fun b => u8D b), .int .i64 (.lit 0)]) := by
  have h : seedP shG s0G = (seedG, 0) := h8
  have := Seed_pure shG s0G
  rw [h] at this
  exact Pure.res this (litR _ _)
theorem i12 : sharesG[0]? = some s0G := by rw [h3]; rfl
theorem i13 : shG.index = 2 := by rfl
theorem boolR (b : Bool) : DEq (boolD b) (.bool (.lit b)) := .bool rfl
theorem one_eq (x : Int) : DEq (.agg [.int .i64 (.lit 1), .sll 1 [[.int .i64 (.lit x)]]]) (.agg [i64 1, .sll 1 [[i64 x]]]) := by
  refine .aggs rfl fun i d d' h1 h2 => ?_
  match i, h1, h2 with
  | 0, h1, h2 => cases h1; cases h2; exact .int rfl
  | 1, h1, h2 =>
    cases h1; cases h2
    refine .slls rfl (fun i e e' h1 h2 => ?_) fun i e e' h1 h2 j d d' h3 h4 => ?_
    · match i, h1, h2 with
      | 0, h1, h2 => cases h1; cases h2; rfl
    · match i, h1, h2 with
      | 0, h1, h2 =>
        cases h1; cases h2
        match j, h3, h4 with
        | 0, h3, h4 => cases h3; cases h4; exact .int rfl
theorem one_eq2 (x : Int) : DEq (.agg [i64 1, .sll 1 [[i64 x]]]) (⟨1, false, [x]⟩ : FenceD).d := by
  refine .aggs rfl fun i d d' h1 h2 => ?_
  match i, h1, h2 with
  | 0, h1, h2 => cases h1; cases h2; exact .int rfl
  | 1, h1, h2 => cases h1; cases h2; exact .sll rfl (fun e h => by cases h; rfl)
theorem i15 (x : Int) : Pure Try.prog 13 [(⟨1, false, [x]⟩ : FenceD).d, .agg [.int .i64 (.lit 1), .sll 1 [[.int .i64 (.lit x)]]]] (.bool (.lit true)) := by
  have h := FSame_pure ⟨1, false, [x]⟩ ⟨1, false, [x]⟩ (by simp)
  rw [show sameB ⟨1, false, [x]⟩ ⟨1, false, [x]⟩ = true by simp [sameB]] at h
  exact Pure.res (Pure.args (.cons (.refl _) (.cons (one_eq x) .nil)) (Pure.args (.cons (.refl _) (.cons (one_eq2 x) .nil)) h)) (boolR true)
theorem i16 : Pure Try.prog 14 [.agg [.int .i64 (.lit 0), .nils], .int .i64 (.lit 0)] (.bool (.lit false)) :=
  Pure.res (Pure.args (args' := [zeroF.d, i64 0]) (.cons zeroF_eq (.cons (.int rfl) .nil)) (Is_pure zeroF 0 (by simp [zeroF]))) (boolR false)
theorem i17 : Pure Try.prog 14 [f1G.d, .int .i64 (.lit 2)] (.bool (.lit true)) :=
  Pure.res (Pure.args (args' := [f1G.d, i64 2]) (.cons (.refl _) (.cons (.int rfl) .nil)) (Is_pure f1G 2 (by simp [f1G]))) (boolR true)
end Go.Proofs.Ytbmcepkccenoaaa
namespace Go.Proofs.Ytbmcepkccenoaaa
open Go.RowKit

/-! The examples of the chapter answer as they should. -/
set_option maxRecDepth 100000 in
set_option maxHeartbeats 4000000 in
theorem sane_pure : Pure Try.prog 9 [] (boolD true) := by
  have e : (boolD true : D) = retD [boolD true] := rfl
  rw [e]
  have V1 := voteM _ 3 (by decide) v1
  have V2 := voteM _ 3 (by decide) v2
  have V3 := voteN 0 v3
  have V4 := voteN 2 v4
  have V5 := voteG _ 2 (by decide) v5
  have V6 := voteG _ 2 (by decide) v6
  have S1 := i1
  have S2 := i4
  have hsl := i5
  have H1 := i7
  have H2 := i8
  have H3 := i9
  have H4 := i10
  have D1 := i11
  have hx0 := i12
  have F1 := i15 2
  have F2 := i15 1
  have F3 := i16
  have F4 := i17
  have hshi := i13
  obtain ⟨sg, hsg⟩ : ∃ s, s = sharesG := ⟨_, rfl⟩
  obtain ⟨sh, hsh⟩ : ∃ s, s = shG := ⟨_, rfl⟩
  obtain ⟨s0, hs0⟩ : ∃ s, s = s0G := ⟨_, rfl⟩
  rw [← hsg] at S2 H1 H2 H3 H4 hsl hx0
  rw [← hsh] at H1 D1 hshi
  rw [← hs0] at D1 hx0
  clear hsg hsh hs0
  refine Pure.introC T_ok Try.func9 rfl (by kernel_rfl) (rs := [.tmp 0]) rfl (by kernel_rfl) ?_
  generalize hP : Try.prog = P at *
  have hT : T.ok P := hP ▸ T_ok
  have hm : P.follows .mixedOrders = true := hP ▸ follows
  unfold Try.f9
  dsimp only
  refine CodeP.seq (vc_sound hT hm _ ?_)
  cbv
  refine CodeP.seq (vc_sound hT hm _ ?_)
  cbv
  refine CodeP.pre [(1, .slm 3 none VoteD.c [⟨0, 2, 1⟩, ⟨1, 2, 1⟩])] [] ⟨⟨.trans (.eq (litC_eq [⟨0, 2, 1⟩, ⟨1, 2, 1⟩])) (.sll rfl (fun e h => by cases h)), trivial⟩, trivial, rfl⟩ (Nat.zero_le _) ?_
  refine CodeP.seq (vc_sound hT hm _ ?_)
  cbv
  refine CallP.pure _ V1 rfl ?_
  cbv
  refine CodeP.keep [0, 1, 2, 3, 5, 7, 9, 11, 12, 13, 15, 16, 17, 18, 19, 20, 22, 24, 26, 27, 28] ?_
  refine CodeP.seq (vc_sound hT hm _ ?_)
  cbv
  refine ReqP.mk (by decide) (fun _ => ?_)
  refine LetP.mk fun l hl => ?_
  replace hl : l = [⟨0, 2, 1⟩] := hl
  subst hl
  cbv
  refine CallP.pure _ V2 rfl ?_
  cbv
  refine CodeP.keep [0, 1, 2, 3, 5, 7, 9, 11, 12, 13, 15, 16, 17, 18, 19, 20, 22, 24, 26, 27, 28] ?_
  refine CodeP.seq (vc_sound hT hm _ ?_)
  cbv
  refine CallP.pure _ V3 rfl ?_
  cbv
  refine CodeP.keep [0, 1, 2, 3, 5, 7, 9, 11, 12, 13, 15, 16, 17, 18, 19, 20, 22, 24, 26, 27, 28] ?_
  refine CodeP.seq (vc_sound hT hm _ ?_)
  cbv
  refine CallP.pure _ V4 rfl ?_
  cbv
  refine CodeP.keep [0, 1, 2, 3, 5, 7, 9, 11, 12, 13, 15, 16, 17, 18, 19, 20, 22, 24, 26, 27, 28] ?_
  refine CodeP.seq (vc_sound hT hm _ ?_)
  cbv
  refine CallP.pure _ V5 rfl ?_
  cbv
  refine CodeP.keep [0, 1, 2, 3, 5, 7, 9, 11, 12, 13, 15, 16, 17, 18, 19, 20, 22, 24, 26, 27, 28] ?_
  refine CodeP.seq (vc_sound hT hm _ ?_)
  cbv
  refine CallP.pure _ V6 rfl ?_
  cbv
  refine CodeP.keep [0, 1, 2, 3, 5, 7, 9, 11, 12, 13, 15, 16, 17, 18, 19, 20, 22, 24, 26, 27, 28] ?_
  refine CodeP.seq (vc_sound hT hm _ ?_)
  cbv
  refine CallP.pure _ S1 rfl ?_
  cbv
  refine CodeP.keep [0, 1, 2, 3, 5, 7, 9, 11, 12, 13, 15, 16, 17, 18, 19, 20, 22, 24, 26, 27, 28] ?_
  refine CodeP.seq (vc_sound hT hm _ ?_)
  cbv
  refine CodeP.seq (vc_sound hT hm _ ?_)
  cbv
  refine FootP.intro hT hm [(2, [7])] (by kernel_rfl) ?_
  cbv
  refine .mk _ _ S2 (.cons (.eq (.refl _)) (.cons (.eq (.refl _)) (.cons (i14 rfl rfl rfl) .nil))) rfl ?_
  cbv
  refine CodeP.keep [0, 1, 2, 3, 5, 7, 9, 11, 12, 13, 15, 16, 17, 18, 19, 20, 22, 24, 26, 27, 28] ?_
  refine CodeP.seq (vc_sound hT hm _ ?_)
  cbv
  refine CallP.pure _ H1 rfl ?_
  cbv
  refine CodeP.keep [0, 1, 2, 3, 5, 7, 9, 11, 12, 13, 15, 16, 17, 18, 19, 20, 22, 24, 26, 27, 28] ?_
  refine CodeP.seq (vc_sound hT hm _ ?_)
  cbv
  refine CallP.pure _ H2 rfl ?_
  cbv
  refine CodeP.keep [0, 1, 2, 3, 5, 7, 9, 11, 12, 13, 15, 16, 17, 18, 19, 20, 22, 24, 26, 27, 28] ?_
  refine CodeP.seq (vc_sound hT hm _ ?_)
  cbv
  refine CallP.pure _ H3 rfl ?_
  cbv
  refine CodeP.keep [0, 1, 2, 3, 5, 7, 9, 11, 12, 13, 15, 16, 17, 18, 19, 20, 22, 24, 26, 27, 28] ?_
  refine CodeP.seq (vc_sound hT hm _ ?_)
  cbv
  refine CallP.pure _ H4 rfl ?_
  cbv
  refine CodeP.keep [0, 1, 2, 3, 5, 7, 9, 11, 12, 13, 15, 16, 17, 18, 19, 20, 22, 24, 26, 27, 28] ?_
  refine CodeP.seq (vc_sound hT hm _ ?_)
  cbv
  refine OpsP.keep [0, 1, 2, 3, 5, 7, 9, 11, 12, 13, 15, 16, 17, 18, 19, 20, 22, 24, 26, 27, 28, 120, 121, 122] ?_
  refine OpsP.go hT ?_
  cbv
  refine OpsP.keep [0, 1, 2, 3, 5, 7, 9, 11, 12, 13, 15, 16, 17, 18, 19, 20, 22, 24, 26, 27, 28, 136, 137, 138, 139] ?_
  refine OpsP.go hT ?_
  cbv
  refine SplitP.mk (fun hs => ?_) (fun hs => ?_)
  · exfalso
    have h3 : (!decide ((sg.length : Int) = 3)) = true := hs
    rw [hsl] at h3
    simp at h3
  clear hs
  refine CodeP.keep [2, 12, 16, 17, 19] ?_
  refine CodeP.seq (vc_sound hT hm _ ?_)
  cbv
  refine FootP.intro hT hm [(9, [12])] (by kernel_rfl) ?_
  cbv
  refine ElemP.mk (by show (0 : Int) ≤ 0 ∧ (0 : Int) < (sg.length : Int); omega) (fun x hx => ?_)
  replace hx : sg[0]? = some x := hx
  rw [hx0] at hx
  cases hx
  cbv
  refine .mk _ D1 rfl ?_
  cbv
  refine CodeP.keep [2, 12, 16, 19, 27, 28] ?_
  refine vc_sound hT hm _ ?_
  cbv
  refine CallP.pure _ F1 rfl ?_
  cbv
  refine CallP.pure _ F2 rfl ?_
  cbv
  refine CallP.pure _ F3 rfl ?_
  cbv
  refine CallP.pure _ F4 rfl ?_
  cbv
  refine SplitP.mk (fun hs => ?_) (fun hs => ?_)
  · clear hs
    refine .mk (.cons (.eq (.bool ?_)) .nil) rfl
    kernel_rfl
  · exfalso
    have h3 : decide (sh.index = 2) = false := hs
    rw [hshi] at h3
    simp at h3
end Go.Proofs.Ytbmcepkccenoaaa
namespace Go.Proofs.Ytbmcepkccenoaaa
open Go.ChangeShapes Go.WideShapes Go.ChangeAt Go.RowKit

/-! From the form's reading of the arguments to data. -/
def allE (w : World) : Env := Env.of fun b => b < w.heap.size
/-- every reading of type t by the form gives data -/
def OpD (P : Program) (t : TypeId) {α : Type} (c : α → List D) (ok : α → Prop) : Prop :=
  ∀ {H : Type} (enc : TypeId × Value → H) (w : World) (spare : Nat → Bool) (held : Bool) (fuel : Nat) (cs : List Value) (x : DataW H × List MemPlace),
    DataW.trod enc P w 0 spare held fuel t cs = some x → ∃ a, ok a ∧ cs.length = (c a).length ∧ ∀ (i : Nat) d v, (c a)[i]? = some d → cs[i]? = some v → DRep w (allE w) d v
theorem InR.of_wf {k : IntKind} {z : Int} (h : (Lit.int k z).wf = true) : InR k z := by
  simpa [Lit.wf, InR] using h
theorem opd_int {P : Program} {t : TypeId} (ht : P.underlying t = some (.int .i64)) : OpD P t (fun x : Int => [.int .i64 (.var x)]) (fun _ => True) := fun enc w spare held fuel cs x h => by
  obtain ⟨z, rfl, _, h2⟩ := DataW.trod_int ht h
  refine ⟨z, trivial, rfl, fun i d v hd hv => ?_⟩
  match i, hd, hv with
  | 0, hd, hv => cases hd; cases hv; exact .int (e := .var z) (InR.of_wf h2)
theorem opd_u8 {P : Program} {t : TypeId} (ht : P.underlying t = some (.int .u8)) : OpD P t (fun b : BitVec 8 => [.int .u8 (.u8 b)]) (fun _ => True) := fun enc w spare held fuel cs x h => by
  obtain ⟨z, rfl, _, h2⟩ := DataW.trod_int ht h
  have hz := InR.of_wf h2
  have hz2 : 0 ≤ z ∧ z ≤ 255 := by unfold InR IntKind.min IntKind.max at hz; simpa [IntKind.signed, IntKind.bits] using hz
  have e : (IE.u8 (BitVec.ofInt 8 z)).den = z := by
    simp only [IE.den, BitVec.toNat_ofInt]
    omega
  refine ⟨BitVec.ofInt 8 z, trivial, rfl, fun i d v hd hv => ?_⟩
  match i, hd, hv with
  | 0, hd, hv =>
    cases hd; cases hv
    have := DRep.int (w := w) (E := allE w) (k := .u8) (e := .u8 (BitVec.ofInt 8 z)) (by rw [e]; exact hz)
    rwa [e] at this
theorem opd_bool {P : Program} {t : TypeId} (ht : P.underlying t = some .bool) : OpD P t (fun b : Bool => [.bool (.var b)]) (fun _ => True) := fun enc w spare held fuel cs x h => by
  obtain ⟨z, rfl, _⟩ := DataW.trod_bool ht h
  refine ⟨z, trivial, rfl, fun i d v hd hv => ?_⟩
  match i, hd, hv with
  | 0, hd, hv => cases hd; cases hv; exact .bool (e := .var z)
abbrev slC {α : Type} (n : Nat) (c : α → List D) (p : Bool × List α) : List D := [.slm n (some (.var p.1)) c p.2]
theorem opd_slice {α : Type} {P : Program} {t e : TypeId} {n : Nat} {c : α → List D} {ok : α → Prop} (ht : P.underlying t = some (.slice e)) (hn : P.cellsOf e = n) (hpos : 0 < n) (hR : OpD P e c ok) (hc : ∀ a, (c a).length = n) :
    OpD P t (slC n c) (fun p => (p.1 = true → p.2 = []) ∧ (∀ x ∈ p.2, ok x) ∧ p.2.length ≤ maxLen) := fun enc w spare held fuel cs x h => by
  rcases Go.Deep.open_slice ht h with ⟨rfl, _⟩ | ⟨a, len, cap, m, k, D, Pl, rfl, _, hl, hm, hmm, _, hx⟩
  · refine ⟨(true, []), ⟨fun _ => rfl, fun x h => by simp at h, by simp⟩, rfl, fun i d v hd hv => ?_⟩
    match i, hd, hv with
    | 0, hd, hv =>
      cases hd; cases hv
      exact DRep.slm (a := none) (fun _ _ => undef) (fun e he => by cases he; rfl) (Nat.le_refl _) (Nat.zero_le _) (fun x hx => by simp at hx) (fun h => absurd rfl h) (fun i x j d h => by simp at h)
  · have hlm : len ≤ m := by rw [hmm]; split <;> omega
    have e0 : ∀ i, i < m → ∃ z : α, ∃ es, (ok z ∧ es.length = (c z).length ∧ ∀ (i : Nat) d v, (c z)[i]? = some d → es[i]? = some v → DRep w (allE w) d v) ∧ w.cells? 0 (a.add (i * n)) n = some es := fun i hi => by
      obtain ⟨es, h2, h3⟩ := hx i hi
      rw [hn] at h2
      obtain ⟨z, hz⟩ := hR enc w spare held k es _ h3
      exact ⟨z, es, hz, h2⟩
    by_cases h0 : len = 0
    · subst h0
      refine ⟨(false, []), ⟨fun h => by simp at h, fun x h => by simp at h, by simp⟩, rfl, fun i d v hd hv => ?_⟩
      match i, hd, hv with
      | 0, hd, hv =>
        cases hd; cases hv
        exact DRep.slm (a := some a) (fun _ _ => undef) (fun e he => by cases he; rfl) (Nat.zero_le _) hm (fun x hx => by simp at hx) (fun h => absurd rfl h) (fun i x j d h => by simp at h)
    · obtain ⟨z0, _⟩ := e0 0 (by omega)
      have : Inhabited α := ⟨z0⟩
      obtain ⟨z, hz⟩ := Go.Deep.choose_lt e0
      obtain ⟨b, off, spot⟩ := a
      have hspot : spot = none := by
        obtain ⟨es0, _, hc0⟩ := hz 0 (by omega)
        obtain ⟨_, hlen0, hcell0⟩ := World.cells?_some hc0
        have this := hcell0 0 hpos
        rw [List.getElem?_eq_getElem (by omega)] at this
        have h9 := World.cell?_spot this
        simpa [Addr.add] using h9
      subst hspot
      have cell : ∀ i, i < len → ∃ es : List Value, (∀ j, j < n → w.cell? ⟨b, off + i * n + j, none⟩ = es[j]?) ∧ es.length = n ∧ (ok (z i) ∧ es.length = (c (z i)).length ∧ ∀ (j : Nat) d v, (c (z i))[j]? = some d → es[j]? = some v → DRep w (allE w) d v) := fun i hi => by
        obtain ⟨es, hr, hcc⟩ := hz i (by omega)
        obtain ⟨_, hlen, hcell⟩ := World.cells?_some hcc
        refine ⟨es, fun j hj => ?_, hlen, hr⟩
        have := hcell j hj
        rw [add_none, add_none] at this
        exact this
      have hbl : b < w.heap.size := by
        obtain ⟨es, h1, h2, _⟩ := cell 0 (by omega)
        have := h1 0 hpos
        rw [List.getElem?_eq_getElem (by omega)] at this
        exact World.block_lt_of_cell? w ⟨b, _, none⟩ this
      refine ⟨(false, (List.range len).map z), ⟨fun h => by simp at h, fun x hx => ?_, by simp; omega⟩, rfl, fun i d v hd hv => ?_⟩
      · simp only [List.mem_map, List.mem_range] at hx
        obtain ⟨i, hi, rfl⟩ := hx
        obtain ⟨_, _, _, h3, _⟩ := cell i hi
        exact h3
      · match i, hd, hv with
        | 0, hd, hv =>
          cases hd; cases hv
          have hl2 : ((List.range len).map z).length = len := by simp
          have key := DRep.slm (w := w) (E := allE w) (n := n) (nb := some (.var false)) (c := c) (l := (List.range len).map z) (a := some ⟨b, off, none⟩) (cap := cap) (fun i j => (w.cell? ⟨b, off + i * n + j, none⟩).getD undef) (fun e he => by cases he; rfl) (by omega) hm (fun x hx => hc x) (fun _ => ⟨b, off, rfl, hbl, fun i j hi hj => ?_⟩) fun i x j d hx hd => ?_
          · rwa [hl2] at key
          · obtain ⟨es, h1, h2, _⟩ := cell i (by omega)
            rw [h1 j hj, List.getElem?_eq_getElem (by omega)]
            rfl
          · simp only [List.getElem?_map, Option.map_eq_some_iff] at hx
            obtain ⟨i', hi', rfl⟩ := hx
            obtain ⟨hlt, rfl⟩ := List.getElem?_eq_some_iff.1 hi'
            simp only [List.getElem_range] at hd ⊢
            obtain ⟨es, h1, h2, _, h3, h4⟩ := cell i (by simpa using hlt)
            have hj := (List.getElem?_eq_some_iff.1 hd).1
            rw [h1 j (by omega), List.getElem?_eq_getElem (by omega)]
            exact h4 j d _ hd (List.getElem?_eq_getElem (by omega))
section
variable {H : Type} {enc : TypeId × Value → H} {P : Program} {w : World} {spare : Nat → Bool} {held : Bool} {v : Value} {d : DataW H} {p : List MemPlace} {r : Reach} {b0 : Nat} {t : TypeId} {α : Type}
theorem open_sl {e : TypeId} {n : Nat} {c : α → List D} {ok : Bool × List α → Prop} (ht : P.underlying t = some (.slice e)) (ho : OpD P t (slC n c) ok) (hv : Value.okWide P w r b0 t v) (h : DataW.Trod enc P w 0 spare held t v d p) : ∃ p, ok p ∧ DRep w (allE w) (.slm n (some (.var p.1)) c p.2) v := by
  obtain ⟨a, m, k, rfl⟩ := okWide_slice ht hv
  obtain ⟨fuel, hf⟩ := h
  obtain ⟨p, h1, h2, h3⟩ := ho enc w spare held fuel _ _ hf
  exact ⟨p, h1, h3 0 _ _ rfl rfl⟩
theorem open_st {fs : Array Field} {c : α → List D} {ok : α → Prop} (ht : P.underlying t = some (.struct fs)) (ho : OpD P t c ok) (hv : Value.okWide P w r b0 t v) (h : DataW.Trod enc P w 0 spare held t v d p) : ∃ a, ok a ∧ DRep w (allE w) (.agg (c a)) v := by
  obtain ⟨cs, rfl, _⟩ := okWide_struct ht hv
  obtain ⟨fuel, hf⟩ := h
  obtain ⟨a, h1, h2, h3⟩ := ho enc w spare held fuel cs.toList _ hf
  exact ⟨a, h1, .agg (by rw [← h2]; simp) fun i d v hd hv => h3 i d v hd (by simpa using hv)⟩
theorem open_i (ht : P.underlying t = some (.int .i64)) (hv : Value.okWide P w r b0 t v) (h : DataW.Trod enc P w 0 spare held t v d p) : ∃ z, InR .i64 z ∧ DRep w (allE w) (.int .i64 (.var z)) v := by
  obtain ⟨z, rfl, rfl, rfl, wf⟩ := open_int ht hv h
  exact ⟨z, InR.of_wf wf, .int (e := .var z) (InR.of_wf wf)⟩
end
theorem LRep.nil {w : World} {E : Env} : LRep w E [] #[] := ⟨rfl, fun i d v h => by simp at h⟩
theorem lrep_cons {w : World} {E : Env} {d : D} {l : List D} {v : Value} {vs : List Value} (h : DRep w E d v) (r : LRep w E l ⟨vs⟩) : LRep w E (d :: l) ⟨v :: vs⟩ := by
  refine ⟨by have := r.1; simp at this ⊢; omega, fun i d' v' hd hv => ?_⟩
  cases i with
  | zero => simp at hd hv; subst hd hv; exact h
  | succ i => exact r.2 i d' v' (by simpa using hd) (by simpa using hv)
theorem Pure.law {P : Program} {f : Nat} {args : List D} {w : World} {vs : List Value} (h : Pure P f args (.bool (.var true))) (hr : LRep w (allE w) args ⟨vs⟩) : Calls P f ⟨vs⟩ w fun e w' => e = .returned (.bool true) ∧ Below w.heap.size w w' := by
  refine (h.2 w _ _ (fun _ hb => hb) hr).mono ?_
  rintro e w' ⟨v, G', rfl, h2, _, _, _, h6⟩
  cases h6
  exact ⟨rfl, h2⟩
theorem open_u8 {H : Type} {enc : TypeId × Value → H} {P : Program} {w : World} {spare : Nat → Bool} {held : Bool} {v : Value} {d : DataW H} {p : List MemPlace} {r : Reach} {b0 : Nat} {t : TypeId} (ht : P.underlying t = some (.int .u8)) (hv : Value.okWide P w r b0 t v) (h : DataW.Trod enc P w 0 spare held t v d p) : ∃ b : BitVec 8, DRep w (allE w) (.int .u8 (.u8 b)) v := by
  obtain ⟨z, rfl, _, _, _⟩ := open_int ht hv h
  obtain ⟨fuel, hf⟩ := h
  obtain ⟨b, _, _, h3⟩ := opd_u8 ht enc w spare held fuel _ _ hf
  exact ⟨b, h3 0 _ _ rfl rfl⟩
end Go.Proofs.Ytbmcepkccenoaaa
