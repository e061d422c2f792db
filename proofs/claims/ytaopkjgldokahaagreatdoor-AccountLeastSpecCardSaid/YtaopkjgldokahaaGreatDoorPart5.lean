/- Part 5 of the walks and laws that these claims rest on. No condition. -/
import Derived.RangeFuncNested
import Derived.RangeFuncLeaves
import Derived.RangeFuncBound
import Derived.Shelf.Abstract
import Derived.OwnWalkIn
import Derived.TacticsInMore
import Derived.LoopNIn
import Derived.LoopIn
import Derived.BigGuardIn
import Derived.Lib.Hide
import Derived.Maps.AppendAt
import Derived.Maps.OwnIn
import Derived.Test.YtaopkjgldokahaaGreatDoorPart4
set_option linter.all false
set_option linter.unusedSimpArgs false
set_option linter.unusedVariables false
set_option linter.unnecessarySimpa false
namespace Go.Proofs.YtaopkjgldokahaaGreatDoor
open Go.RowKit

/-! newRiddle, walked. -/
/-- what the walk has to know of the riddle, in letters -/
structure NewOk (I : List IssuedD) (S : List SeenD) (oF : Nat → Int → Option Int) (cn : Nat → Nat) (ppl : List Int) (ov : Nat → Nat → Nat → Int) (ft : IssuedD → SeenD → Bool) (st : Nat → Int → Bool) (cg : Nat → Nat) (sg : Int → List Nat) (gsT : Nat → List (List Nat)) : Prop where
  f0 : ∀ p, oF 0 p = none
  c0 : cn 0 = 0
  fn : ∀ k x, I[k]? = some x → oF k x.person = none → cn (k + 1) = cn k + 1 ∧ ∀ p, oF (k + 1) p = if p = x.person then some (binDen .or .u64 0 (binDen .shl .u64 1 k)) else oF k p
  fs : ∀ k x y, I[k]? = some x → oF k x.person = some y → cn (k + 1) = cn k ∧ ∀ p, oF (k + 1) p = if p = x.person then some (binDen .or .u64 y (binDen .shl .u64 1 k)) else oF k p
  cle : ∀ k, cn k ≤ k
  ks : ∀ x, x ∈ ppl ↔ (oF I.length x).isSome = true
  kS : ppl.Pairwise fun a b => a < b
  o0 : ∀ j, ov 0 0 j = 0
  row : ∀ i k j, I.length ≤ k → ov i k j = ov (i + 1) 0 j
  of : ∀ i k x s, I[k]? = some x → S[i]? = some s → ft x s = false → ∀ j, ov i (k + 1) j = ov i k j
  ot : ∀ i k x s, I[k]? = some x → S[i]? = some s → ft x s = true → ∀ j, ov i (k + 1) j = if j = i then binDen .or .u64 (ov i k i) (binDen .shl .u64 1 k) else ov i k j
  s0 : ∀ g, st 0 g = false
  ss : ∀ k s, S[k]? = some s → ∀ g, st (k + 1) g = (st k g || decide (g = s.group))
  g0 : cg 0 = 0
  gs : ∀ k s, S[k]? = some s → cg (k + 1) = if st k s.group = true then cg k else cg k + 1
  gle : ∀ k, cg k ≤ k
  t0 : gsT 0 = []
  ts : ∀ k s, S[k]? = some s → gsT (k + 1) = if st k s.group = false ∧ 1 < (sg s.group).length then gsT k ++ [sg s.group] else gsT k
  tl : ∀ k, (gsT k).length ≤ k
  sl : ∀ g, (sg g).length ≤ 16
theorem osl_start {H H' : List Bk} {n b v : Nat} : SnD H H' (.osl n b v (.lit true) (.lit 0) (.lit 0)) (.osl n b v (.cmp .eql (.nat 0) (.lit 0)) (.lit 0) (.nat 0)) := .eq (.osl rfl rfl rfl)
theorem newRiddle_walk (I : List IssuedD) (S : List SeenD) (nbI nbS : Option BE) (oF : Nat → Int → Option Int) (cn : Nat → Nat) (ppl : List Int) (ov : Nat → Nat → Nat → Int) (ft : IssuedD → SeenD → Bool) (st : Nat → Int → Bool) (cg : Nat → Nat) (sg : Int → List Nat) (gsT : Nat → List (List Nat)) (nI nS : Nat) (pe : Bool)
    (hok : NewOk I S oF cn ppl ov ft st cg sg gsT) (hpe : pe = ppl.isEmpty) (hnI : nI = I.length) (hnS : nS = S.length) (hI : I.length ≤ 64) (hS : S.length ≤ 16) (hft : ∀ x ∈ I, ∀ s ∈ S, Pure Tryz.prog 90 [.agg x.c, .agg s.c] (boolD (ft x s)))
    (hsg : ∀ g, PureF Tryz.prog 78 [.fn (.func 87) [] [.dp [.slm 4 nbS SeenD.c S] 0, .dp [i64 g] 0]] (.slm 1 none natC (sg g))) (hR : ∀ x ∈ ppl, InR .i64 x) :
    Pure Tryz.prog 80 [.slm 3 nbI IssuedD.c I, .slm 4 nbS SeenD.c S] (.tup [.dp [.slm 4 nbS SeenD.c S, .slm 1 none groupC (gsT nS), .mapd .i64 .u64 (oF nI) (.nat (cn nI)), .slm 1 (some (.var pe)) intC ppl] 0, .arr .u64 16 (ov nS 0)]) := by
  refine Pure.intro (want := [.dp [.slm 4 nbS SeenD.c S, .slm 1 none groupC (gsT nS), .mapd .i64 .u64 (oF nI) (.nat (cn nI)), .slm 1 (some (.var pe)) intC ppl] 0, .arr .u64 16 (ov nS 0)]) T_ok follows Tryz.func80 rfl (by kernel_rfl) (rs := [.tmp 4, .cell 5 116]) rfl (by kernel_rfl) ?_
  have hsrt := @sorted_call
  generalize hP : Tryz.prog = P at *
  have hT : T.ok P := hP ▸ T_ok
  have hm : P.follows .mixedOrders = true := hP ▸ follows
  unfold Tryz.f80
  dsimp only
  cbv
  refine CodeP.loopm hT hm (X := Nat) (fun k => [(20, .int .i64 (.nat k))]) (fun k => [.arr .u64 16 (fun _ => 0), .mp .i64 (.fi .u64 (oF k) (.nat (cn k))), .cells [.slm 4 nbS SeenD.c S, .nils, .mapr 1, .nils]]) (fun k => k ≤ nI) (fun k => nI - k) 0 (Nat.zero_le _) (fun _ => Nat.zero_le _) ⟨?_, ?_, rfl⟩ ?_
  · (cbv; (repeat' (first | exact SnD.refl _ | exact trivial | exact SnD.nat0 | refine And.intro ?_ ?_)))
  · exact ⟨.refl _, by rw [hok.c0]; exact fi_start hok.f0, .refl _, trivial⟩
  intro k hk
  cbv
  refine SplitP.mk (fun hs1 => ?_) (fun hs1 => ?_)
  · have hkn : k < I.length := by
      have h5 : decide ((k : Int) < (I.length : Int)) = true := hs1
      have := of_decide_eq_true h5
      omega
    clear hs1
    refine ElemP.mk (by show (0 : Int) ≤ (k : Int) ∧ (k : Int) < (I.length : Int); omega) (fun x hx => ?_)
    replace hx : I[k]? = some x := hx
    have hfn := hok.fn k x hx
    have hfs := hok.fs k x
    have hcle := hok.cle k
    cbv
    refine LetOP.mk (fun hnone => ?_) (fun y hy => ?_)
    · replace hnone : oF k x.person = none := hnone
      obtain ⟨hc, hF⟩ := hfn hnone
      cbv
      refine ReqP.mk (by simp [IE.den]) (fun _ => ?_)
      refine SplitP.mk (fun h8 => ?_) (fun h8 => ?_)
      · replace h8 : (oF k x.person).isSome = true := h8
        rw [hnone] at h8
        cases h8
      refine ReqP.mk ⟨by simp only [IE.var_d, IE.lit_d, IE.nat_d, IE.len_d, IE.sum_d, IE.u8_d, ncast, Int.ofNat_lt, Int.ofNat_le, Int.ofNat_inj, maxLen]; ((try simp only [ncast] at *); omega)⟩ (fun _ => ?_)
      cbv
      refine BackP.intro (k + 1) (by omega) (by show nI - (k + 1) < nI - k; omega) ⟨?_, ?_, rfl⟩
      · (cbv; (repeat' (first | exact SnD.refl _ | exact trivial | exact SnD.nat0 | refine And.intro ?_ ?_)))
        exact .inc (by omega)
      · refine ⟨.refl _, fi_same ?_ fun p => ?_, .refl _, trivial⟩
        · rw [hc]; simp [IE.den]
        · rw [hF]
          rfl
    · replace hy : oF k x.person = some y := hy
      obtain ⟨hc, hF⟩ := hfs y hx hy
      cbv
      refine ReqP.mk (by simp [IE.den]) (fun _ => ?_)
      refine SplitP.mk (fun h8 => ?_) (fun h8 => ?_)
      rotate_left
      · replace h8 : (oF k x.person).isSome = false := h8
        rw [hy] at h8
        cases h8
      refine BackP.intro (k + 1) (by omega) (by show nI - (k + 1) < nI - k; omega) ⟨?_, ?_, rfl⟩
      · (cbv; (repeat' (first | exact SnD.refl _ | exact trivial | exact SnD.nat0 | refine And.intro ?_ ?_)))
        exact .inc (by omega)
      · refine ⟨.refl _, fi_same ?_ fun p => ?_, .refl _, trivial⟩
        · rw [hc]
        · rw [hF]
          rfl
  · have hkn : I.length ≤ k := by
      have h5 : decide ((k : Int) < (I.length : Int)) = false := hs1
      have := of_decide_eq_false h5
      omega
    clear hs1
    have hkI : k = nI := by omega
    clear hkn hk
    subst hkI
    have hkS : ∀ x, x ∈ ppl ↔ (oF k x).isSome = true := by rw [hnI]; exact hok.ks
    have hck := hok.cle k
    refine (CallP.inl hT hm (hP ▸ Tryz.func89) rfl (by kernel_rfl) (rs := [.tmp 2]) rfl (by kernel_rfl) ?_)
    unfold Tryz.f89
    dsimp only
    cbv
    refine hsrt ppl rfl rfl hkS hok.kS (by simp only [IE.den]; omega) hR ?_
    rw [← hpe]
    cbv
    refine CodeP.virtc 2 1 30 1 _ rfl rfl ?_
    refine CodeP.loopm hT hm (X := Nat × Nat × List (List Nat)) (fun x => [(48, .int .i64 (.nat x.1))])
      (fun x => [.arr .u64 16 (ov x.1 0), .mp .i64 (.fi .u64 (oF k) (.nat (cn k))), .cells [.slm 4 nbS SeenD.c S, .osl 1 5 (x.2.1 + 1) (.cmp .eql (.nat x.2.1) (.lit 0)) (.lit 0) (.nat x.2.1), .mapr 1, .slm 1 (some (.var pe)) intC ppl], .cells [.mapr 1], .mp .i64 (.setb (st x.1) (.nat (cg x.1))), .row 30 1 (x.2.1 + 1) (.map groupC x.2.2)])
      (fun x => x.1 ≤ nS ∧ x.2.2.length = x.2.1 ∧ x.2.2 = gsT x.1) (fun x => nS - x.1) (0, 0, []) ⟨Nat.zero_le _, rfl, hok.t0.symm⟩ (fun _ => Nat.zero_le _) ⟨?_, ?_, rfl⟩ ?_
    · (cbv; (repeat' (first | exact SnD.refl _ | exact trivial | exact SnD.nat0 | refine And.intro ?_ ?_)))
    · refine ⟨.arrf fun j _ => (hok.o0 j).symm, .refl _, ?_, .refl _, by rw [hok.g0]; exact mp_start hok.s0, .row rfl, trivial⟩
      (cbv; (repeat' (first | exact trivial | exact BkEq.refl _ | exact SnD.refl _ | exact SnDs.nil | refine BkEq.cells ?_ | refine SnDs.cons ?_ ?_ | refine And.intro ?_ ?_)))
      exact osl_start
    intro ⟨i, c, gs⟩ ⟨hi, hc, hgs⟩
    simp only at hi hc hgs
    cbv
    refine SplitP.mk (fun hs2 => ?_) (fun hs2 => ?_)
    · have hkn : i < S.length := by
        have h5 : decide ((i : Int) < (S.length : Int)) = true := hs2
        have := of_decide_eq_true h5
        omega
      clear hs2
      refine ElemP.mk (by show (0 : Int) ≤ (i : Int) ∧ (i : Int) < (S.length : Int); omega) (fun s hs => ?_)
      replace hs : S[i]? = some s := hs
      have hss := hok.ss i s hs
      have hgs2 := hok.gs i s hs
      have hts := hok.ts i s hs
      have hgl := hok.gle i
      have htl := hok.tl i
      have hsg2 := hsg s.group
      have hsl := hok.sl s.group
      have hft2 := fun x hx => hft x hx s (List.mem_of_getElem? hs)
      have hof := fun j x hx h => hok.of i j x s hx hs h
      have hot := fun j x hx h => hok.ot i j x s hx hs h
      cbv
      refine CodeP.loopm hT hm (X := Nat) (fun j => [(55, .int .i64 (.nat j))])
        (fun j => [.arr .u64 16 (ov i j), .mp .i64 (.fi .u64 (oF k) (.nat (cn k))), .cells [.slm 4 nbS SeenD.c S, .osl 1 5 (c + 1) (.cmp .eql (.nat c) (.lit 0)) (.lit 0) (.nat c), .mapr 1, .slm 1 (some (.var pe)) intC ppl], .cells [.mapr 1], .mp .i64 (.setb (st i) (.nat (cg i))), .row 30 1 (c + 1) (.map groupC gs), .cells s.c])
        (fun j => j ≤ k) (fun j => k - j) 0 (Nat.zero_le _) (fun _ => Nat.zero_le _) ⟨?_, ?_, rfl⟩ ?_
      · (cbv; (repeat' (first | exact SnD.refl _ | exact trivial | exact SnD.nat0 | refine And.intro ?_ ?_)))
      · (cbv; (repeat' (first | exact trivial | exact BkEq.refl _ | exact SnD.refl _ | exact SnDs.nil | refine BkEq.cells ?_ | refine SnDs.cons ?_ ?_ | refine And.intro ?_ ?_)))
      intro j hj
      cbv
      refine SplitP.mk (fun hs3 => ?_) (fun hs3 => ?_)
      · have hkn : j < I.length := by
          have h5 : decide ((j : Int) < (I.length : Int)) = true := hs3
          have := of_decide_eq_true h5
          omega
        clear hs3
        refine ElemP.mk (by show (0 : Int) ≤ (j : Int) ∧ (j : Int) < (I.length : Int); omega) (fun x hx => ?_)
        replace hx : I[j]? = some x := hx
        have hft3 := hft2 x (List.mem_of_getElem? hx)
        have hof3 := hof j x hx
        have hot3 := hot j x hx
        obtain ⟨fb, hfb⟩ : ∃ b, b = ft x s := ⟨_, rfl⟩
        rw [← hfb] at hft3 hof3 hot3
        cbv
        refine CallP.pure _ hft3 rfl ?_
        cbv
        refine SplitP.mk (fun h5 => ?_) (fun h5 => ?_)
        · replace h5 : fb = true := h5
          have hot4 := hot3 h5
          refine ReqP.mk (by show (0 : Int) ≤ (i : Int) ∧ (i : Int) < 16; omega) (fun _ => ?_)
          refine ReqP.mk (by simp [IE.den]) (fun _ => ?_)
          refine ReqP.mk (by show (0 : Int) ≤ (i : Int) ∧ (i : Int) < 16; omega) (fun _ => ?_)
          refine BackP.intro (j + 1) (by omega) (by show k - (j + 1) < k - j; omega) ⟨?_, ?_, rfl⟩
          · (cbv; (repeat' (first | exact SnD.refl _ | exact trivial | exact SnD.nat0 | refine And.intro ?_ ?_)))
            exact .inc (by omega)
          · refine ⟨.arrf fun z _ => ?_, ?_⟩
            · rw [hot4]
              rfl
            · (cbv; (repeat' (first | exact trivial | exact BkEq.refl _ | exact SnD.refl _ | exact SnDs.nil | refine BkEq.cells ?_ | refine SnDs.cons ?_ ?_ | refine And.intro ?_ ?_)))
        · replace h5 : fb = false := h5
          have hof4 := hof3 h5
          refine BackP.intro (j + 1) (by omega) (by show k - (j + 1) < k - j; omega) ⟨?_, ?_, rfl⟩
          · (cbv; (repeat' (first | exact SnD.refl _ | exact trivial | exact SnD.nat0 | refine And.intro ?_ ?_)))
            exact .inc (by omega)
          · refine ⟨.arrf fun z _ => (hof4 z).symm, ?_⟩
            (cbv; (repeat' (first | exact trivial | exact BkEq.refl _ | exact SnD.refl _ | exact SnDs.nil | refine BkEq.cells ?_ | refine SnDs.cons ?_ ?_ | refine And.intro ?_ ?_)))
      have hkn : I.length ≤ j := by
        have h5 : decide ((j : Int) < (I.length : Int)) = false := hs3
        have := of_decide_eq_false h5
        omega
      clear hs3
      have hrow := fun z => hok.row i j z (by omega)
      obtain ⟨sb, hsb⟩ : ∃ b, b = st i s.group := ⟨_, rfl⟩
      rw [← hsb] at hgs2 hts
      refine LetBP.mk (fun b hb => ?_)
      replace hb : b = st i s.group := hb
      rw [← hsb] at hb
      subst hb
      cbv
      refine SplitP.mk (fun h5 => ?_) (fun h5 => ?_)
      · replace h5 : b = true := h5
        rw [if_pos h5] at hgs2
        have hts2 : gsT (i + 1) = gsT i := by rw [hts, if_neg fun h => by rw [h5] at h; cases h.1]
        refine BackP.intro (i + 1, c, gs) ⟨by simp only; omega, hc, by simp only; rw [hts2]; exact hgs⟩ (by show nS - (i + 1) < nS - i; omega) ⟨?_, ?_, rfl⟩
        · (cbv; (repeat' (first | exact SnD.refl _ | exact trivial | exact SnD.nat0 | refine And.intro ?_ ?_)))
          exact .inc (by omega)
        · refine ⟨.arrf fun z _ => hrow z, .refl _, .refl _, .refl _, mp_same (by simp only; rw [hgs2]) fun g => ?_, .refl _, trivial⟩
          simp only
          rw [hss]
          by_cases e : g = s.group
          · subst e
            rw [← hsb, h5]
            rfl
          · simp [e]
      · replace h5 : b = false := h5
        rw [if_neg (by rw [h5]; exact Bool.false_ne_true)] at hgs2
        refine SplitP.mk (fun h6 => ?_) (fun h6 => ?_)
        · replace h6 : st i s.group = true := h6
          rw [← hsb, h5] at h6
          cases h6
        clear h6
        refine ReqP.mk ⟨by simp only [IE.var_d, IE.lit_d, IE.nat_d, IE.len_d, IE.sum_d, IE.u8_d, ncast, Int.ofNat_lt, Int.ofNat_le, Int.ofNat_inj, maxLen]; ((try simp only [ncast] at *); omega)⟩ (fun _ => ?_)
        obtain ⟨L, hL⟩ : ∃ L, L = sg s.group := ⟨_, rfl⟩
        rw [← hL] at hsg2 hts hsl
        have hmp : ∀ g, (g == s.group || st i g) = st (i + 1) g := fun g => by
          rw [hss, Bool.or_comm]
          rfl
        refine (CallP.inl hT hm (hP ▸ Tryz.func79) rfl (by kernel_rfl) (rs := [.tmp 4]) rfl (by kernel_rfl) ?_)
        unfold Tryz.f79
        dsimp only
        cbv
        refine CallP.lendF _ _ hsg2 (.cons (.fns .nil (.cons (.dp rfl rfl rfl) (.cons (.dp rfl rfl rfl) .nil))) .nil) rfl ?_
        cbv
        refine SplitP.mk (fun h7 => ?_) (fun h7 => ?_)
        · replace h7 : 1 < L.length := by
            have : decide ((L.length : Int) > 1) = true := h7
            have := of_decide_eq_true this
            omega
          have hts2 : gsT (i + 1) = gsT i ++ [L] := by rw [hts, if_pos ⟨h5, h7⟩]
          have hcl : c ≤ i := by rw [← hc, hgs]; exact htl
          refine ReqP.mk (app_ok hc (by omega) (fun _ => rfl) rfl (by decide)) (fun _ => ?_)
          refine BackP.intro (i + 1, c + 1, gs ++ [L]) ⟨by simp only; omega, by simp only; rw [List.length_append, hc]; rfl, by simp only; rw [hts2, ← hgs]⟩ (by show nS - (i + 1) < nS - i; omega) ⟨?_, ?_, rfl⟩
          · (cbv; (repeat' (first | exact SnD.refl _ | exact trivial | exact SnD.nat0 | refine And.intro ?_ ?_)))
            exact .inc (by omega)
          · refine ⟨.arrf fun z _ => hrow z, .refl _, .cells (.cons (.refl _) (.cons (osl_step c) (.cons (.refl _) (.cons (.refl _) .nil)))), .refl _, mp_same (by simp only; rw [hgs2]; simp [IE.den]) hmp, row_app L rfl (.cons (.refl _) .nil), trivial⟩
        · replace h7 : ¬ 1 < L.length := by
            have : decide ((L.length : Int) > 1) = false := h7
            have := of_decide_eq_false this
            omega
          have hts2 : gsT (i + 1) = gsT i := by rw [hts, if_neg fun h => h7 h.2]
          refine BackP.intro (i + 1, c, gs) ⟨by simp only; omega, hc, by simp only; rw [hts2]; exact hgs⟩ (by show nS - (i + 1) < nS - i; omega) ⟨?_, ?_, rfl⟩
          · (cbv; (repeat' (first | exact SnD.refl _ | exact trivial | exact SnD.nat0 | refine And.intro ?_ ?_)))
            exact .inc (by omega)
          · exact ⟨.arrf fun z _ => hrow z, .refl _, .refl _, .refl _, mp_same (by simp only; rw [hgs2]; simp [IE.den]) hmp, .refl _, trivial⟩
    · have hkn : S.length ≤ i := by
        have h5 : decide ((i : Int) < (S.length : Int)) = false := hs2
        have := of_decide_eq_false h5
        omega
      clear hs2
      have hiS : i = nS := by omega
      refine FootP.intro hT hm [(1, [0]), (3, [0])] (by kernel_rfl) ?_
      cbv
      have hcells : SnDs [.arr .u64 16 (ov i 0), .mp .i64 (.fi .u64 (oF k) (.nat (cn k))), .cells [.slm 4 nbS SeenD.c S, .osl 1 5 (c + 1) (.cmp .eql (.nat c) (.lit 0)) (.lit 0) (.nat c), .mapr 1, .slm 1 (some (.var pe)) intC ppl], .cells [.mapr 1], .mp .i64 (.setb (st i) (.nat (cg i))), .row 30 1 (c + 1) (.map groupC gs)] []
          [.slm 4 nbS SeenD.c S, .osl 1 5 (c + 1) (.cmp .eql (.nat c) (.lit 0)) (.lit 0) (.nat c), .mapr 1, .slm 1 (some (.var pe)) intC ppl] [.slm 4 nbS SeenD.c S, .slm 1 none groupC (gsT nS), .mapd .i64 .u64 (oF k) (.nat (cn k)), .slm 1 (some (.var pe)) intC ppl] := by
        refine .cons (.refl _) (.cons (.slm rfl (.inl ⟨_, _, rfl, ?_⟩) rfl ?_ (fun e he => by cases he)) (.cons (.mapd rfl rfl (fun _ => rfl) rfl) (.cons (.refl _) .nil)))
        · show gs.map groupC = (gsT nS).map groupC
          rw [hgs, hiS]
        · show (c : Int) = ((gsT nS).length : Int)
          rw [← hc, hgs, hiS]
      refine .mk (.cons (.dpn rfl rfl rfl rfl hcells.get.2) (.cons (.eq (.arr fun j _ => ?_)) .nil)) rfl
      show ov i 0 j = ov nS 0 j
      rw [hiS]
end Go.Proofs.YtaopkjgldokahaaGreatDoor
namespace Go.Proofs.YtaopkjgldokahaaGreatDoor
open Go.RowKit

/-! newRiddle: what it answers. -/
theorem grp_at {S : List SeenD} {k : Nat} {s : SeenD} (h : S[k]? = some s) : grpAt S k = s.group := by unfold grpAt; rw [h]; rfl
theorem newOk (I : List IssuedD) (S : List SeenD) (hI : I.length ≤ 64) (hS : S.length ≤ 16) : NewOk I S (ownF I) (cntP I) (peopleL I) (fun i k j => enc (optTo I S i k j)) fitsB (setTo S) (cntG S) (sightsL S) (gsTo S) where
  f0 := fun p => by simp [ownF, peopleL]
  c0 := by simp [cntP, peopleL]
  fn := fun k x hx hn => by
    obtain ⟨h1, h2⟩ := ownF_none hn
    refine ⟨by rw [cntP_succ hx, if_neg h1], fun p => ?_⟩
    rw [ownF_succ hx]
    have hk : k < 64 := by have := (List.getElem?_eq_some_iff.1 hx).1; omega
    have e0 : (0 : Int) = enc fun _ => false := ((enc_eq0 _).2 fun _ _ => rfl).symm
    by_cases e : p = x.person
    · rw [if_pos e, if_pos e, shl_one hk, e0, or_enc]
      have : (fun c => ownTo I k x.person c || oneB k c) = fun c => false || oneB k c := funext fun c => by rw [h2]
      rw [this]
    · rw [if_neg e, if_neg e]
  fs := fun k x y hx hs => by
    obtain ⟨h1, rfl⟩ := ownF_some hs
    refine ⟨by rw [cntP_succ hx, if_pos h1], fun p => ?_⟩
    rw [ownF_succ hx]
    have hk : k < 64 := by have := (List.getElem?_eq_some_iff.1 hx).1; omega
    by_cases e : p = x.person
    · rw [if_pos e, if_pos e, shl_one hk, or_enc]
    · rw [if_neg e, if_neg e]
  cle := fun k => people_len I k
  ks := fun x => by
    unfold ownF
    rw [List.take_of_length_le (Nat.le_refl _)]
    split
    · next h => simp [h]
    · next h => simp [h]
  kS := people_sorted I
  o0 := fun j => (enc_eq0 _).2 fun c _ => optTo_zero I S j c
  row := fun i k j hk => by
    show enc (optTo I S i k j) = enc (optTo I S (i + 1) 0 j)
    have : optTo I S i k j = optTo I S (i + 1) 0 j := funext fun c => optTo_row hk j c
    rw [this]
  of := fun i k x s hx hs hf j => by
    show enc (optTo I S i (k + 1) j) = enc (optTo I S i k j)
    have : optTo I S i (k + 1) j = optTo I S i k j := funext fun c => by rw [optTo_succ hx hs, hf]; simp
    rw [this]
  ot := fun i k x s hx hs hf j => by
    have hk : k < 64 := by have := (List.getElem?_eq_some_iff.1 hx).1; omega
    show enc (optTo I S i (k + 1) j) = if j = i then binDen .or .u64 (enc (optTo I S i k i)) (binDen .shl .u64 1 k) else enc (optTo I S i k j)
    rw [shl_one hk, or_enc]
    by_cases e : j = i
    · subst e
      rw [if_pos rfl]
      have : optTo I S j (k + 1) j = fun c => optTo I S j k j c || oneB k c := funext fun c => by rw [optTo_succ hx hs, hf]; simp
      rw [this]
    · rw [if_neg e]
      have : optTo I S i (k + 1) j = optTo I S i k j := funext fun c => by rw [optTo_succ hx hs]; simp [e]
      rw [this]
  s0 := fun g => rfl
  ss := fun k s hs g => by rw [setTo_succ, grp_at hs]
  g0 := rfl
  gs := fun k s hs => by
    have : cntG S (k + 1) = if firstAt S k then cntG S k + 1 else cntG S k := rfl
    rw [this, first_set, grp_at hs]
    cases setTo S k s.group <;> rfl
  gle := cntG_le S
  t0 := rfl
  ts := fun k s hs => by
    have : gsTo S (k + 1) = if firstAt S k = true ∧ 1 < (sightsL S (grpAt S k)).length then gsTo S k ++ [sightsL S (grpAt S k)] else gsTo S k := rfl
    rw [this, first_set, grp_at hs]
    cases setTo S k s.group <;> simp
  tl := gsTo_len S
  sl := fun g => by
    have := idxTo_len (grpAt S) g S.length
    unfold sightsL
    omega
set_option maxRecDepth 100000 in
set_option maxHeartbeats 4000000 in
theorem newRiddle_pure (I : List IssuedD) (S : List SeenD) (nbI nbS : Option BE) (hI : I.length ≤ 64) (hS : S.length ≤ 16) (hx : ∀ x ∈ I, x.values.length < 9223372036854775807 ∧ InR .i64 x.person) (hs : ∀ s ∈ S, s.fields.length < 9223372036854775807 ∧ s.values.length < 9223372036854775807) :
    Pure Tryz.prog 80 [.slm 3 nbI IssuedD.c I, .slm 4 nbS SeenD.c S] (.tup [.dp (ridOf I S nbS).c 0, .arr .u64 16 (fun j => enc (optO I S j))]) := by
  have h := newRiddle_walk I S nbI nbS (ownF I) (cntP I) (peopleL I) (fun i k j => enc (optTo I S i k j)) fitsB (setTo S) (cntG S) (sightsL S) (gsTo S) I.length S.length (peopleL I).isEmpty (newOk I S hI hS) rfl rfl rfl hI hS
    (fun x hx' s hs' => Fits_pure x s (hx x hx').1 (hs s hs').1 (hs s hs').2) (fun g => sights_pureF S nbS g (by omega)) (fun p hp => by
      obtain ⟨x, h1, rfl⟩ := (people_mem I p).1 hp
      exact (hx x h1).2)
  have e : (fun j => enc (optTo I S S.length 0 j)) = fun j => enc (optO I S j) := by rw [optTo_end]
  rw [e] at h
  exact h
end Go.Proofs.YtaopkjgldokahaaGreatDoor
namespace Go.Proofs.YtaopkjgldokahaaGreatDoor
open Go.RowKit

/-! Of, walked. -/
set_option maxRecDepth 100000 in
set_option maxHeartbeats 4000000 in
theorem Of_walk (I : List IssuedD) (S : List SeenD) (nbI nbS : Option BE) (g : Int) (okc : Bool) (e0 : Int) (he0 : e0 = if okc then 0 else 300) (hC : Pure Tryz.prog 27 [.slm 3 nbI IssuedD.c I, .slm 4 nbS SeenD.c S] (i64 e0))
    (G : List Nat) (hG : okc = true → G.length ≤ 16 ∧ ∀ i ∈ G, i < 16) (nbG nbO : Option BE) (gs : List (List Nat)) (PF : Int → Option Int) (nP : IE) (order : List Int) (en : (Nat → Bool) → Int)
    (hand : ∀ a b, binDen .and .u64 (en a) (en b) = en (fun c => a c && b c)) (o0 : Nat → Nat → Bool) (own : Int → Nat → Bool)
    (hSg : okc = true → PureF Tryz.prog 78 [.fn (.func 87) [] [.dp [.slm 4 nbS SeenD.c S] 0, .dp [i64 g] 0]] (.slm 1 none natC G))
    (hN : okc = true → Pure Tryz.prog 80 [.slm 3 nbI IssuedD.c I, .slm 4 nbS SeenD.c S] (.tup [.dp (RC nbS S nbG gs PF nP nbO order) 0, .arr .u64 16 (fun j => en (o0 j))]))
    (aL : List Int) (aE : Bool) (hA : okc = true → PureF Tryz.prog 81 [.dp (RC nbS S nbG gs PF nP nbO order) 0, .dpa .u64 16 (fun j => en (o0 j)), .slm 1 none natC G] (.slm 1 (some (.var aE)) intC aL)) (haL : okc = true → aL.length ≤ 64)
    (hPF : okc = true → ∀ p ∈ aL, PF p = some (en (own p)))
    (sv : Int → Bool) (hS : okc = true → ∀ p ∈ aL, ∀ f : Nat → Nat → Bool, f = resB o0 G (own p) → Pure Tryz.prog 82 [.dp (RC nbS S nbG gs PF nP nbO order) 0, .arr .u64 16 (fun i => en (f i))] (boolD (sv p)))
    (rL : List Int) (rE : Bool) (e : Int) (hr0 : okc = false → rL = [] ∧ rE = true ∧ e = 300) (hr1 : okc = true → G.length = 0 → rL = [] ∧ rE = true ∧ e = 300) (hr2 : okc = true → G.length ≠ 0 → rL = aL.filter sv ∧ rE = decide ((aL.filter sv).length = 0) ∧ e = 0) :
    PureF Tryz.prog 67 [.slm 3 nbI IssuedD.c I, .slm 4 nbS SeenD.c S, i64 g] (.tup [.slm 1 (some (.var rE)) intC rL, i64 e]) := by
  refine PureF.intro (want := [.slm 1 (some (.var rE)) intC rL, i64 e]) T_ok follows Tryz.func67 rfl (by kernel_rfl) (rs := [.tmp 6, .tmp 7]) rfl (by kernel_rfl) ?_
  generalize hP : Tryz.prog = P at *
  have hT : T.ok P := hP ▸ T_ok
  have hm : P.follows .mixedOrders = true := hP ▸ follows
  unfold Tryz.f67
  dsimp only
  cbv
  refine CallP.pure _ hC rfl ?_
  cbv
  refine SplitP.mk (fun h1 => ?_) (fun h1 => ?_) <;> simp only [BE.neq_t, BE.neq_f, IE.var_d, IE.lit_d] at h1
  · have hk : okc = false := by cases okc <;> simp_all
    obtain ⟨q1, q2, q3⟩ := hr0 hk
    subst hk
    refine .mk [] rfl (fun x hx => by cases hx) (.cons (.eq (.nilv ?_ ?_)) (.cons (.eq (.int ?_)) .nil)) rfl
    · rw [q1]
    · rw [BE.var_d, q2]
    · rw [IE.var_d, IE.var_d, q3, he0]; rfl
  have hk : okc = true := by cases okc <;> simp_all
  have hG' := hG hk
  have hSg' := hSg hk
  have hN' := hN hk
  have hA' := hA hk
  have haL' := haL hk
  have hPF' := hPF hk
  have hS' := hS hk
  have hr1' := hr1 hk
  have hr2' := hr2 hk
  clear hG hSg hN hA haL hPF hS hr0 hr1 hr2 hC h1 he0
  clear hk
  refine (CallP.inl hT hm (hP ▸ Tryz.func79) rfl (by kernel_rfl) (rs := [.tmp 4]) rfl (by kernel_rfl) ?_)
  unfold Tryz.f79
  dsimp only
  cbv
  refine CallP.lendF _ _ hSg' (.cons (.fns .nil (.cons (.dp rfl rfl rfl) (.cons (.dp rfl rfl rfl) .nil))) .nil) rfl ?_
  cbv
  refine SplitP.mk (fun h1 => ?_) (fun h1 => ?_)
  · have hl : G.length = 0 := by
      have h4 : ((G.length : Int) == 0) = true := h1
      simpa using h4
    obtain ⟨q1, q2, q3⟩ := hr1' hl
    refine .mk [] rfl (fun x hx => by cases hx) (.cons (.eq (.nilv ?_ ?_)) (.cons (.eq (.int ?_)) .nil)) rfl
    · rw [q1]
    · rw [BE.var_d, q2]
    · rw [IE.lit_d, IE.var_d, q3]
  have hl : G.length ≠ 0 := fun e => by
    have h4 : ((G.length : Int) == 0) = false := h1
    rw [e] at h4
    cases h4
  have hr2 := hr2' hl
  clear hr1' hr2' h1 hl
  refine CallP.pure _ hN' rfl ?_
  cbv
  refine CallP.lendF _ _ hA' (.cons (.eq (.refl _)) (.cons (.arrp rfl rfl fun _ _ => rfl) (.cons (.eq (.refl _)) .nil))) rfl ?_
  cbv
  obtain ⟨na, hna⟩ : ∃ n : Nat, n = aL.length := ⟨_, rfl⟩
  obtain ⟨fl, hfl⟩ : ∃ f : Nat → List Int, f = fun k => (aL.take k).filter sv := ⟨_, rfl⟩
  have hfs : ∀ k p, aL[k]? = some p → fl (k + 1) = fl k ++ if sv p = true then [p] else [] := fun k p hp => by
    rw [hfl]
    simp only
    rw [List.take_add_one, hp, List.filter_append]
    cases h : sv p <;> simp [h]
  have hfle : ∀ k, (fl k).length ≤ k := fun k => by
    rw [hfl]
    have := List.length_filter_le sv (aL.take k)
    rw [List.length_take] at this
    simp only
    omega
  have hfend : fl na = aL.filter sv := by rw [hfl, hna]; simp
  have hf0 : fl 0 = [] := by rw [hfl]; simp
  clear hfl
  rw [← hfend] at hr2
  obtain ⟨hGl, hGi⟩ := hG'
  refine CodeP.virt 6 3 1 rfl ?_
  refine CodeP.loopm hT hm (X := Nat × Nat × List Int) (fun x => [(40, .int .i64 (.nat x.1)), (6, .osl 1 3 (x.2.1 + 1) (.cmp .eql (.nat x.2.1) (.lit 0)) (.lit 0) (.nat x.2.1))])
    (fun x => [.cells [.slm 4 nbS SeenD.c S], .cells [i64 g], .arr .u64 16 (fun j => en (o0 j)), .row 3 1 (x.2.1 + 1) (.map intC x.2.2)]) (fun x => x.1 ≤ na ∧ x.2.2.length = x.2.1 ∧ x.2.2 = fl x.1) (fun x => na - x.1) (0, 0, []) ⟨Nat.zero_le _, rfl, hf0.symm⟩ (fun _ => Nat.zero_le _) ⟨?_, ?_, rfl⟩ ?_
  · refine ⟨.nat0, osl_start, ?_⟩
    (cbv; (repeat' (first | exact SnD.refl _ | exact trivial | exact SnD.nat0 | refine And.intro ?_ ?_)))
  · (cbv; (repeat' (first | exact trivial | exact BkEq.refl _ | exact SnD.refl _ | exact SnDs.nil | refine BkEq.cells ?_ | refine SnDs.cons ?_ ?_ | refine And.intro ?_ ?_)))
    exact .row rfl
  intro ⟨k, c, acc⟩ ⟨hk, hc, hacc⟩
  simp only at hk hc hacc
  cbv
  refine SplitP.mk (fun hs => ?_) (fun hs => ?_)
  rotate_left
  · have hkn : aL.length ≤ k := by
      have h5 : decide ((k : Int) < (aL.length : Int)) = false := hs
      have := of_decide_eq_false h5
      omega
    clear hs
    have hkn2 : k = na := by omega
    obtain ⟨q1, q2, q3⟩ := hr2
    refine .mk [3] rfl (fun x hx => by
      rw [List.mem_singleton] at hx
      subst hx
      refine ⟨_, _, _, _, rfl, fun e he => ?_⟩
      simp only [RE.den, List.mem_map] at he
      obtain ⟨a, _, rfl⟩ := he
      rfl) (.cons (.slm rfl (.inl ⟨_, _, rfl, ?_⟩) rfl ?_ ?_) (.cons (.eq (.int ?_)) .nil)) rfl
    · show acc.map intC = rL.map intC
      rw [hacc, q1, hkn2]
    · show (c : Int) = (rL.length : Int)
      rw [← hc, hacc, q1, hkn2]
    · intro e' he'
      cases he'
      rw [BE.var_d, q2, ← hkn2, ← hacc, hc]
      show decide (c = 0) = ((c : Int) == 0)
      rw [Bool.eq_iff_iff]
      simp
    · rw [IE.lit_d, IE.var_d, q3]
  have hkn : k < aL.length := by
    have h5 : decide ((k : Int) < (aL.length : Int)) = true := hs
    have := of_decide_eq_true h5
    omega
  clear hs
  refine ElemP.mk (by show (0 : Int) ≤ (k : Int) ∧ (k : Int) < (aL.length : Int); omega) (fun p hp => ?_)
  replace hp : aL[k]? = some p := hp
  have hpm := List.mem_of_getElem? hp
  have hpo := hPF' p hpm
  have hSp := hS' p hpm
  have hfsp := hfs k p hp
  obtain ⟨sb, hsb⟩ : ∃ b, b = sv p := ⟨_, rfl⟩
  rw [← hsb] at hSp hfsp
  cbv
  obtain ⟨nG, hnG⟩ : ∃ n : Nat, n = G.length := ⟨_, rfl⟩
  refine CodeP.loopm hT hm (X := Nat × (Nat → Nat → Bool)) (fun x => [(47, .int .i64 (.nat x.1))]) (fun x => [.cells [.slm 4 nbS SeenD.c S], .cells [i64 g], .arr .u64 16 (fun j => en (o0 j)), .row 3 1 (c + 1) (.map intC acc), .arr .u64 16 (fun i => en (x.2 i))]) (fun x => x.1 ≤ nG ∧ x.2 = resB o0 (G.take x.1) (own p)) (fun x => nG - x.1) (0, o0) ⟨Nat.zero_le _, (res_zero o0 G (own p)).symm⟩ (fun _ => Nat.zero_le _) ⟨?_, ?_, rfl⟩ ?_
  · (cbv; (repeat' (first | exact SnD.refl _ | exact trivial | exact SnD.nat0 | refine And.intro ?_ ?_)))
  · (cbv; (repeat' (first | exact trivial | exact BkEq.refl _ | exact SnD.refl _ | exact SnDs.nil | refine BkEq.cells ?_ | refine SnDs.cons ?_ ?_ | refine And.intro ?_ ?_)))
  intro ⟨i, o2⟩ ⟨hi0, ho2⟩
  simp only at hi0 ho2
  cbv
  refine SplitP.mk (fun hs => ?_) (fun hs => ?_)
  · have hkn : i < G.length := by
      have h5 : decide ((i : Int) < (G.length : Int)) = true := hs
      have := of_decide_eq_true h5
      omega
    clear hs
    refine ElemP.mk (by show (0 : Int) ≤ (i : Int) ∧ (i : Int) < (G.length : Int); omega) (fun x hx => ?_)
    replace hx : G[i]? = some x := hx
    have hx16 := hGi x (List.mem_of_getElem? hx)
    cbv
    refine ReqP.mk (by simp [IE.den]; omega) (fun _ => ?_)
    refine LetOP.mk (fun hn => ?_) (fun y hy => ?_)
    · exfalso
      replace hn : PF p = none := hn
      rw [hpo] at hn
      cases hn
    replace hy : PF p = some y := hy
    rw [hpo] at hy
    cases hy
    cbv
    refine ReqP.mk (by simp [IE.den]; omega) (fun _ => ?_)
    refine BackP.intro (i + 1, resB o0 (G.take (i + 1)) (own p)) ⟨by simp only; omega, rfl⟩ (by show nG - (i + 1) < nG - i; omega) ⟨?_, ⟨.refl _, .refl _, .refl _, .refl _, .arrf fun z _ => cut_store hand hx ho2 rfl rfl z, trivial⟩, rfl⟩
    (cbv; (repeat' (first | exact SnD.refl _ | exact trivial | exact SnD.nat0 | refine And.intro ?_ ?_)))
    exact .inc (by omega)
  have hkn : G.length ≤ i := by
    have h5 : decide ((i : Int) < (G.length : Int)) = false := hs
    have := of_decide_eq_false h5
    omega
  clear hs
  have ho22 : o2 = resB o0 G (own p) := by rw [ho2, List.take_of_length_le (by omega)]
  clear ho2 hkn
  refine CallP.pure _ (hSp o2 ho22) rfl ?_
  cbv
  have hck : c ≤ k := by rw [← hc, hacc]; exact hfle k
  refine SplitP.mk (fun h5 => ?_) (fun h5 => ?_)
  · replace h5 : sb = true := h5
    refine ReqP.mk (app_ok hc (by omega) (fun _ => rfl) rfl (by decide)) (fun _ => ?_)
    refine BackP.intro (k + 1, c + 1, acc ++ [p]) ⟨by simp only; omega, by simp only; rw [List.length_append, hc]; rfl, by simp only; rw [hfsp, h5, hacc]; rfl⟩ (by show na - (k + 1) < na - k; omega) ⟨?_, ?_, rfl⟩
    · refine ⟨.inc (by omega), osl_step c, ?_⟩
      (cbv; (repeat' (first | exact SnD.refl _ | exact trivial | exact SnD.nat0 | refine And.intro ?_ ?_)))
    · exact ⟨.refl _, .refl _, .refl _, row_app p rfl (.cons (.refl _) .nil), trivial⟩
  · replace h5 : sb = false := h5
    refine BackP.intro (k + 1, c, acc) ⟨by simp only; omega, hc, by simp only; rw [hfsp, h5, hacc]; simp⟩ (by show na - (k + 1) < na - k; omega) ⟨?_, ⟨.refl _, .refl _, .refl _, .refl _, trivial⟩, rfl⟩
    (cbv; (repeat' (first | exact SnD.refl _ | exact trivial | exact SnD.nat0 | refine And.intro ?_ ?_)))
    exact .inc (by omega)
end Go.Proofs.YtaopkjgldokahaaGreatDoor
namespace Go.Proofs.YtaopkjgldokahaaGreatDoor
open Go.RowKit

/-! Any, walked. -/
def setO (o : Nat → Nat → Bool) (i c j d : Nat) : Bool := if j = i then oneB c d else o j d
def pickF (sv : (Nat → Nat → Bool) → Bool) (o : Nat → Nat → Bool) (i c : Nat) : Option Nat := if o i c = true ∧ sv (setO o i c) = true then some c else none
def anyStep (sv : (Nat → Nat → Bool) → Bool) (n : Nat) (x : (Nat → Nat → Bool) × List Int) (i : Nat) : (Nat → Nat → Bool) × List Int := match findN (pickF sv x.1 i) n 0 with
  | some c => (setO x.1 i c, x.2 ++ [(c : Int)])
  | none => x
def anyTo (sv : (Nat → Nat → Bool) → Bool) (n : Nat) (o : Nat → Nat → Bool) : Nat → (Nat → Nat → Bool) × List Int
  | 0 => (o, [])
  | i + 1 => anyStep sv n (anyTo sv n o i) i
theorem any_len (sv : (Nat → Nat → Bool) → Bool) (n : Nat) (o : Nat → Nat → Bool) : ∀ i, (anyTo sv n o i).2.length ≤ i
  | 0 => Nat.le_refl _
  | i + 1 => by
    have := any_len sv n o i
    simp only [anyTo, anyStep]
    split
    · simp; omega
    · omega
theorem any_low (sv : (Nat → Nat → Bool) → Bool) (n : Nat) (o : Nat → Nat → Bool) (h : ∀ i c, o i c = true → i < 16) : ∀ k, k ≤ 16 → ∀ i c, (anyTo sv n o k).1 i c = true → i < 16
  | 0, _ => h
  | k + 1, hk => by
    have ih := any_low sv n o h k (by omega)
    simp only [anyTo, anyStep]
    split
    · intro i c hi
      simp only [setO] at hi
      split at hi
      · omega
      · exact ih i c hi
    · exact ih
end Go.Proofs.YtaopkjgldokahaaGreatDoor
namespace Go.Proofs.YtaopkjgldokahaaGreatDoor
open Go.RowKit

/-! What the search finds, and what explanations are. -/
theorem grp_eq (S : List SeenD) (i : Nat) : grpAt S i = groupS S i := by
  unfold grpAt groupS
  cases S[i]? <;> rfl
theorem opt_iff {I : List IssuedD} {S : List SeenD} {j c : Nat} : optO I S j c = true ↔ c < I.length ∧ fitsI I S (c : Int) j = true := by
  unfold optO fitsI
  rw [Int.toNat_natCast]
  constructor
  · intro h
    cases hx : I[c]? with
    | none => rw [hx] at h; cases h
    | some x => rw [hx] at h; exact ⟨(List.getElem?_eq_some_iff.1 hx).1, h⟩
  · exact fun h => h.2
theorem own_iff {I : List IssuedD} {p : Int} {c : Nat} : ownTo I I.length p c = true ↔ c < I.length ∧ personI I (c : Int) = p := by
  unfold ownTo personI
  rw [Int.toNat_natCast]
  constructor
  · intro h
    simp only [Bool.and_eq_true, decide_eq_true_eq] at h
    refine ⟨h.1, ?_⟩
    cases hx : I[c]? with
    | none => rw [hx] at h; cases h.2
    | some x =>
      rw [hx] at h
      simpa using h.2
  · rintro ⟨h1, h2⟩
    have hx : I[c]? = some I[c] := List.getElem?_eq_getElem h1
    rw [hx] at h2 ⊢
    simp only at h2 ⊢
    simp [h1, h2]
/-- a way to give each sight a copy -/
structure Way (I : List IssuedD) (S : List SeenD) (f : Nat → Nat) : Prop where
  opt : ∀ j, j < S.length → optO I S j (f j) = true
  inj : ∀ a b, a < S.length → b < S.length → f a = f b → a = b
  grp : ∀ a b, a < S.length → b < S.length → groupS S a = groupS S b → personI I (f a : Int) = personI I (f b : Int)
theorem first_ex (S : List SeenD) : ∀ i, ∃ k, k ≤ i ∧ firstAt S k = true ∧ grpAt S k = grpAt S i := by
  intro i
  induction i using Nat.strongRecOn with
  | _ i ih =>
    cases h : firstAt S i with
    | true => exact ⟨i, Nat.le_refl _, h, rfl⟩
    | false =>
      unfold firstAt at h
      rw [Bool.not_eq_false'] at h
      obtain ⟨j, hj, he⟩ := List.any_eq_true.1 h
      have hj' : j < i := by simpa using hj
      simp only [decide_eq_true_eq] at he
      obtain ⟨k, h1, h2, h3⟩ := ih j hj'
      exact ⟨k, by omega, h2, h3.trans he⟩
theorem two_len {l : List Nat} {a b : Nat} (ha : a ∈ l) (hb : b ∈ l) (hne : a ≠ b) : 1 < l.length := by
  match l, ha, hb with
  | [x], ha, hb => simp at ha hb; omega
  | x :: y :: r, _, _ => simp
theorem sol_iff {I : List IssuedD} {S : List SeenD} {nb : Option BE} (hI : I.length ≤ 64) {o : Nat → Nat → Bool} (ho : SubO o (optO I S)) :
    Sol (ridOf I S nb) o ↔ ∃ f, Way I S f ∧ ∀ j, j < S.length → o j (f j) = true := by
  constructor
  · rintro ⟨f, h1, h2, h3⟩
    refine ⟨f, ⟨fun j hj => ho _ _ (h1 j hj).2, h2, fun a b ha hb hg => ?_⟩, fun j hj => (h1 j hj).2⟩
    by_cases e : a = b
    · rw [e]
    · obtain ⟨k, k1, k2, k3⟩ := first_ex S a
      have ma : a ∈ sightsL S (grpAt S k) := (sights_mem _ _ _).2 ⟨ha, k3.symm⟩
      have mb : b ∈ sightsL S (grpAt S k) := (sights_mem _ _ _).2 ⟨hb, by rw [k3, grp_eq, grp_eq, hg]⟩
      obtain ⟨p, hp⟩ := h3 (sightsL S (grpAt S k)) ((gsTo_mem S _ _).2 ⟨k, by show k < S.length; omega, k2, two_len ma mb e, rfl⟩)
      rw [(own_iff.1 (hp a ma)).2, (own_iff.1 (hp b mb)).2]
  · rintro ⟨f, hw, h1⟩
    refine ⟨f, fun j hj => ⟨?_, h1 j hj⟩, hw.inj, fun g hg => ?_⟩
    · have := (opt_iff.1 (hw.opt j hj)).1
      omega
    · obtain ⟨i, hi, _, _, rfl⟩ := (gsTo_mem S _ g).1 hg
      refine ⟨personI I (f i : Int), fun j hj => ?_⟩
      obtain ⟨m1, m2⟩ := (sights_mem _ _ _).1 hj
      exact own_iff.2 ⟨(opt_iff.1 (hw.opt j m1)).1, hw.grp j i m1 hi (by rw [← grp_eq, ← grp_eq, m2])⟩
theorem ext_iff {I : List IssuedD} {S : List SeenD} {g p : Int} {cs : List Int} (hcs : cs.length ≤ S.length) :
    Ext I S g p cs ↔ ∃ f, Way I S f ∧ (∀ j, j < S.length → 0 ≤ p → groupS S j = g → personI I (f j : Int) = p) ∧ ∀ j, j < cs.length → cs[j]? = some (f j : Int) := by
  constructor
  · rintro ⟨l, ⟨⟨h1, h2⟩, h3⟩, h4, h5⟩
    have hget : ∀ j, j < S.length → l[j]? = some (((l[j]?).getD 0).toNat : Int) := fun j hj => by
      have : l[j]? = some (l[j]'(by omega)) := List.getElem?_eq_getElem (by omega)
      rw [this]
      obtain ⟨q, _⟩ := h1 j _ this
      simp only [Option.getD_some, Option.some.injEq]
      omega
    refine ⟨fun j => ((l[j]?).getD 0).toNat, ⟨fun j hj => ?_, fun a b ha hb he => ?_, fun a b ha hb hg => ?_⟩, fun j hj hp hg => h3 j _ (hget j hj) hp hg, fun j hj => ?_⟩
    · obtain ⟨q1, q2, q3⟩ := h1 j _ (hget j hj)
      exact opt_iff.2 ⟨by omega, q3⟩
    · rcases Nat.lt_trichotomy a b with q | q | q
      · exact absurd (congrArg Int.ofNat he) (h2 a b _ _ q (hget a ha) (hget b hb)).1
      · exact q
      · exact absurd (congrArg Int.ofNat he.symm) (h2 b a _ _ q (hget b hb) (hget a ha)).1
    · rcases Nat.lt_trichotomy a b with q | q | q
      · exact (h2 a b _ _ q (hget a ha) (hget b hb)).2 hg
      · rw [q]
      · exact ((h2 b a _ _ q (hget b hb) (hget a ha)).2 hg.symm).symm
    · have hc : cs[j]? = some cs[j] := List.getElem?_eq_getElem hj
      have hl := get_pre h5 hc
      have := hget j (by omega)
      rw [hl] at this
      rw [hc]
      simp only [hl, Option.getD_some] at this ⊢
      exact this
  · rintro ⟨f, hw, h1, h2⟩
    have hl : ((List.range S.length).map fun j => (f j : Int)).length = S.length := by simp
    have hget : ∀ j c, ((List.range S.length).map fun j => (f j : Int))[j]? = some c → j < S.length ∧ c = (f j : Int) := fun j c h => by
      have hj := (List.getElem?_eq_some_iff.1 h).1
      rw [hl] at hj
      refine ⟨hj, ?_⟩
      rw [List.getElem?_map, List.getElem?_range hj] at h
      simpa using h.symm
    refine ⟨(List.range S.length).map fun j => (f j : Int), ⟨⟨fun i c hc => ?_, fun k i a b hk ha hb => ?_⟩, fun i c hc hp hg => ?_⟩, hl, ?_⟩
    · obtain ⟨q1, rfl⟩ := hget i c hc
      obtain ⟨q2, q3⟩ := opt_iff.1 (hw.opt i q1)
      exact ⟨by omega, by omega, q3⟩
    · obtain ⟨q1, rfl⟩ := hget k a ha
      obtain ⟨q2, rfl⟩ := hget i b hb
      refine ⟨fun e => ?_, fun hg => hw.grp k i q1 q2 hg⟩
      have := hw.inj k i q1 q2 (by omega)
      omega
    · obtain ⟨q1, rfl⟩ := hget i c hc
      exact h1 i q1 hp hg
    · rw [List.prefix_iff_eq_take]
      refine List.ext_getElem? fun j => ?_
      rw [List.getElem?_take]
      split
      · next hj =>
        rw [h2 j hj, List.getElem?_map, List.getElem?_range (by omega)]
        rfl
      · next hj => rw [List.getElem?_eq_none (by omega)]
/-- a group is given to a person -/
theorem sol_of {I : List IssuedD} {S : List SeenD} {nb : Option BE} (hI : I.length ≤ 64) {g p : Int} (hp : 0 ≤ p) : Sol (ridOf I S nb) (resB (optO I S) (sightsL S g) (ownTo I I.length p)) ↔ Ext I S g p [] := by
  rw [sol_iff hI (resB_sub _ _ _), ext_iff (Nat.zero_le _)]
  constructor
  · rintro ⟨f, hw, h⟩
    refine ⟨f, hw, fun j hj _ hg => ?_, fun j hj => by simp at hj⟩
    have := h j hj
    unfold resB at this
    rw [hw.opt j hj, Bool.true_and, decide_eq_true ((sights_mem _ _ _).2 ⟨hj, by rw [grp_eq]; exact hg⟩)] at this
    simp only [Bool.not_true, Bool.false_or] at this
    exact (own_iff.1 this).2
  · rintro ⟨f, hw, h, _⟩
    refine ⟨f, hw, fun j hj => ?_⟩
    unfold resB
    rw [hw.opt j hj, Bool.true_and]
    by_cases e : j ∈ sightsL S g
    · rw [decide_eq_true e, own_iff.2 ⟨(opt_iff.1 (hw.opt j hj)).1, h j hj hp (by rw [← grp_eq]; exact ((sights_mem _ _ _).1 e).2)⟩]
      rfl
    · rw [decide_eq_false e]
      rfl
theorem sol_all {I : List IssuedD} {S : List SeenD} {nb : Option BE} (hI : I.length ≤ 64) : Sol (ridOf I S nb) (optO I S) ↔ Ext I S 0 (-1) [] := by
  rw [sol_iff hI (SubO.refl _), ext_iff (Nat.zero_le _)]
  constructor
  · rintro ⟨f, hw, h⟩
    exact ⟨f, hw, fun j hj q => by omega, fun j hj => by simp at hj⟩
  · rintro ⟨f, hw, _, _⟩
    exact ⟨f, hw, hw.opt⟩
/-- the first sights have been given their copies -/
structure Pre (I : List IssuedD) (S : List SeenD) (k : Nat) (o : Nat → Nat → Bool) (cs : List Int) : Prop where
  len : cs.length = k
  get : ∀ j, j < k → ∃ c : Nat, cs[j]? = some (c : Int) ∧ optO I S j c = true
  opt : ∀ j c, o j c = if j < k then decide (cs[j]? = some (c : Int)) else optO I S j c
theorem Pre.sub {I : List IssuedD} {S : List SeenD} {k : Nat} {o : Nat → Nat → Bool} {cs : List Int} (h : Pre I S k o cs) : SubO o (optO I S) := fun j c hc => by
  rw [h.opt] at hc
  split at hc
  · next hj =>
    obtain ⟨d, h1, h2⟩ := h.get j hj
    simp only [decide_eq_true_eq, h1, Option.some.injEq] at hc
    rw [show c = d by omega]
    exact h2
  · exact hc
theorem sol_pre {I : List IssuedD} {S : List SeenD} {nb : Option BE} (hI : I.length ≤ 64) {k : Nat} {o : Nat → Nat → Bool} {cs : List Int} (h : Pre I S k o cs) (hk : k ≤ S.length) : Sol (ridOf I S nb) o ↔ Ext I S 0 (-1) cs := by
  rw [sol_iff hI h.sub, ext_iff (by rw [h.len]; exact hk)]
  constructor
  · rintro ⟨f, hw, h1⟩
    refine ⟨f, hw, fun j hj q => by omega, fun j hj => ?_⟩
    have h2 := h1 j (by have := h.len; omega)
    rw [h.opt, if_pos (by have := h.len; omega)] at h2
    simpa using h2
  · rintro ⟨f, hw, _, h1⟩
    refine ⟨f, hw, fun j hj => ?_⟩
    rw [h.opt]
    split
    · next hjk => simpa using h1 j (by rw [h.len]; exact hjk)
    · exact hw.opt j hj
theorem Pre.next {I : List IssuedD} {S : List SeenD} {k c : Nat} {o : Nat → Nat → Bool} {cs : List Int} (h : Pre I S k o cs) (hc : optO I S k c = true) : Pre I S (k + 1) (setO o k c) (cs ++ [(c : Int)]) := by
  refine ⟨by simp [h.len], fun j hj => ?_, fun j d => ?_⟩
  · rcases Nat.lt_or_ge j k with q | q
    · obtain ⟨d, h1, h2⟩ := h.get j q
      exact ⟨d, by rw [List.getElem?_append_left (by rw [h.len]; exact q)]; exact h1, h2⟩
    · obtain rfl : j = k := by omega
      exact ⟨c, by rw [List.getElem?_append_right (by rw [h.len]; exact Nat.le_refl _), h.len]; simp, hc⟩
  · unfold setO
    by_cases e : j = k
    · subst e
      rw [if_pos rfl, if_pos (by omega), List.getElem?_append_right (by rw [h.len]; exact Nat.le_refl _), h.len]
      unfold oneB
      simp only [Nat.sub_self, List.getElem?_cons_zero, Option.some.injEq]
      rw [Bool.eq_iff_iff]
      simp only [beq_iff_eq, decide_eq_true_eq]
      omega
    · rw [if_neg e, h.opt]
      by_cases q : j < k
      · rw [if_pos q, if_pos (by omega), List.getElem?_append_left (by rw [h.len]; exact q)]
      · rw [if_neg q, if_neg (by omega)]
theorem any_first {I : List IssuedD} {S : List SeenD} {nb : Option BE} (hI : I.length ≤ 64) {sv : (Nat → Nat → Bool) → Bool} (hsv : ∀ o, sv o = true ↔ Sol (ridOf I S nb) o) (h0 : Ext I S 0 (-1) []) : ∀ k, k ≤ S.length →
    Pre I S k (anyTo sv I.length (optO I S) k).1 (anyTo sv I.length (optO I S) k).2 ∧ Ext I S 0 (-1) (anyTo sv I.length (optO I S) k).2 ∧ firstR I S 0 (-1) S.length [] = firstR I S 0 (-1) (S.length - k) (anyTo sv I.length (optO I S) k).2
  | 0, _ => ⟨⟨rfl, fun j hj => by omega, fun j c => by simp [anyTo]⟩, h0, rfl⟩
  | k + 1, hk => by
    obtain ⟨h1, h2, h3⟩ := any_first hI hsv h0 k (by omega)
    simp only [anyTo]
    generalize hx : anyTo sv I.length (optO I S) k = x at h1 h2 h3
    obtain ⟨o, cs⟩ := x
    simp only at h1 h2 h3
    have hcl := h1.len
    -- the least copy that can be
    obtain ⟨c, hc1, hc2, hc3⟩ : ∃ c : Nat, c < I.length ∧ Ext I S 0 (-1) (cs ++ [(c : Int)]) ∧ ∀ d, d < c → ¬ Ext I S 0 (-1) (cs ++ [(d : Int)]) := by
      obtain ⟨c, q1, q2⟩ := h2.next (by omega)
      have key : ∀ n : Nat, ∀ c, c ≤ n → c < I.length → Ext I S 0 (-1) (cs ++ [(c : Int)]) → ∃ c : Nat, c < I.length ∧ Ext I S 0 (-1) (cs ++ [(c : Int)]) ∧ ∀ d, d < c → ¬ Ext I S 0 (-1) (cs ++ [(d : Int)]) := fun n => by
        induction n with
        | zero => intro c h q1 q2; exact ⟨c, q1, q2, fun d hd => by omega⟩
        | succ n ih =>
          intro c h q1 q2
          by_cases e : ∃ d, d < c ∧ Ext I S 0 (-1) (cs ++ [(d : Int)])
          · obtain ⟨d, e1, e2⟩ := e
            exact ih d (by omega) (by omega) e2
          · exact ⟨c, q1, q2, fun d hd hE => e ⟨d, hd, hE⟩⟩
      exact key c c (Nat.le_refl _) q1 q2
    have hopt : ∀ d : Nat, Ext I S 0 (-1) (cs ++ [(d : Int)]) → optO I S k d = true := fun d hd => by
      have hg := hd.good.ex.fit cs.length (d : Int) (by simp)
      rw [hcl] at hg
      exact opt_iff.2 ⟨by omega, hg.2.2⟩
    have hok : o k = optO I S k := by
      funext d
      rw [h1.opt, if_neg (Nat.lt_irrefl _)]
    have hdec : ∀ d : Nat, Decidable (Ext I S 0 (-1) (cs ++ [(d : Int)])) := fun d => Classical.propDecidable _
    have hpick : ∀ d, pickF sv o k d = if Ext I S 0 (-1) (cs ++ [(d : Int)]) then some d else none := fun d => by
      unfold pickF
      by_cases e : Ext I S 0 (-1) (cs ++ [(d : Int)])
      · have e1 := hopt d e
        rw [if_pos e, if_pos ⟨by rw [hok]; exact e1, (hsv _).2 ((sol_pre hI (h1.next e1) (by omega)).2 e)⟩]
      · rw [if_neg e, if_neg]
        rintro ⟨q1, q2⟩
        rw [hok] at q1
        exact e ((sol_pre hI (h1.next q1) (by omega)).1 ((hsv _).1 q2))
    have hfind : findN (pickF sv o k) I.length 0 = some c := findN_at _ _ c (Nat.zero_le _) (by omega) (fun d _ hd => by rw [hpick, if_neg (hc3 d hd)]) (by rw [hpick, if_pos hc2])
    unfold anyStep
    simp only [hfind]
    refine ⟨h1.next (hopt c hc2), hc2, ?_⟩
    rw [h3, show S.length - k = (S.length - (k + 1)) + 1 by omega]
    exact first_step (by omega) h2.good hc2 hc1 hc3
/-- what Any finds is what the reference finds -/
theorem any_eq {I : List IssuedD} {S : List SeenD} {nb : Option BE} (hI : I.length ≤ 64) {sv : (Nat → Nat → Bool) → Bool} (hsv : ∀ o, sv o = true ↔ Sol (ridOf I S nb) o) (h0 : sv (optO I S) = true) : firstR I S 0 (-1) S.length [] = some (anyTo sv I.length (optO I S) S.length).2 := by
  obtain ⟨_, _, h⟩ := any_first hI hsv ((sol_all hI).1 ((hsv _).1 h0)) S.length (Nat.le_refl _)
  rw [h, Nat.sub_self]
  rfl
theorem any_no {I : List IssuedD} {S : List SeenD} {nb : Option BE} (hI : I.length ≤ 64) {sv : (Nat → Nat → Bool) → Bool} (hsv : ∀ o, sv o = true ↔ Sol (ridOf I S nb) o) (h0 : sv (optO I S) = false) : firstR I S 0 (-1) S.length [] = none := by
  cases h : firstR I S 0 (-1) S.length [] with
  | none => rfl
  | some l =>
    have := (first_iff S.length [] (by simp) (good_nil I S 0 (-1))).1 (by rw [h]; rfl)
    rw [(hsv _).2 ((sol_all hI).2 this)] at h0
    cases h0
end Go.Proofs.YtaopkjgldokahaaGreatDoor
namespace Go.Proofs.YtaopkjgldokahaaGreatDoor
open Go.RowKit

/-! Of and Any: what they answer. -/
noncomputable def solB (r : Rid) (o : Nat → Nat → Bool) : Bool := @decide (Sol r o) (Classical.propDecidable _)
theorem solB_iff (r : Rid) (o : Nat → Nat → Bool) : solB r o = true ↔ Sol r o := by unfold solB; simp
theorem opt_low {I : List IssuedD} {S : List SeenD} {i c : Nat} (h : optO I S i c = true) : i < S.length := by
  unfold optO at h
  cases hs : S[i]? with
  | none => rw [hs] at h; split at h <;> simp_all
  | some s => exact (List.getElem?_eq_some_iff.1 hs).1
theorem occ_len (S : List SeenD) (g : Int) : (sightsL S g).length = 0 ↔ occB g S = false := by
  rw [List.length_eq_zero_iff, occB, List.any_eq_false]
  constructor
  · intro h s hs hg
    obtain ⟨i, hi, rfl⟩ := List.getElem_of_mem hs
    have : i ∈ sightsL S g := (sights_mem _ _ _).2 ⟨hi, by
      simp only [decide_eq_true_eq] at hg
      unfold grpAt
      rw [List.getElem?_eq_getElem hi]
      exact hg⟩
    rw [h] at this
    cases this
  · intro h
    refine List.eq_nil_iff_forall_not_mem.2 fun i hi => ?_
    obtain ⟨h1, h2⟩ := (sights_mem _ _ _).1 hi
    refine h S[i] (List.getElem_mem _) ?_
    unfold grpAt at h2
    rw [List.getElem?_eq_getElem h1] at h2
    simpa using h2
theorem check_issued {I : List IssuedD} {S : List SeenD} (h : checkB I S = true) {x : IssuedD} (hx : x ∈ I) : 0 ≤ x.person ∧ x.person < 4096 := by
  simp only [checkB, Bool.and_eq_true, decide_eq_true_eq, List.all_eq_true] at h
  have := h.2.1 x hx
  simp only [issB, Bool.and_eq_true, decide_eq_true_eq] at this
  exact ⟨this.1.2.1, this.1.2.2.1⟩
def ofA (I : List IssuedD) (S : List SeenD) (g : Int) : List Int := if okOf I S g then ofR I S g else []
theorem of_filter {I : List IssuedD} {S : List SeenD} {nb : Option BE} {g : Int} (h : checkB I S = true) (hI : I.length ≤ 64) :
    (ableL (ridOf I S nb) (optO I S) (sightsL S g)).filter (fun p => solB (ridOf I S nb) (resB (optO I S) (sightsL S g) (ownTo I I.length p))) = ofR I S g := by
  unfold ableL ofR
  rw [List.filter_filter]
  refine List.filter_congr fun p hp => ?_
  obtain ⟨x, hx, rfl⟩ := (people_mem I p).1 hp
  have hp0 := (check_issued h hx).1
  have key : solB (ridOf I S nb) (resB (optO I S) (sightsL S g) (ownTo I I.length x.person)) = !(firstR I S g x.person S.length []).isNone := by
    rw [Bool.eq_iff_iff, solB_iff, sol_of hI hp0, ← first_iff S.length [] (by simp) (good_nil _ _ _ _)]
    cases firstR I S g x.person S.length [] <;> simp
  rw [key]
  cases hf : firstR I S g x.person S.length [] with
  | none => simp
  | some l =>
    have hE := (first_iff S.length [] (by simp) (good_nil I S g x.person)).1 (by rw [hf]; rfl)
    obtain ⟨f, hw, h1, _⟩ := (ext_iff (Nat.zero_le _)).1 hE
    simp only [Option.isNone_some, Bool.not_false, Bool.true_and]
    unfold ableB
    rw [List.all_eq_true]
    intro i hi
    obtain ⟨m1, m2⟩ := (sights_mem _ _ _).1 hi
    have hc := (opt_iff.1 (hw.opt i m1)).1
    exact meetB_iff.2 ⟨f i, by omega, hw.opt i m1, own_iff.2 ⟨hc, h1 i m1 hp0 (by rw [← grp_eq]; exact m2)⟩⟩
theorem Of_pureF (I : List IssuedD) (S : List SeenD) (g : Int) (nbI nbS : Option BE) (hI : BigI I) (hS : BigS S) :
    PureF Tryz.prog 67 [.slm 3 nbI IssuedD.c I, .slm 4 nbS SeenD.c S, i64 g] (.tup [.slm 1 (some (.var (decide ((ofA I S g).length = 0)))) intC (ofA I S g), i64 (if okOf I S g then 0 else 300)]) := by
  have hC := Check_pure I S nbI nbS hI hS
  have hb : checkB I S = true → I.length ≤ 64 ∧ S.length ≤ 16 := fun h => by
    simp only [checkB, Bool.and_eq_true, decide_eq_true_eq] at h
    exact h.1
  have hok : checkB I S = true → (ridOf I S nbS).ok := fun h => ridOf_ok I S nbS (hb h).1 (hb h).2
  have hsl : ∀ g, (sightsL S g).length ≤ S.length := fun g => idxTo_len _ _ _
  have hG : checkB I S = true → (sightsL S g).length ≤ 16 ∧ ∀ i ∈ sightsL S g, i < 16 := fun h => ⟨by have := hsl g; have := (hb h).2; omega, fun i hi => by have := ((sights_mem _ _ _).1 hi).1; have := (hb h).2; omega⟩
  refine Of_walk I S nbI nbS g (checkB I S) _ rfl hC (sightsL S g) hG none (some (.var (peopleL I).isEmpty)) (gsTo S S.length) (ownF I I.length) (.nat (cntP I I.length)) (peopleL I) enc and_enc (optO I S) (ownTo I I.length)
    (fun h => sights_pureF S nbS g (by have := (hb h).2; omega))
    (fun h => newRiddle_pure I S nbI nbS (hb h).1 (hb h).2 (fun x hx => ⟨hI.vals x hx, by have := check_issued h hx; unfold InR; simp [IntKind.min, IntKind.max, IntKind.signed, IntKind.bits]; omega⟩) (fun s hs => ⟨hS.fields s hs, hS.vals s hs⟩))
    (ableL (ridOf I S nbS) (optO I S) (sightsL S g)) (ableL (ridOf I S nbS) (optO I S) (sightsL S g)).isEmpty
    (fun h => able_pureF (ridOf I S nbS) (hok h) (optO I S) (sightsL S g) (hG h))
    (fun h => by
      have := List.length_filter_le (ableB (ridOf I S nbS) (optO I S) (sightsL S g)) (peopleL I)
      have h2 : (peopleL I).length ≤ 64 := (hok h).ord
      exact Nat.le_trans this h2)
    (fun h p hp => (hok h).pf p (List.mem_filter.1 hp).1)
    (fun p => solB (ridOf I S nbS) (resB (optO I S) (sightsL S g) (ownTo I I.length p)))
    (fun h p hp f hf => soluble_pure (ridOf I S nbS) (hok h) f (fun i c hic => by
      rw [hf] at hic
      have := opt_low (resB_sub _ _ _ i c hic)
      have := (hb h).2
      omega) _ (by rw [hf]; exact solB_iff _ _) _ fun _ => rfl)
    _ _ _ ?_ ?_ ?_
  · intro h
    unfold ofA okOf
    rw [h]
    exact ⟨rfl, rfl, rfl⟩
  · intro h hl
    have := (occ_len S g).1 hl
    unfold ofA okOf
    rw [h, this]
    exact ⟨rfl, rfl, rfl⟩
  · intro h hl
    have ho : occB g S = true := by
      cases hq : occB g S with
      | true => rfl
      | false => exact absurd ((occ_len S g).2 hq) hl
    rw [of_filter h (hb h).1]
    unfold ofA okOf
    rw [h, ho]
    exact ⟨rfl, rfl, rfl⟩
set_option maxRecDepth 100000 in
set_option maxHeartbeats 4000000 in
theorem Of_pure (I : List IssuedD) (S : List SeenD) (g : Int) (nbI nbS : Option BE) (hI : BigI I) (hS : BigS S) :
    Pure Tryz.prog 67 [.slm 3 nbI IssuedD.c I, .slm 4 nbS SeenD.c S, i64 g] (.tup [.slm 1 (some (.var (decide ((ofA I S g).length = 0)))) intC (ofA I S g), i64 (if okOf I S g then 0 else 300)]) := (Of_pureF I S g nbI nbS hI hS).pure
/-- what Any answers -/
def anyA (I : List IssuedD) (S : List SeenD) : Option (List Int) := if checkB I S then firstR I S 0 (-1) S.length [] else none
end Go.Proofs.YtaopkjgldokahaaGreatDoor
namespace Go.Proofs.YtaopkjgldokahaaGreatDoor
open Go.RowKit

/-! ref.Sees: the sights that a coalition sees. -/
def seesP (c : List Int) (l : List SightD) (i : Nat) : Bool := match l[i]? with | some s => decide (s.verifier ∈ c) | none => false
theorem sees_eq (c : List Int) (l : List SightD) : seesL c l = (List.range l.length).filter (seesP c l) := rfl
set_option maxRecDepth 100000 in
set_option maxHeartbeats 4000000 in
theorem Sees_pure (c : List Int) (l : List SightD) (nc nl : Option BE) (hc : c.length < 9223372036854775807) (hl : l.length ≤ 1000000) : Pure Tryz.prog 70 [.slm 1 nc intC c, .slm 37 nl SightD.c l] (.slm 1 none natC (seesL c l)) := by
  have hH := fun v => rhas_pure c nc v hc
  obtain ⟨h, hh⟩ : ∃ f : Int → Bool, f = fun v => decide (v ∈ c) := ⟨_, rfl⟩
  have hH' : ∀ v, Pure Tryz.prog 83 [.slm 1 nc intC c, i64 v] (boolD (h v)) := fun v => by rw [hh]; exact hH v
  obtain ⟨to, hto⟩ : ∃ f : Nat → List Nat, f = fun k => (List.range k).filter (seesP c l) := ⟨_, rfl⟩
  have t0 : to 0 = [] := by rw [hto]; rfl
  have t1 : ∀ k s, l[k]? = some s → h s.verifier = true → to (k + 1) = to k ++ [k] := fun k s hs hv => by
    rw [hto]
    simp only
    rw [List.range_succ, List.filter_append]
    rw [hh] at hv
    simp [seesP, hs, of_decide_eq_true hv]
  have t2 : ∀ k s, l[k]? = some s → h s.verifier = false → to (k + 1) = to k := fun k s hs hv => by
    rw [hto]
    simp only
    rw [List.range_succ, List.filter_append]
    rw [hh] at hv
    simp [seesP, hs, of_decide_eq_false hv]
  have tl : ∀ k, (to k).length ≤ k := fun k => by
    rw [hto]
    have := List.length_filter_le (seesP c l) (List.range k)
    simpa using this
  obtain ⟨n, hn⟩ : ∃ n : Nat, n = l.length := ⟨_, rfl⟩
  obtain ⟨r, hr⟩ : ∃ r, r = seesL c l := ⟨_, rfl⟩
  rw [← hr]
  have te : to n = r := by rw [hto, hn, hr]; rfl
  clear hto hh hH hr
  refine Pure.intro (want := [.slm 1 none natC r]) T_ok follows Tryz.func70 rfl (by kernel_rfl) (rs := [.tmp 4]) rfl (by kernel_rfl) ?_
  generalize hP : Tryz.prog = P at *
  have hT : T.ok P := hP ▸ T_ok
  have hm : P.follows .mixedOrders = true := hP ▸ follows
  unfold Tryz.f70
  dsimp only
  cbv
  refine CodeP.loopm hT hm (X := Nat × Nat × List Nat) (fun x => [(6, .int .i64 (.nat x.1)), (5, .osl 1 0 (x.2.1 + 1) (.lit false) (.lit 0) (.nat x.2.1))]) (fun x => [.row 3 1 (x.2.1 + 1) (.map natC x.2.2)]) (fun x => x.1 ≤ n ∧ x.2.2.length = x.2.1 ∧ x.2.2 = to x.1) (fun x => n - x.1) (0, 0, []) ⟨Nat.zero_le _, rfl, t0.symm⟩ (fun _ => Nat.zero_le _) ⟨?_, ?_, rfl⟩ ?_
  · refine ⟨.nat0, .eq (.osl rfl rfl rfl), ?_⟩
    (cbv; (repeat' (first | exact SnD.refl _ | exact trivial | exact SnD.nat0 | refine And.intro ?_ ?_)))
  · exact ⟨.row rfl, trivial⟩
  intro ⟨k, m, A⟩ ⟨hk, hm', hA⟩
  simp only at hk hm' hA
  cbv
  refine SplitP.mk (fun hs => ?_) (fun hs => ?_)
  · have hkn : k < l.length := by
      have h5 : decide ((k : Int) < (l.length : Int)) = true := hs
      have := of_decide_eq_true h5
      omega
    clear hs
    refine ElemP.mk (by show (0 : Int) ≤ (k : Int) ∧ (k : Int) < (l.length : Int); omega) (fun s hx => ?_)
    replace hx : l[k]? = some s := hx
    have g1 := t1 k s hx
    have g2 := t2 k s hx
    have g3 := tl k
    obtain ⟨v, tk, ⟨y1, y2, y3, y4, y5, y6⟩⟩ := s
    cbv
    refine CallP.pure _ (hH' v) rfl ?_
    cbv
    refine SplitP.mk (fun h1 => ?_) (fun h1 => ?_)
    · have h2 : h v = true := h1
      refine ReqP.mk (app_ok hm' (by rw [← hm', hA]; omega) (fun _ => rfl) rfl (by decide)) (fun _ => ?_)
      refine BackP.intro (k + 1, m + 1, A ++ [k]) ⟨by simp only; omega, by simp only; rw [List.length_append, hm']; rfl, by simp only; rw [g1 h2, hA]⟩ (by show n - (k + 1) < n - k; omega) ⟨?_, ⟨row_app k rfl (.cons (.refl _) .nil), trivial⟩, rfl⟩
      refine ⟨.inc (by omega), .eq (.osl rfl rfl rfl), ?_⟩
      (cbv; (repeat' (first | exact SnD.refl _ | exact trivial | exact SnD.nat0 | refine And.intro ?_ ?_)))
    · have h2 : h v = false := h1
      refine BackP.intro (k + 1, m, A) ⟨by simp only; omega, hm', by simp only; rw [g2 h2]; exact hA⟩ (by show n - (k + 1) < n - k; omega) ⟨?_, ⟨.refl _, trivial⟩, rfl⟩
      refine ⟨.inc (by omega), .refl _, ?_⟩
      (cbv; (repeat' (first | exact SnD.refl _ | exact trivial | exact SnD.nat0 | refine And.intro ?_ ?_)))
  · have hkn : l.length ≤ k := by
      have h5 : decide ((k : Int) < (l.length : Int)) = false := hs
      have := of_decide_eq_false h5
      omega
    clear hs
    have hkn2 : k = n := by omega
    subst hkn2
    refine .mk (.cons (.slm rfl (.inl ⟨_, _, rfl, by rw [← te, ← hA]; rfl⟩) rfl (by simp only [IE.den]; rw [← te, ← hA, hm']) (fun e h => by cases h)) .nil) rfl
end Go.Proofs.YtaopkjgldokahaaGreatDoor
namespace Go.Proofs.YtaopkjgldokahaaGreatDoor
open Go.RowKit

/-! What a coalition sees, in plain words: classes of sights, and their numbers. -/
def zeroS : SightD := ⟨0, fun _ => 0, ⟨0, 0, true, [], true, []⟩⟩
def getS (V : List SightD) (i : Nat) : SightD := (V[i]?).getD zeroS
def sightsL31 (c : List Int) (l : List SightD) : List SightD := l.filter fun s => decide (s.verifier ∈ c)
theorem getS_map (l : List SightD) : (List.range l.length).map (getS l) = l := by
  refine List.ext_getElem? fun i => ?_
  rw [List.getElem?_map]
  by_cases h : i < l.length
  · rw [List.getElem?_range h, List.getElem?_eq_getElem h]
    simp [getS, h]
  · rw [List.getElem?_eq_none (by simp; omega), List.getElem?_eq_none (by omega)]
    rfl
theorem sees_map (c : List Int) (l : List SightD) : (seesL c l).map (getS l) = sightsL31 c l := by
  unfold sightsL31
  conv => rhs; rw [← getS_map l]
  rw [List.filter_map, sees_eq]
  congr 1
  refine List.filter_congr fun i hi => ?_
  have hl := List.mem_range.1 hi
  simp [seesP, getS, hl]
theorem sees_len (c : List Int) (l : List SightD) : (seesL c l).length = (sightsL31 c l).length := by rw [← sees_map]; simp
theorem sees_get {c : List Int} {l : List SightD} {i j : Nat} (h : (seesL c l)[i]? = some j) : j < l.length ∧ getS l j = getS (sightsL31 c l) i := by
  have h1 := List.mem_of_getElem? h
  rw [sees_eq] at h1
  refine ⟨List.mem_range.1 (List.mem_filter.1 h1).1, ?_⟩
  rw [← sees_map]
  unfold getS
  rw [List.getElem?_map, h]
  rfl
/-- the marks of a sight -/
def markL (v g : Int) (tk : List Int) : List Int := v :: g :: tk
def marksS (s : SightD) : List (List Int) := markL s.verifier s.seen.group (List.replicate 32 0) :: (if noTok s.token then [] else [markL (-1) 0 (tokL s.token)])
theorem tokL_len (f : Nat → Int) : (tokL f).length = 32 := by simp [tokL]
theorem share_iff (a b : SightD) : (∃ m, m ∈ marksS a ∧ m ∈ marksS b) ↔ joinedB a b = true := by
  unfold joinedB marksS markL
  rw [Bool.or_eq_true, Bool.and_eq_true, decide_eq_true_eq, decide_eq_true_eq]
  constructor
  · rintro ⟨m, h1, h2⟩
    rcases List.mem_cons.1 h1 with e1 | e1 <;> rcases List.mem_cons.1 h2 with e2 | e2
    · rw [e1] at e2
      simp only [List.cons.injEq] at e2
      exact .inl ⟨e2.1, e2.2.1⟩
    · split at e2
      · cases e2
      · next hn =>
        simp only [List.mem_singleton] at e2
        rw [e1] at e2
        simp only [List.cons.injEq] at e2
        exact absurd (show noTok b.token = true from decide_eq_true e2.2.2.symm) hn
    · split at e1
      · cases e1
      · next hn =>
        simp only [List.mem_singleton] at e1
        rw [e1] at e2
        simp only [List.cons.injEq] at e2
        exact absurd (show noTok a.token = true from decide_eq_true e2.2.2) hn
    · split at e1
      · cases e1
      · next hn =>
        split at e2
        · cases e2
        · simp only [List.mem_singleton] at e1 e2
          rw [e1] at e2
          simp only [List.cons.injEq, true_and] at e2
          exact .inr ⟨e2, by simpa using hn⟩
  · rintro (⟨h1, h2⟩ | ⟨h1, h2⟩)
    · exact ⟨_, List.mem_cons_self, by rw [h1, h2]; exact List.mem_cons_self⟩
    · have ha : noTok a.token = false := by simpa using h2
      have hb : noTok b.token = false := by unfold noTok at ha ⊢; rw [← h1]; exact ha
      refine ⟨-1 :: 0 :: tokL a.token, ?_, ?_⟩
      · rw [ha]; simp
      · rw [hb, h1]; simp
/-- who leads whom -/
def leadOf (V : List SightD) : Nat → Nat := (runJ (fun i => if i < V.length then marksS (getS V i) else []) V.length).r
def adjV (V : List SightD) (a b : Nat) : Prop := a < V.length ∧ b < V.length ∧ joinedB (getS V a) (getS V b) = true
theorem lead_led (V : List SightD) : Led (adjV V) (leadOf V) := by
  refine (runJ_led _ V.length).congr (fun a b h => .one ?_) (fun a b h => .one ?_)
  · obtain ⟨h1, h2, m, h3, h4⟩ := h
    simp only [if_pos h1] at h3
    simp only [if_pos h2] at h4
    exact ⟨h1, h2, (share_iff _ _).1 ⟨m, h3, h4⟩⟩
  · obtain ⟨h1, h2, h3⟩ := h
    obtain ⟨m, h4, h5⟩ := (share_iff _ _).2 h3
    exact ⟨h1, h2, m, by simp only; rw [if_pos h1]; exact h4, by simp only; rw [if_pos h2]; exact h5⟩
theorem joined_symm (a b : SightD) : joinedB a b = joinedB b a := by
  rw [Bool.eq_iff_iff, ← share_iff, ← share_iff]
  exact ⟨fun ⟨m, h1, h2⟩ => ⟨m, h2, h1⟩, fun ⟨m, h1, h2⟩ => ⟨m, h2, h1⟩⟩
theorem adj_symm {V : List SightD} (a b : Nat) (h : adjV V a b) : adjV V b a := ⟨h.2.1, h.1, by rw [joined_symm]; exact h.2.2⟩
/-! the rounds of the reference -/
def relK (V : List SightD) (f : Nat → Nat) (i : Nat) : Nat → Nat → Nat
  | 0 => f
  | k + 1 => if joinedB (getS V i) (getS V k) then putN (relK V f i k) i (min (relK V f i k i) (relK V f i k k)) else relK V f i k
def relI (V : List SightD) (f : Nat → Nat) : Nat → Nat → Nat
  | 0 => f
  | i + 1 => relK V (relI V f i) i V.length
def relT (V : List SightD) : Nat → Nat → Nat
  | 0 => fun a => a
  | t + 1 => relI V (relT V t) V.length
theorem relK_other {V : List SightD} {f : Nat → Nat} {i a : Nat} (h : a ≠ i) : ∀ k, relK V f i k a = f a
  | 0 => rfl
  | k + 1 => by
    unfold relK
    split
    · unfold putN
      rw [if_neg h]
      exact relK_other h k
    · exact relK_other h k
theorem relK_le {V : List SightD} {f : Nat → Nat} {i : Nat} : ∀ k, relK V f i k i ≤ f i
  | 0 => Nat.le_refl _
  | k + 1 => by
    have := relK_le (V := V) (f := f) (i := i) k
    unfold relK
    split
    · unfold putN
      rw [if_pos rfl]
      omega
    · exact this
theorem relK_near {V : List SightD} {f : Nat → Nat} {i : Nat} : ∀ k b, b < k → joinedB (getS V i) (getS V b) = true → relK V f i k i ≤ f b
  | 0, b, h, _ => by omega
  | k + 1, b, h, hj => by
    unfold relK
    by_cases e : b = k
    · subst e
      rw [if_pos hj]
      unfold putN
      rw [if_pos rfl]
      by_cases eb : b = i
      · subst eb
        have := relK_le (V := V) (f := f) (i := b) b
        omega
      · have := relK_other (V := V) (f := f) eb b
        omega
    · have ih := relK_near (f := f) k b (by omega) hj
      split
      · unfold putN
        rw [if_pos rfl]
        omega
      · exact ih
theorem relK_low {V : List SightD} {f r : Nat → Nat} (hr : ∀ a b, adjV V a b → r a = r b) {i : Nat} (hi : i < V.length) (hf : ∀ a, a < V.length → r a ≤ f a) : ∀ k, k ≤ V.length → r i ≤ relK V f i k i
  | 0, _ => hf i hi
  | k + 1, hk => by
    have ih := relK_low hr hi hf k (by omega)
    unfold relK
    split
    · next hj =>
      unfold putN
      rw [if_pos rfl]
      by_cases e : k = i
      · subst e; omega
      · rw [relK_other e k]
        have h1 := hf k (by omega)
        have h2 := hr i k ⟨hi, by omega, hj⟩
        omega
    · exact ih
/-- behind i rows -/
theorem relI_spec {V : List SightD} {f r : Nat → Nat} (hr : ∀ a b, adjV V a b → r a = r b) (hf : ∀ a, a < V.length → r a ≤ f a) : ∀ i, i ≤ V.length → (∀ a, a < V.length → relI V f i a ≤ f a ∧ r a ≤ relI V f i a) ∧ (∀ a b, a < i → b < V.length → joinedB (getS V a) (getS V b) = true → relI V f i a ≤ f b) ∧ ∀ a, i ≤ a → relI V f i a = f a
  | 0, _ => ⟨fun a ha => ⟨Nat.le_refl _, hf a ha⟩, fun a b h => by omega, fun _ _ => rfl⟩
  | i + 1, hi => by
    obtain ⟨h1, h2, h3⟩ := relI_spec hr hf i (by omega)
    have hlow := relK_low hr (f := relI V f i) (i := i) (by omega) (fun a ha => (h1 a ha).2) V.length (Nat.le_refl _)
    refine ⟨fun a ha => ?_, fun a b ha hb hj => ?_, fun a ha => ?_⟩
    · show relK V (relI V f i) i V.length a ≤ f a ∧ r a ≤ relK V (relI V f i) i V.length a
      by_cases e : a = i
      · subst e
        exact ⟨Nat.le_trans (relK_le _) (h1 a ha).1, hlow⟩
      · rw [relK_other e]
        exact h1 a ha
    · show relK V (relI V f i) i V.length a ≤ f b
      by_cases e : a = i
      · subst e
        exact Nat.le_trans (relK_near _ b hb hj) (h1 b hb).1
      · rw [relK_other e]
        exact h2 a b (by omega) hb hj
    · show relK V (relI V f i) i V.length a = f a
      rw [relK_other (by omega)]
      exact h3 a (by omega)
theorem relT_lead (V : List SightD) : ∀ a, a < V.length → relT V V.length a = leadOf V a := by
  have hr := lead_led V
  have hadj : ∀ a b, adjV V a b → leadOf V a = leadOf V b := fun a b h => (hr.iff a b).2 (.one h)
  have hlow : ∀ t, ∀ a, a < V.length → leadOf V a ≤ relT V t a := fun t => by
    induction t with
    | zero => exact fun a _ => hr.le a
    | succ t ih => exact fun a ha => ((relI_spec hadj ih V.length (Nat.le_refl _)).1 a ha).2
  refine rounds_settle adj_symm (fun a b h => ⟨h.1, h.2.1⟩) hr (fun _ => rfl) fun t _ => ?_
  obtain ⟨h1, h2, _⟩ := relI_spec hadj (hlow t) V.length (Nat.le_refl _)
  exact ⟨fun a ha => (h1 a ha).1, fun a ha => (h1 a ha).2, fun a b ha hb hj => h2 a b ha hb hj.2.2⟩
/-- how many classes begin below i -/
def cntR (r : Nat → Nat) (i : Nat) : Nat := ((List.range i).filter fun a => decide (r a = a)).length
theorem cntR_succ (r : Nat → Nat) (i : Nat) : cntR r (i + 1) = if r i = i then cntR r i + 1 else cntR r i := by
  unfold cntR
  rw [List.range_succ, List.filter_append, List.length_append]
  by_cases h : r i = i <;> simp [h]
theorem cntR_le (r : Nat → Nat) (i : Nat) : cntR r i ≤ i := by
  unfold cntR
  have := List.length_filter_le (fun a => decide (r a = a)) (List.range i)
  simpa using this
/-- the view of a coalition, and the number of its groups -/
def viewAt (V : List SightD) (i : Nat) : SeenD := { (getS V i).seen with group := (cntR (leadOf V) (leadOf V i) : Int) }
def viewL (c : List Int) (l : List SightD) : List SeenD := (List.range (sightsL31 c l).length).map (viewAt (sightsL31 c l))
def manyL (c : List Int) (l : List SightD) : Nat := cntR (leadOf (sightsL31 c l)) (sightsL31 c l).length
end Go.Proofs.YtaopkjgldokahaaGreatDoor
namespace Go.Proofs.YtaopkjgldokahaaGreatDoor
open Go.RowKit

/-! Walks cut at a state that is named: what comes behind is walked once. -/
def entX (fr1 : Fr) (H1 : List Bk) (e : Exit) (fr : Fr) (H : List Bk) : Prop := match e with
  | .normal => EntP fr H fr1 H1
  | e => StuckX e
theorem CodeP.seqTo {P : Program} {cx : Cx} {c d : Code} {fr : Fr} {H : List Bk} {K : Exit → Fr → List Bk → Prop} (fr1 : Fr) (H1 : List Bk) (hh : cx.h0 ≤ H1.length) (h1 : CodeP P cx c fr H (thenK (fun fr H => EntP fr H fr1 H1) K)) (h2 : CodeP P cx d fr1 H1 K) : CodeP P cx (.seq c d) fr H K := by
  refine ⟨fun B E a w hnt hr => wp_seq (Code.wp_mono (fun e a' w' ⟨fr', H', E', q1, q2⟩ => ?_) (h1.run B E a w hnt hr))⟩
  cases e <;> first | exact h2.run B _ a' w' hnt (EntP.rel (Nat.le_trans hnt.2 hh) q1 q2) | exact ⟨fr', H', E', q1, q2⟩
/-- the same, with something that was learnt on the way -/
theorem CodeP.seqW {P : Program} {cx : Cx} {c d : Code} {fr : Fr} {H : List Bk} {K : Exit → Fr → List Bk → Prop} (L : Unit → Prop) (fr1 : Fr) (H1 : List Bk) (hh : cx.h0 ≤ H1.length) (h1 : CodeP P cx c fr H (thenK (fun fr H => L () ∧ EntP fr H fr1 H1) K)) (h2 : L () → CodeP P cx d fr1 H1 K) : CodeP P cx (.seq c d) fr H K := by
  refine ⟨fun B E a w hnt hr => wp_seq (Code.wp_mono (fun e a' w' ⟨fr', H', E', q1, q2⟩ => ?_) (h1.run B E a w hnt hr))⟩
  cases e <;> first | exact (h2 q1.1).run B _ a' w' hnt (EntP.rel (Nat.le_trans hnt.2 hh) q1.2 q2) | exact ⟨fr', H', E', q1, q2⟩
theorem CodeP.block {P : Program} {cx : Cx} {id : Nat} {c : Code} {fr : Fr} {H : List Bk} {K : Exit → Fr → List Bk → Prop} (h : CodeP P cx c fr H (blockK id K)) : CodeP P cx (.block id c) fr H K := by
  refine ⟨fun B E a w hnt hr => wp_block (Code.wp_mono (fun e a' w' ⟨fr', H', E', q1, q2⟩ => ?_) (h.run B E a w hnt hr))⟩
  cases e with
  | exit i =>
    simp only [blockK] at q1
    simp only [Exit.inBlock]
    split at q1
    · next e => rw [if_pos e]; exact ⟨fr', H', E', q1, q2⟩
    · next e => rw [if_neg e]; exact ⟨fr', H', E', q1, q2⟩
  | _ => exact ⟨fr', H', E', q1, q2⟩
theorem CodeP.loopP {P : Program} {cx : Cx} {c : Code} {fr : Fr} {H : List Bk} {K : Exit → Fr → List Bk → Prop} {X : Type} (fr' : X → Fr) (H' : X → List Bk) (I : X → Prop) (μ : X → Nat) (x0 : X) (hI : I x0) (hh : ∀ x, cx.h0 ≤ (H' x).length)
    (he : EntP fr H (fr' x0) (H' x0)) (round : ∀ x, I x → CodeP P cx c (fr' x) (H' x) (loopK fr' H' I μ x K)) : CodeP P cx (.loop c) fr H K := by
  refine ⟨fun B E a w hnt hr b k cs => ?_⟩
  have key : ∀ (n : Nat) (x : X), μ x = n → I x → ∀ (E : Env) (a : Act) (w : World), Rel B ⟨fr' x, H' x⟩ E a w →
      ∃ e a' w', (∃ fr'' H'' E', K e fr'' H'' ∧ Rel B ⟨fr'', H''⟩ E' a' w') ∧ Arrives P (lone (b.at a (.code c :: .inLoop c :: k)) cs w) b k cs e a' w' := by
    intro n
    induction n using Nat.strongRecOn with
    | _ n ih =>
      intro x hn hx E a w hr
      obtain ⟨e, a1, w1, ⟨fr2, H2, E2, hq, hr2⟩, harr⟩ := (round x hx).run B E a w hnt hr b (.inLoop c :: k) cs
      cases e with
      | normal =>
        obtain ⟨y, hy, hlt, hent⟩ := hq.out
        obtain ⟨e3, a3, w3, hq3, harr3⟩ := ih (μ y) (hn ▸ hlt) y rfl hy _ a1 w1 (hent.rel (Nat.le_trans hnt.2 (hh y)) hr2)
        exact ⟨e3, a3, w3, hq3, .of_steps (Steps.trans harr (.one step_inLoop)) harr3⟩
      | exit id => exact ⟨_, a1, w1, ⟨fr2, H2, E2, hq, hr2⟩, .pass (x := .inLoop c) rfl (fun _ _ => .inl (by simp)) harr⟩
      | goto l => exact ⟨_, a1, w1, ⟨fr2, H2, E2, hq, hr2⟩, .pass (x := .inLoop c) rfl (fun _ _ => .inl (by simp)) harr⟩
      | ret => exact ⟨_, a1, w1, ⟨fr2, H2, E2, hq, hr2⟩, .pass (x := .inLoop c) rfl (fun _ _ => .inl (by simp)) harr⟩
      | panic ch => exact ⟨_, a1, w1, ⟨fr2, H2, E2, hq, hr2⟩, .pass (x := .inLoop c) rfl (fun _ _ => .inl (by simp)) harr⟩
      | outgrown => exact ⟨_, a1, w1, ⟨fr2, H2, E2, hq, hr2⟩, .pass (x := .inLoop c) rfl (fun _ _ => .inl (by simp)) harr⟩
  obtain ⟨e, a', w', hq, harr⟩ := key _ x0 rfl hI _ a w (he.rel (Nat.le_trans hnt.2 (hh x0)) hr)
  exact ⟨e, a', w', hq, .of_steps (.one step_loop) harr⟩
end Go.Proofs.YtaopkjgldokahaaGreatDoor
namespace Go.Proofs.YtaopkjgldokahaaGreatDoor
open Go.RowKit

/-! ref.View: the walk. -/
theorem upd_rowN {H H' : List Bk} {ty ver k : Nat} {l l' : List Nat} {i e : IE} {v : Nat} (hk : i.den.toNat = k) (he : e.den = (v : Int)) (hl : l.set k v = l') : BkEq H H' (.row ty 1 ver (.upd (.map natC l) i 0 [.int .i64 e])) (.row ty 1 ver (.map natC l')) := by
  subst hl
  have h1 : (RE.upd (.map natC l) i 0 [.int .i64 e]).den = (l.map natC).modify k (fun cs => over cs 0 [.int .i64 e]) := by simp only [RE.den, hk]
  have h2 : (RE.map natC (l.set k v)).den = (l.set k v).map natC := rfl
  refine .rowe (by rw [h1, h2]; simp) fun j a b ha hb => ?_
  rw [h1, List.getElem?_modify, List.getElem?_map] at ha
  rw [h2, List.getElem?_map, List.getElem?_set] at hb
  by_cases q : k = j
  · subst q
    cases hx : l[k]? with
    | none => rw [hx] at ha; simp at ha
    | some x =>
      have hlt := (List.getElem?_eq_some_iff.1 hx).1
      rw [hx] at ha
      simp only [Option.map_some, Option.map_eq_map, if_true, Option.some.injEq] at ha
      simp only [if_true, hlt, Option.map_some, Option.some.injEq] at hb
      subst ha
      subst hb
      refine ⟨rfl, fun j d d' hd hd' => ?_⟩
      cases j with
      | zero =>
        simp only [over, natC, List.take_zero, List.nil_append, List.cons_append, List.getElem?_cons_zero, Option.some.injEq] at hd hd'
        subst hd
        subst hd'
        exact .int he
      | succ j => simp [over, natC] at hd
  · rw [if_neg q] at hb
    simp only [q, if_false, Option.map_eq_map, Option.map_id_fun', id_eq] at ha
    rw [ha] at hb
    cases hb
    exact ⟨rfl, fun j d d' hd hd' => by rw [hd] at hd'; cases hd'; exact .refl _⟩
theorem rep_rowN {H H' : List Bk} {ty ver m : Nat} {l : List Nat} {n : IE} (hl : l = List.replicate m 0) (hn : n.den = (m : Int)) : BkEq H H' (.row ty 1 ver (.rep n [.int .i64 (.lit 0)])) (.row ty 1 ver (.map natC l)) := by
  subst hl
  have h1 : (RE.rep n [.int .i64 (.lit 0)]).den = List.replicate m [.int .i64 (.lit 0)] := by simp only [RE.den, hn, Int.toNat_natCast]
  have h2 : (RE.map natC (List.replicate m 0)).den = List.replicate m (natC 0) := List.map_replicate
  refine .rowe (by rw [h1, h2, List.length_replicate, List.length_replicate]) fun i e e' he he' => ?_
  rw [h1, List.getElem?_replicate] at he
  rw [h2, List.getElem?_replicate] at he'
  split at he
  · next q =>
    rw [if_pos q] at he'
    simp only [Option.some.injEq] at he he'
    subst he
    subst he'
    refine ⟨rfl, fun j d d' hd hd' => ?_⟩
    cases j with
    | zero =>
      simp only [natC, List.getElem?_cons_zero, Option.some.injEq] at hd hd'
      subst hd
      subst hd'
      exact .int rfl
    | succ j => simp at hd
  · cases he
theorem set_range {m k : Nat} {f g : Nat → Nat} (hg : ∀ a, a ≠ k → g a = f a) : ((List.range m).map f).set k (g k) = (List.range m).map g := by
  refine List.ext_getElem? fun i => ?_
  rw [List.getElem?_set]
  by_cases hi : i < m
  · rw [List.length_map, List.length_range, List.getElem?_map, List.getElem?_map, List.getElem?_range hi]
    by_cases e : k = i
    · subst e; simp [hi]
    · rw [if_neg e]; simp [hg i (Ne.symm e)]
  · by_cases e : k = i
    · subst e; simp [hi]
    · rw [if_neg e, List.getElem?_eq_none (by simp; omega), List.getElem?_eq_none (by simp; omega)]
theorem range_get {m a x : Nat} {f : Nat → Nat} (h : ((List.range m).map f)[a]? = some x) : a < m ∧ x = f a := by
  have ha : a < m := by have := (List.getElem?_eq_some_iff.1 h).1; simpa using this
  rw [List.getElem?_map, List.getElem?_range ha] at h
  exact ⟨ha, by simpa using h.symm⟩
theorem relK_yes {V : List SightD} {f : Nat → Nat} {i k : Nat} (h : joinedB (getS V i) (getS V k) = true) : relK V f i (k + 1) = putN (relK V f i k) i (min (relK V f i k i) (relK V f i k k)) := by
  simp only [relK]
  rw [if_pos h]
set_option maxRecDepth 100000 in
set_option maxHeartbeats 4000000 in
theorem View_pure (c : List Int) (l : List SightD) (nc nl : Option BE) (hc : c.length < 9223372036854775807) (hl : l.length ≤ 1000) : Pure Tryz.prog 53 [.slm 1 nc intC c, .slm 37 nl SightD.c l] (.tup [.slm 4 none SeenD.c (viewL c l), .int .i64 (.nat (manyL c l))]) := by
  have hS := Sees_pure c l nc nl hc (by omega)
  have hat : ∀ (i j : Nat), (seesL c l)[i]? = some j → j < l.length ∧ ∀ s, l[j]? = some s → s = getS (sightsL31 c l) i := fun i j h => by
    obtain ⟨h1, h2⟩ := sees_get h
    refine ⟨h1, fun s hs => ?_⟩
    rw [← h2]
    simp [getS, hs]
  have hal := sees_len c l
  unfold viewL manyL
  obtain ⟨at_, hat_⟩ : ∃ x, x = seesL c l := ⟨_, rfl⟩
  rw [← hat_] at hS hat hal
  obtain ⟨V, hV⟩ : ∃ x, x = sightsL31 c l := ⟨_, rfl⟩
  rw [← hV] at hat hal ⊢
  have hled := lead_led V
  have hrel := relT_lead V
  have hm1 : V.length ≤ 1000 := by
    have := List.length_filter_le (fun s : SightD => decide (s.verifier ∈ c)) l
    rw [hV]
    unfold sightsL31
    omega
  obtain ⟨r, hr⟩ : ∃ f, f = leadOf V := ⟨_, rfl⟩
  rw [← hr] at hled hrel ⊢
  obtain ⟨m, hm'⟩ : ∃ x : Nat, x = V.length := ⟨_, rfl⟩
  rw [← hm'] at hal hrel hm1 ⊢
  have hJ := fun a b => joined_pure a b
  obtain ⟨LL, hLL⟩ : ∃ f : Nat → Nat → Nat → List Nat, f = fun t i k => (List.range m).map (relK V (relI V (relT V t) i) i k) := ⟨_, rfl⟩
  have LLl : ∀ t i k, (LL t i k).length = m := fun t i k => by rw [hLL]; simp
  obtain ⟨jb, hjb⟩ : ∃ f : Nat → Nat → Bool, f = fun i k => joinedB (getS V i) (getS V k) := ⟨_, rfl⟩
  have LLy : ∀ t i k x y, jb i k = true → (LL t i k)[i]? = some x → (LL t i k)[k]? = some y → (LL t i k).set i (min x y) = LL t i (k + 1) := fun t i k x y hj hx hy => by
    rw [hLL] at hx hy ⊢
    rw [hjb] at hj
    obtain ⟨_, rfl⟩ := range_get hx
    obtain ⟨_, rfl⟩ := range_get hy
    have hg : relK V (relI V (relT V t) i) i (k + 1) i = min (relK V (relI V (relT V t) i) i k i) (relK V (relI V (relT V t) i) i k k) := by
      rw [relK_yes hj]
      simp [putN]
    rw [← hg]
    refine set_range fun a ha => ?_
    rw [relK_yes hj]
    simp [putN, ha]
  have LLn : ∀ t i k, jb i k = false → LL t i (k + 1) = LL t i k := fun t i k hj => by
    rw [hjb] at hj
    rw [hLL]
    simp only [relK]
    rw [if_neg (by simp only at hj; rw [hj]; simp)]
  have LLi : ∀ t i, LL t i m = LL t (i + 1) 0 := fun t i => by rw [hLL, hm']; rfl
  have LLt : ∀ t, LL t m 0 = LL (t + 1) 0 0 := fun t => by rw [hLL, hm']; rfl
  have LLe : LL m 0 0 = (List.range m).map r := by
    rw [hLL]
    refine List.map_congr_left fun a ha => ?_
    show relT V m a = r a
    exact hrel a (List.mem_range.1 ha)
  obtain ⟨I0, hI0⟩ : ∃ f : Nat → List Nat, f = fun k => (List.range m).map fun a => if a < k then a else 0 := ⟨_, rfl⟩
  have I00 : I0 0 = List.replicate m 0 := by rw [hI0]; simp [List.map_const']
  have I0l : ∀ k, (I0 k).length = m := fun k => by rw [hI0]; simp
  have I0s : ∀ k, (I0 k).set k k = I0 (k + 1) := fun k => by
    rw [hI0]
    have := set_range (m := m) (k := k) (f := fun a => if a < k then a else 0) (g := fun a => if a < k + 1 then a else 0) (fun a ha => by
      by_cases q : a < k
      · rw [if_pos q, if_pos (by omega)]
      · rw [if_neg q, if_neg (by omega)])
    simpa using this
  have I0e : I0 m = LL 0 0 0 := by
    rw [hI0, hLL]
    refine List.map_congr_left fun a ha => ?_
    rw [if_pos (List.mem_range.1 ha)]
    rfl
  obtain ⟨NN, hNN⟩ : ∃ f : Nat → List Nat, f = fun k => (List.range m).map fun a => if a < k then cntR r (r a) else 0 := ⟨_, rfl⟩
  have NN0 : NN 0 = List.replicate m 0 := by rw [hNN]; simp [List.map_const']
  have NNl : ∀ k, (NN k).length = m := fun k => by rw [hNN]; simp
  have NNs : ∀ k, (NN k).set k (cntR r (r k)) = NN (k + 1) := fun k => by
    rw [hNN]
    have := set_range (m := m) (k := k) (f := fun a => if a < k then cntR r (r a) else 0) (g := fun a => if a < k + 1 then cntR r (r a) else 0) (fun a ha => by
      by_cases q : a < k
      · rw [if_pos q, if_pos (by omega)]
      · rw [if_neg q, if_neg (by omega)])
    simpa using this
  have NNg : ∀ k x, ¬ r k = k → (NN k)[r k]? = some x → x = cntR r (r k) := fun k x hk hx => by
    rw [hNN] at hx
    obtain ⟨_, rfl⟩ := range_get hx
    have := hled.le k
    rw [if_pos (by omega), hled.self]
  obtain ⟨cn, hcn⟩ : ∃ f : Nat → Nat, f = cntR r := ⟨_, rfl⟩
  have cn0 : cn 0 = 0 := by rw [hcn]; rfl
  have cny : ∀ k, r k = k → cn (k + 1) = cn k + 1 := fun k h => by rw [hcn, cntR_succ, if_pos h]
  have cnn : ∀ k, ¬ r k = k → cn (k + 1) = cn k := fun k h => by rw [hcn, cntR_succ, if_neg h]
  have cnl : ∀ k, cn k ≤ k := fun k => by rw [hcn]; exact cntR_le r k
  have rle : ∀ k, r k ≤ k := hled.le
  have NNs2 : ∀ k, (NN k).set k (cn (r k)) = NN (k + 1) := fun k => by rw [hcn]; exact NNs k
  have NNg2 : ∀ k x, ¬ r k = k → (NN k)[r k]? = some x → x = cn (r k) := fun k x h hx => by rw [hcn]; exact NNg k x h hx
  have NNk : ∀ k x, (NN (k + 1))[k]? = some x → x = cn (r k) := fun k x hx => by
    rw [hNN] at hx
    obtain ⟨_, rfl⟩ := range_get hx
    rw [if_pos (by omega), hcn]
  obtain ⟨rl, hrl⟩ : ∃ x, x = (List.range m).map r := ⟨_, rfl⟩
  have rlg : ∀ k x, rl[k]? = some x → x = r k := fun k x hx => by rw [hrl] at hx; exact (range_get hx).2
  have rll : rl.length = m := by rw [hrl]; simp
  rw [← hrl] at LLe
  rw [show cntR r m = cn m by rw [hcn]]
  obtain ⟨W, hW⟩ : ∃ f : Nat → List SeenD, f = fun k => (List.range k).map (viewAt V) := ⟨_, rfl⟩
  have W0 : W 0 = [] := by rw [hW]; rfl
  have Wl : ∀ k, (W k).length = k := fun k => by rw [hW]; simp
  have Ws : ∀ k s, s = getS V k → W (k + 1) = W k ++ [{ s.seen with group := (cn (r k) : Int) }] := fun k s hs => by
    rw [hW, hcn]
    simp only
    rw [List.range_succ, List.map_append, hs, hr]
    rfl
  rw [show (List.range m).map (viewAt V) = W m by rw [hW]]
  have hJ' : ∀ i k a b, a = getS V i → b = getS V k → Pure Tryz.prog 71 [.agg a.c, .agg b.c] (boolD (jb i k)) := fun i k a b ha hb => by rw [hjb, ha, hb]; exact hJ _ _
  clear hJ hLL hjb hI0 hNN hcn hrl hW hV hr hled hrel NNs NNg hat_
  have e : (.tup [.slm 4 none SeenD.c (W m), .int .i64 (.nat (cn m))] : D) = retD [.slm 4 none SeenD.c (W m), .int .i64 (.nat (cn m))] := rfl
  rw [e]
  refine Pure.introC T_ok Tryz.func53 rfl (by kernel_rfl) (rs := [.tmp 4, .tmp 5]) rfl (by kernel_rfl) ?_
  generalize hP : Tryz.prog = P at *
  have hT : T.ok P := hP ▸ T_ok
  have hm : P.follows .mixedOrders = true := hP ▸ follows
  unfold Tryz.f53
  dsimp only
  refine CodeP.seq (vc_sound hT hm _ ?_)
  cbv
  refine CodeP.seq (vc_sound hT hm _ ?_)
  cbv
  refine CallP.pure _ hS rfl ?_
  cbv
  refine CodeP.seq (vc_sound hT hm _ ?_)
  cbv
  refine ReqP.mk ⟨by show (0 : Int) ≤ (at_.length : Int); omega, Int.le_refl _, by show (at_.length : Int) ≤ _; omega, by show ((8 : Nat) : Int) * (at_.length : Int) ≤ _; omega⟩ (fun _ => ?_)
  refine CodeP.keep [0, 1, 6, 7] ?_
  refine CodeP.seqTo [(0, .slm 1 nc intC c), (1, .slm 37 nl SightD.c l), (6, .slm 1 none natC at_), (7, .osl 1 0 1 (.lit false) (.lit 0) (.len at_))] [.row 3 1 1 (.map natC (LL 0 0 0))] (Nat.zero_le _) (vc_sound hT hm _ ?_) ?_
  · cbv
    refine CodeP.loopm hT hm (X := Nat) (fun k => [(8, .int .i64 (.nat k))]) (fun k => [.row 3 1 1 (.map natC (I0 k))]) (fun k => k ≤ m) (fun k => m - k) 0 (Nat.zero_le _) (fun _ => Nat.zero_le _) ⟨?_, ⟨rep_rowN I00 (by simp only [IE.den]; rw [hal]), trivial⟩, rfl⟩ ?_
    · (cbv; (repeat' (first | exact SnD.refl _ | exact trivial | exact SnD.nat0 | refine And.intro ?_ ?_)))
    intro k hk
    cbv
    refine SplitP.mk (fun hs => ?_) (fun hs => ?_)
    · have hkn : k < at_.length := by
        have h5 : decide ((k : Int) < (at_.length : Int)) = true := hs
        have := of_decide_eq_true h5
        omega
      clear hs
      refine ReqP.mk (by show (0 : Int) ≤ (k : Int) ∧ (k : Int) < (at_.length : Int); omega) (fun _ => ?_)
      refine ReqP.mk (by show (IE.nat k).den.toNat < ((I0 k).map natC).length; rw [List.length_map, I0l]; simp only [IE.den, Int.toNat_natCast]; omega) (fun _ => ?_)
      refine BackP.intro (k + 1) (by omega) (by show m - (k + 1) < m - k; omega) ⟨?_, ⟨upd_rowN (v := k) (by simp [IE.den]) rfl (I0s k), trivial⟩, rfl⟩
      (cbv; (repeat' (first | exact SnD.refl _ | exact trivial | exact SnD.nat0 | refine And.intro ?_ ?_)))
      exact .inc (by omega)
    · have hkm : k = m := by
        have h5 : decide ((k : Int) < (at_.length : Int)) = false := hs
        have := of_decide_eq_false h5
        omega
      subst hkm
      exact ⟨⟨.refl _, .refl _, .refl _, .refl _, trivial⟩, ⟨by rw [I0e]; exact .refl _, trivial⟩, rfl⟩
  refine CodeP.seqTo [(0, .slm 1 nc intC c), (1, .slm 37 nl SightD.c l), (6, .slm 1 none natC at_), (7, .osl 1 0 1 (.lit false) (.lit 0) (.len at_))] [.row 3 1 1 (.map natC rl)] (Nat.zero_le _) (vc_sound hT hm _ ?_) ?_
  · cbv
    refine CodeP.loopm hT hm (X := Nat) (fun t => [(9, .int .i64 (.nat t))]) (fun t => [.row 3 1 1 (.map natC (LL t 0 0))]) (fun t => t ≤ m) (fun t => m - t) 0 (Nat.zero_le _) (fun _ => Nat.zero_le _) ⟨?_, ⟨.refl _, trivial⟩, rfl⟩ ?_
    · (cbv; (repeat' (first | exact SnD.refl _ | exact trivial | exact SnD.nat0 | refine And.intro ?_ ?_)))
    intro t ht
    cbv
    refine SplitP.mk (fun hs => ?_) (fun hs => ?_)
    · have htm : t < m := by
        have h5 : decide ((t : Int) < (at_.length : Int)) = true := hs
        have := of_decide_eq_true h5
        omega
      clear hs
      refine CodeP.loopm hT hm (X := Nat) (fun i => [(10, .int .i64 (.nat i))]) (fun i => [.row 3 1 1 (.map natC (LL t i 0))]) (fun i => i ≤ m) (fun i => m - i) 0 (Nat.zero_le _) (fun _ => Nat.zero_le _) ⟨?_, ⟨.refl _, trivial⟩, rfl⟩ ?_
      · (cbv; (repeat' (first | exact SnD.refl _ | exact trivial | exact SnD.nat0 | refine And.intro ?_ ?_)))
      intro i hi
      cbv
      refine SplitP.mk (fun hs => ?_) (fun hs => ?_)
      · have him : i < m := by
          have h5 : decide ((i : Int) < (at_.length : Int)) = true := hs
          have := of_decide_eq_true h5
          omega
        clear hs
        refine CodeP.loopm hT hm (X := Nat) (fun k => [(11, .int .i64 (.nat k))]) (fun k => [.row 3 1 1 (.map natC (LL t i k))]) (fun k => k ≤ m) (fun k => m - k) 0 (Nat.zero_le _) (fun _ => Nat.zero_le _) ⟨?_, ⟨.refl _, trivial⟩, rfl⟩ ?_
        · (cbv; (repeat' (first | exact SnD.refl _ | exact trivial | exact SnD.nat0 | refine And.intro ?_ ?_)))
        intro k hk
        cbv
        refine SplitP.mk (fun hs => ?_) (fun hs => ?_)
        · have hkm : k < m := by
            have h5 : decide ((k : Int) < (at_.length : Int)) = true := hs
            have := of_decide_eq_true h5
            omega
          clear hs
          refine ElemP.mk (by show (0 : Int) ≤ (i : Int) ∧ (i : Int) < (at_.length : Int); omega) (fun x hx => ?_)
          replace hx : at_[i]? = some x := hx
          obtain ⟨hlx, hvx⟩ := hat i x hx
          cbv
          refine ElemP.mk (by show (0 : Int) ≤ (x : Int) ∧ (x : Int) < (l.length : Int); omega) (fun p hp => ?_)
          replace hp : l[x]? = some p := hp
          have ep := hvx p hp
          obtain ⟨p1, p2, ⟨p3, p4, p5, p6, p7, p8⟩⟩ := p
          cbv
          refine ElemP.mk (by show (0 : Int) ≤ (k : Int) ∧ (k : Int) < (at_.length : Int); omega) (fun y hy => ?_)
          replace hy : at_[k]? = some y := hy
          obtain ⟨hly, hvy⟩ := hat k y hy
          cbv
          refine ElemP.mk (by show (0 : Int) ≤ (y : Int) ∧ (y : Int) < (l.length : Int); omega) (fun q hq => ?_)
          replace hq : l[y]? = some q := hq
          have eq := hvy q hq
          obtain ⟨q1, q2, ⟨q3, q4, q5, q6, q7, q8⟩⟩ := q
          cbv
          refine CallP.pure _ (hJ' i k _ _ ep eq) rfl ?_
          cbv
          refine SplitP.mk (fun hj => ?_) (fun hj => ?_)
          · have h9 := LLy t i k
            refine ReqP.mk (by show (0 : Int) ≤ (i : Int) ∧ (i : Int) < (at_.length : Int); omega) (fun _ => ?_)
            refine ElemP.mk (by show (0 : Int) ≤ (i : Int) ∧ (i : Int) < ((LL t i k).length : Int); rw [LLl]; omega) (fun a ha => ?_)
            replace ha : (LL t i k)[i]? = some a := ha
            cbv
            refine ReqP.mk (by show (0 : Int) ≤ (k : Int) ∧ (k : Int) < (at_.length : Int); omega) (fun _ => ?_)
            refine ElemP.mk (by show (0 : Int) ≤ (k : Int) ∧ (k : Int) < ((LL t i k).length : Int); rw [LLl]; omega) (fun b hb => ?_)
            replace hb : (LL t i k)[k]? = some b := hb
            cbv
            refine ReqP.mk (by show (0 : Int) ≤ (i : Int) ∧ (i : Int) < (at_.length : Int); omega) (fun _ => ?_)
            refine ReqP.mk (by show (IE.nat i).den.toNat < ((LL t i k).map natC).length; rw [List.length_map, LLl]; simp only [IE.den, Int.toNat_natCast]; omega) (fun _ => ?_)
            refine BackP.intro (k + 1) (by omega) (by show m - (k + 1) < m - k; omega) ⟨?_, ⟨upd_rowN (v := min a b) (by simp [IE.den]) (by show min (a : Int) (b : Int) = _; omega) (h9 a b hj ha hb), trivial⟩, rfl⟩
            (cbv; (repeat' (first | exact SnD.refl _ | exact trivial | exact SnD.nat0 | refine And.intro ?_ ?_)))
            exact .inc (by omega)
          · have h9 := LLn t i k hj
            refine BackP.intro (k + 1) (by omega) (by show m - (k + 1) < m - k; omega) ⟨?_, ⟨by rw [h9]; exact .refl _, trivial⟩, rfl⟩
            (cbv; (repeat' (first | exact SnD.refl _ | exact trivial | exact SnD.nat0 | refine And.intro ?_ ?_)))
            exact .inc (by omega)
        · have hkm : k = m := by
            have h5 : decide ((k : Int) < (at_.length : Int)) = false := hs
            have := of_decide_eq_false h5
            omega
          subst hkm
          refine BackP.intro (i + 1) (by omega) (by show k - (i + 1) < k - i; omega) ⟨?_, ⟨by rw [LLi]; exact .refl _, trivial⟩, rfl⟩
          (cbv; (repeat' (first | exact SnD.refl _ | exact trivial | exact SnD.nat0 | refine And.intro ?_ ?_)))
          exact .inc (by omega)
      · have him : i = m := by
          have h5 : decide ((i : Int) < (at_.length : Int)) = false := hs
          have := of_decide_eq_false h5
          omega
        subst him
        refine BackP.intro (t + 1) (by omega) (by show i - (t + 1) < i - t; omega) ⟨?_, ⟨by rw [LLt]; exact .refl _, trivial⟩, rfl⟩
        (cbv; (repeat' (first | exact SnD.refl _ | exact trivial | exact SnD.nat0 | refine And.intro ?_ ?_)))
        exact .inc (by omega)
    · have htm : t = m := by
        have h5 : decide ((t : Int) < (at_.length : Int)) = false := hs
        have := of_decide_eq_false h5
        omega
      subst htm
      exact ⟨⟨.refl _, .refl _, .refl _, .refl _, trivial⟩, ⟨by rw [LLe]; exact .refl _, trivial⟩, rfl⟩
  refine CodeP.seq (vc_sound hT hm _ ?_)
  cbv
  refine CodeP.seq (vc_sound hT hm _ ?_)
  cbv
  refine ReqP.mk ⟨by show (0 : Int) ≤ (at_.length : Int); omega, Int.le_refl _, by show (at_.length : Int) ≤ _; omega, by show ((8 : Nat) : Int) * (at_.length : Int) ≤ _; omega⟩ (fun _ => ?_)
  refine CodeP.seq (vc_sound hT hm _ ?_)
  cbv
  refine CodeP.seq ?_
  refine CodeP.seqTo [(1, .slm 37 nl SightD.c l), (6, .slm 1 none natC at_), (7, .osl 1 0 1 (.lit false) (.lit 0) (.len at_)), (12, .osl 4 1 1 (.lit false) (.lit 0) (.nat 0)), (13, .osl 1 2 1 (.lit false) (.lit 0) (.len at_)), (14, .int .i64 (.nat (cn 0))), (15, .int .i64 (.nat 0))] [.row 3 1 1 (.map natC rl), .row 32 4 1 (.map SeenD.c (W 0)), .row 3 1 1 (.map natC (NN 0))] (Nat.zero_le _) (vc_sound hT hm _ ?_) ?_
  · cbv
    exact ⟨⟨.refl _, .refl _, .refl _, .eq (.osl rfl rfl rfl), .refl _, .eq (.int (by rw [cn0]; rfl)), .eq (.int rfl), trivial⟩, ⟨.refl _, .row (by rw [W0]; rfl), rep_rowN NN0 (by simp only [IE.den]; rw [hal]), trivial⟩, rfl⟩
  refine CodeP.block ?_
  refine CodeP.loopP (X := Nat) (fun k => [(1, .slm 37 nl SightD.c l), (6, .slm 1 none natC at_), (7, .osl 1 0 1 (.lit false) (.lit 0) (.len at_)), (12, .osl 4 1 (k + 1) (.lit false) (.lit 0) (.nat k)), (13, .osl 1 2 1 (.lit false) (.lit 0) (.len at_)), (14, .int .i64 (.nat (cn k))), (15, .int .i64 (.nat k))]) (fun k => [.row 3 1 1 (.map natC rl), .row 32 4 (k + 1) (.map SeenD.c (W k)), .row 3 1 1 (.map natC (NN k))]) (fun k => k ≤ m) (fun k => m - k) 0 (Nat.zero_le _) (fun _ => Nat.zero_le _) ⟨⟨.refl _, .refl _, .refl _, .refl _, .refl _, .refl _, .refl _, trivial⟩, ⟨.refl _, .refl _, .refl _, trivial⟩, rfl⟩ ?_
  intro k hk
  refine CodeP.seq (vc_sound hT hm _ ?_)
  cbv
  refine SplitP.mk (fun hs => ?_) (fun hs => ?_)
  · have hkm : k < m := by
      have h5 : decide ((k : Int) < (at_.length : Int)) = true := hs
      have := of_decide_eq_true h5
      omega
    clear hs
    have c1 := cny k
    have c2 := cnn k
    have n1 := NNs2 k
    have n2 := NNg2 k
    have n3 := NNk k
    have r1 := rlg k
    have r2 := rle k
    have w1 := Ws k
    have cl := cnl k
    have wl := Wl k
    refine CodeP.seqTo [(1, .slm 37 nl SightD.c l), (6, .slm 1 none natC at_), (7, .osl 1 0 1 (.lit false) (.lit 0) (.len at_)), (12, .osl 4 1 (k + 2) (.lit false) (.lit 0) (.nat (k + 1))), (13, .osl 1 2 1 (.lit false) (.lit 0) (.len at_)), (14, .int .i64 (.nat (cn (k + 1)))), (15, .int .i64 (.nat k))] [.row 3 1 1 (.map natC rl), .row 32 4 (k + 2) (.map SeenD.c (W (k + 1))), .row 3 1 1 (.map natC (NN (k + 1)))] (Nat.zero_le _) (CodeP.block ?_) ?_
    · refine CodeP.seqTo [(1, .slm 37 nl SightD.c l), (6, .slm 1 none natC at_), (7, .osl 1 0 1 (.lit false) (.lit 0) (.len at_)), (12, .osl 4 1 (k + 1) (.lit false) (.lit 0) (.nat k)), (13, .osl 1 2 1 (.lit false) (.lit 0) (.len at_)), (14, .int .i64 (.nat (cn (k + 1)))), (15, .int .i64 (.nat k))] [.row 3 1 1 (.map natC rl), .row 32 4 (k + 1) (.map SeenD.c (W k)), .row 3 1 1 (.map natC (NN (k + 1)))] (Nat.zero_le _) (vc_sound hT hm _ ?_) ?_
      · cbv
        refine ReqP.mk (by show (0 : Int) ≤ (k : Int) ∧ (k : Int) < (at_.length : Int); omega) (fun _ => ?_)
        refine ElemP.mk (by show (0 : Int) ≤ (k : Int) ∧ (k : Int) < ((rl).length : Int); rw [rll]; omega) (fun x hx => ?_)
        replace hx : (rl)[k]? = some x := hx
        have ex := r1 x hx
        cbv
        refine SplitP.mk (fun hs => ?_) (fun hs => ?_)
        · have h6 : x = k := by
            have h7 : ((x : Int) == (k : Int)) = true := hs
            simp at h7
            omega
          have h8 : r k = k := by rw [← ex]; exact h6
          refine ReqP.mk (by show (0 : Int) ≤ (k : Int) ∧ (k : Int) < (at_.length : Int); omega) (fun _ => ?_)
          refine ReqP.mk (by show (IE.nat k).den.toNat < ((NN k).map natC).length; rw [List.length_map, NNl]; simp only [IE.den, Int.toNat_natCast]; omega) (fun _ => ?_)
          refine ⟨⟨.refl _, .refl _, .refl _, .refl _, .refl _, .eq (.int ?_), .refl _, trivial⟩, ⟨.refl _, .refl _, upd_rowN (k := k) (v := cn k) (by simp [IE.den]) rfl (by rw [← n1, h8]), trivial⟩, rfl⟩
          show IntKind.i64.wrap ((cn k : Int) + 1) = ((cn (k + 1) : Nat) : Int)
          rw [c1 h8, w64 (by omega) (by omega)]
          omega
        · have h6 : ¬ x = k := by
            have h7 : ((x : Int) == (k : Int)) = false := hs
            simp at h7
            omega
          have h8 : ¬ r k = k := by rw [← ex]; exact h6
          refine ReqP.mk (by show (0 : Int) ≤ (k : Int) ∧ (k : Int) < (at_.length : Int); omega) (fun _ => ?_)
          refine ElemP.mk (by show (0 : Int) ≤ (k : Int) ∧ (k : Int) < ((rl).length : Int); rw [rll]; omega) (fun x2 hx2 => ?_)
          replace hx2 : (rl)[k]? = some x2 := hx2
          have ex2 := r1 x2 hx2
          cbv
          refine ReqP.mk (by show (0 : Int) ≤ (x2 : Int) ∧ (x2 : Int) < (at_.length : Int); have := hkm; omega) (fun _ => ?_)
          refine ElemP.mk (by show (0 : Int) ≤ (x2 : Int) ∧ (x2 : Int) < ((NN k).length : Int); rw [NNl]; have := hkm; omega) (fun y hy => ?_)
          replace hy : (NN k)[x2]? = some y := hy
          have ey := n2 y h8 (by rw [← ex2]; exact hy)
          cbv
          refine ReqP.mk (by show (0 : Int) ≤ (k : Int) ∧ (k : Int) < (at_.length : Int); omega) (fun _ => ?_)
          refine ReqP.mk (by show (IE.nat k).den.toNat < ((NN k).map natC).length; rw [List.length_map, NNl]; simp only [IE.den, Int.toNat_natCast]; omega) (fun _ => ?_)
          refine ⟨⟨.refl _, .refl _, .refl _, .refl _, .refl _, .eq (.int (by rw [c2 h8])), .refl _, trivial⟩, ⟨.refl _, .refl _, upd_rowN (k := k) (v := y) (by simp [IE.den]) rfl (by rw [ey]; exact n1), trivial⟩, rfl⟩
      refine vc_sound hT hm _ ?_
      cbv
      refine ElemP.mk (by show (0 : Int) ≤ (k : Int) ∧ (k : Int) < (at_.length : Int); omega) (fun j hj => ?_)
      replace hj : at_[k]? = some j := hj
      obtain ⟨hlj, hvj⟩ := hat k j hj
      cbv
      refine ElemP.mk (by show (0 : Int) ≤ (j : Int) ∧ (j : Int) < (l.length : Int); omega) (fun p hp => ?_)
      replace hp : l[j]? = some p := hp
      have ep := hvj p hp
      have w2 := w1 p ep
      obtain ⟨p1, p2, ⟨p3, p4, p5, p6, p7, p8⟩⟩ := p
      cbv
      refine ReqP.mk (by show (0 : Int) ≤ (k : Int) ∧ (k : Int) < (at_.length : Int); omega) (fun _ => ?_)
      refine ElemP.mk (by show (0 : Int) ≤ (k : Int) ∧ (k : Int) < ((NN (k + 1)).length : Int); rw [NNl]; omega) (fun z hz => ?_)
      replace hz : (NN (k + 1))[k]? = some z := hz
      have ez := n3 z hz
      cbv
      refine ReqP.mk (app_ok wl (by omega) (fun _ => rfl) rfl (by decide)) (fun _ => ?_)
      refine ⟨⟨.refl _, .refl _, .refl _, .eq (.osl rfl rfl rfl), .refl _, .refl _, .refl _, trivial⟩, ⟨.refl _, row_app _ w2 (.cons (.int (by simp [IE.den, ez])) (.cons (.refl _) (.cons (.refl _) (.cons (.refl _) .nil)))), .refl _, trivial⟩, rfl⟩
    · refine vc_sound hT hm _ ?_
      cbv
      refine BackP.intro (k + 1) (by omega) (by show m - (k + 1) < m - k; omega) ⟨⟨.refl _, .refl _, .refl _, .refl _, .refl _, .refl _, .inc (by omega), trivial⟩, ⟨.refl _, .refl _, .refl _, trivial⟩, rfl⟩
  · have hkm : k = m := by
      have h5 : decide ((k : Int) < (at_.length : Int)) = false := hs
      have := of_decide_eq_false h5
      omega
    subst hkm
    refine vc_sound hT hm _ ?_
    cbv
    refine .mk (.cons (.slm rfl (.inl ⟨_, _, rfl, rfl⟩) rfl (by simp only [IE.den]; rw [Wl]) (fun e h => by cases h)) (.cons (.refl _) .nil)) rfl
end Go.Proofs.YtaopkjgldokahaaGreatDoor
namespace Go.Proofs.YtaopkjgldokahaaGreatDoor
open Go.RowKit

/-! The keys of join's map: marks. -/
def markK : List IntKind := .i64 :: .i64 :: List.replicate 32 .u8
theorem wf_of {k : IntKind} {x : Int} (h : InR k x) : (Lit.int k x).wf = true := by
  unfold Lit.wf
  obtain ⟨h1, h2⟩ := h
  simp [h1, h2]
theorem keyLits_int {t : Nat} {k : IntKind} (hu : Tryz.prog.underlying t = some (.int k)) (d : Nat) {x : Int} (h : InR k x) : Tryz.prog.keyLits (d + 1) t [.int k x] = some [.int k x] := by
  unfold Program.keyLits
  simp [hu, wf_of h]
theorem mapM_some {α β : Type} {f : α → Option β} : ∀ {l : List α}, (∀ x ∈ l, ∃ y, f x = some y) → ∃ ys, l.mapM f = some ys
  | [], _ => ⟨[], rfl⟩
  | a :: l, h => by
    obtain ⟨y, hy⟩ := h a (by simp)
    obtain ⟨ys, hys⟩ := mapM_some (l := l) fun x hx => h x (by simp [hx])
    exact ⟨y :: ys, by simp [List.mapM_cons, hy, hys]⟩
set_option maxRecDepth 100000 in
theorem cells133 : Tryz.prog.cellsOf 104 = 34 := by kernel_rfl
set_option maxRecDepth 100000 in
theorem cells51 : Tryz.prog.cellsOf 29 = 32 := by kernel_rfl
set_option maxRecDepth 100000 in
theorem cells5 : Tryz.prog.cellsOf 5 = 1 := by kernel_rfl
set_option maxRecDepth 100000 in
theorem cells3 : Tryz.prog.cellsOf 3 = 1 := by kernel_rfl
theorem lits51 (d : Nat) {M : List Int} (hM : M.length = 32) (hr : ∀ x ∈ M, InR .u8 x) : ∃ l, Tryz.prog.keyLits (d + 2) 29 (M.map (Value.int .u8)) = some l := by
  unfold Program.keyLits
  simp only [Tryz.underlying29, cells51, cells5, List.length_map, hM, if_true, Nat.mul_one]
  obtain ⟨ys, hys⟩ := mapM_some (l := List.range 32) (f := fun i => Tryz.prog.keyLits (d + 1) 5 (((M.map (Value.int .u8)).drop i).take 1)) fun i hi => by
    have hi := List.mem_range.1 hi
    have h1 : ((M.map (Value.int .u8)).drop i).take 1 = [Value.int .u8 (M[i]'(by omega))] := by
      rw [List.drop_eq_getElem_cons (by simp; omega)]
      simp
    exact ⟨_, by rw [h1]; exact keyLits_int Tryz.underlying5 d (hr _ (List.getElem_mem _))⟩
  rw [hys]
  exact ⟨_, rfl⟩
theorem zip_rep (k : IntKind) : ∀ (n : Nat) (M : List Int), M.length = n → List.zipWith Value.int (List.replicate n k) M = M.map (Value.int k)
  | 0, [], _ => rfl
  | n + 1, x :: M, h => by
    rw [List.replicate_succ, List.zipWith_cons_cons, zip_rep k n M (by simpa using h)]
    rfl
set_option maxRecDepth 100000 in
theorem keyAt133 : KeyAt Tryz.prog 104 markK := by
  have hl : laidOutB Tryz.prog = true := by kernel_rfl
  have hrow : 104 < Tryz.prog.types.size := of_decide_eq_true (by kernel_rfl)
  have hk : Tryz.prog.keyTypeAt 3 104 = true := by kernel_rfl
  have hkt : Tryz.prog.keyType 104 = true := by kernel_rfl
  have hsz : Tryz.prog.types.size = 174 := by kernel_rfl
  refine ⟨deep_law_laid hl (by decide) hrow hk (by rw [Tryz.underlying104]), fun L hL => ?_⟩
  obtain ⟨h1, h2⟩ := hL
  match L, h1 with
  | x :: y :: M, h1 =>
    have hM : M.length = 32 := by simp [markK] at h1; omega
    have hx : InR .i64 x := h2 0 _ _ rfl rfl
    have hy : InR .i64 y := h2 1 _ _ rfl rfl
    have hr : ∀ z ∈ M, InR .u8 z := fun z hz => by
      obtain ⟨j, hj⟩ := List.getElem?_of_mem hz
      have hj2 := (List.getElem?_eq_some_iff.1 hj).1
      rw [hM] at hj2
      exact h2 (j + 2) .u8 z (by show (List.replicate 32 IntKind.u8)[j]? = some .u8; rw [List.getElem?_replicate, if_pos hj2]) (by simpa using hj)
    have hcs : (keyV markK (x :: y :: M)) = .agg (Value.int .i64 x :: Value.int .i64 y :: M.map (Value.int .u8)).toArray := by
      unfold keyV markK
      rw [List.zipWith_cons_cons, List.zipWith_cons_cons, zip_rep .u8 32 M hM]
    rw [hcs]
    unfold keyOf
    rw [Tryz.underlying104]
    simp only
    rw [if_pos (by rw [hkt]; unfold Value.formed; simp [Tryz.underlying104, cells133, hM])]
    rw [hsz]
    obtain ⟨lt, hlt⟩ := lits51 172 hM hr
    have e1 := keyLits_int (t := 3) Tryz.underlying3 173 hx
    have e2 := keyLits_int (t := 3) Tryz.underlying3 173 hy
    unfold Program.keyLits
    simp only [Tryz.underlying104, Value.cells, cells133]
    rw [if_pos ⟨by simp [hM], by kernel_rfl⟩]
    simp only [List.mapM_cons, List.mapM_nil, List.drop_zero, cells3, cells51, List.take_succ_cons, List.take_zero, List.drop_succ_cons]
    have e3 : List.take 32 (List.map (Value.int .u8) M) = List.map (Value.int .u8) M := List.take_of_length_le (by simp [hM])
    have e1' : Tryz.prog.keyLits 174 3 [Value.int IntKind.i64 x] = some [.int .i64 x] := e1
    have e2' : Tryz.prog.keyLits 174 3 [Value.int IntKind.i64 y] = some [.int .i64 y] := e2
    have e4 : Tryz.prog.keyLits 174 29 (List.map (Value.int .u8) M) = some lt := hlt
    rw [e1', e2', e3, e4]
    exact ⟨_, rfl⟩
end Go.Proofs.YtaopkjgldokahaaGreatDoor
namespace Go.Proofs.YtaopkjgldokahaaGreatDoor
open Go.RowKit

/-! A region, operation by operation. -/
theorem CodeP.ops {P : Program} {cx : Cx} {id : Nat} {ops : Array Oper} {fr : Fr} {H : List Bk} {K : Exit → Fr → List Bk → Prop} (h : OpsP P cx ops ops.toList fr H (K .normal)) : CodeP P cx (.region id ops false) fr H K :=
  ⟨fun B E a w hnt hr => wp_region_list (h.run B E a w hnt.1 hnt.2 hr _ fun fr' H' E' a' w' q1 q2 => ⟨fr', H', E', q1, q2⟩)⟩
theorem OpsP.done {P : Program} {cx : Cx} {ops : Array Oper} {fr : Fr} {H : List Bk} {K : Fr → List Bk → Prop} (h : K fr H) : OpsP P cx ops [] fr H K := ⟨fun B E a w _ _ hr Q hQ => hQ _ _ _ _ _ h hr⟩
theorem OpsP.step {P : Program} {cx : Cx} (hT : cx.T.ok P) {ops : Array Oper} {o : Oper} {os : List Oper} {fr : Fr} {H : List Bk} {K : Fr → List Bk → Prop} (h : vopsH P cx ops o fr H fun fr H => OpsP P cx ops os fr H K) : OpsP P cx ops (o :: os) fr H K :=
  ⟨fun B E a w hnt hh0 hr Q hQ => vopsH_sound hT hnt hh0 h hr fun fr' H' E' a' w' q1 q2 => q1.run B E' a' w' hnt hh0 q2 Q hQ⟩
theorem OpsP.rest {P : Program} {cx : Cx} (hT : cx.T.ok P) {ops : Array Oper} {os : List Oper} {fr : Fr} {H : List Bk} {K : Fr → List Bk → Prop} (h : vops P cx ops os fr H K) : OpsP P cx ops os fr H K :=
  ⟨fun _ _ _ _ hnt hh0 hr _ hQ => vops_sound hT hnt hh0 os h hr hQ⟩
/-- a slice that is built is kept as an own row -/
theorem OpsP.own {P : Program} {cx : Cx} (hT : cx.T.ok P) {ops : Array Oper} {o : Oper} {os : List Oper} {fr : Fr} {H : List Bk} {K : Fr → List Bk → Prop} (hg : o.guard = none) (h : vop P cx true o fr H fun fr H => OpsP P cx ops os fr H K) : OpsP P cx ops (o :: os) fr H K := by
  refine ⟨fun B E a w hnt hh0 hr Q hQ => ?_⟩
  unfold wpList
  rw [if_pos (by unfold Region.wanted; rw [hg])]
  exact .inl (Oper.wp_mono (fun a' w' ⟨fr2, H2, E2, q1, q2⟩ => q1.run B E2 a' w' hnt hh0 q2 Q hQ) (vop_sound hT hnt hh0 h hr (Q := Q)))
end Go.Proofs.YtaopkjgldokahaaGreatDoor
namespace Go.Proofs.YtaopkjgldokahaaGreatDoor
open Go.RowKit

/-! join: who leads (the closure), among five blocks and among seven. -/
theorem below5 {fr : Fr} {X0 A B X3 X4 : Bk} (h : (fr.all fun p => p.2.undr 8 5) = true) (h0 : Bk.below 5 X0 = true) (hA : Bk.below 5 A = true) (hB : Bk.below 5 B = true) (h3 : Bk.below 5 X3 = true) (h4 : Bk.below 5 X4 = true) : belowAll fr [X0, A, B, X3, X4] = true := by
  show ((fr.all fun p => p.2.undr 8 5) && [X0, A, B, X3, X4].all (Bk.below 5)) = true
  rw [h]
  simp [h0, hA, hB, h3, h4]
set_option maxRecDepth 100000 in
set_option maxHeartbeats 4000000 in
theorem lead5 {P : Program} (hP : Tryz.prog = P) (hT : T.ok P) (hm : P.follows .mixedOrders = true) {V : List SightD} {L : List Nat} {rr : Nat → Nat} {X0 X3 X4 : Bk} {i x : Nat} (hx : x < i) (hi : i ≤ V.length) (hV : V.length ≤ 1000000) (hl : L.length = V.length)
    (hL : ∀ a y, a < i → L[a]? = some y → y ≤ a ∧ rr y = rr a ∧ (y = a ↔ rr a = a)) (bX0 : Bk.below 5 X0 = true) (bX3 : Bk.below 5 X3 = true) (bX4 : Bk.below 5 X4 = true) {xd : D} (hxd : xd = .int .i64 (.nat x)) {K : D → List Bk → Prop}
    (hK : K (.int .i64 (.nat (rr x))) [X0, .row 3 1 1 (.map natC L), .cells [.osl 1 1 1 (.lit false) (.lit 0) (.len V)], X3, X4]) :
    CallP P 77 [xd, .ptr 2 1 0] [X0, .row 3 1 1 (.map natC L), .cells [.osl 1 1 1 (.lit false) (.lit 0) (.len V)], X3, X4] K := by
  subst hxd
  refine (CallP.inl hT hm (hP ▸ Tryz.func77) rfl (by kernel_rfl) (rs := [.tmp 3]) rfl (by kernel_rfl) ?_)
  unfold Tryz.f77
  dsimp only
  cbv
  refine CodeP.loopP (X := Nat) (fun y => [(0, .int .i64 (.nat y)), (1, .ptr 2 1 0)]) (fun _ => [X0, .row 3 1 1 (.map natC L), .cells [.osl 1 1 1 (.lit false) (.lit 0) (.len V)], X3, X4]) (fun y => y < i ∧ rr y = rr x) (fun y => y) x ⟨hx, rfl⟩ (fun _ => Nat.le_refl 5) ⟨⟨.refl _, .refl _, trivial⟩, ⟨.refl _, .refl _, .refl _, .refl _, .refl _, trivial⟩, below5 rfl bX0 rfl rfl bX3 bX4⟩ ?_
  intro y ⟨hy, hyr⟩
  refine vc_sound hT hm _ ?_
  cbv
  refine ReqP.mk (by show (0 : Int) ≤ (y : Int) ∧ (y : Int) < (V.length : Int); omega) (fun _ => ?_)
  refine ElemP.mk (by show (0 : Int) ≤ (y : Int) ∧ (y : Int) < (L.length : Int); omega) (fun z hz => ?_)
  replace hz : L[y]? = some z := hz
  have h1 := hL y z hy hz
  cbv
  refine SplitP.mk (fun hs => ?_) (fun hs => ?_)
  · have h2 : z ≠ y := by
      have h3 : ((z : Int) != (y : Int)) = true := hs
      simp at h3
      omega
    refine ReqP.mk (by show (0 : Int) ≤ (y : Int) ∧ (y : Int) < (V.length : Int); omega) (fun _ => ?_)
    refine ElemP.mk (by show (0 : Int) ≤ (y : Int) ∧ (y : Int) < (L.length : Int); omega) (fun z2 hz2 => ?_)
    replace hz2 : L[y]? = some z2 := hz2
    rw [hz] at hz2
    cases hz2
    cbv
    refine BackP.intro z ⟨by omega, by rw [h1.2.1, hyr]⟩ (by show z < y; omega) ⟨⟨.refl _, .refl _, trivial⟩, ⟨.refl _, .refl _, .refl _, .refl _, .refl _, trivial⟩, below5 rfl bX0 rfl rfl bX3 bX4⟩
  · have h2 : z = y := by
      have h3 : ((z : Int) != (y : Int)) = false := hs
      simp at h3
      omega
    have h3 : rr x = y := by rw [← hyr]; exact h1.2.2.1 h2
    rw [h3] at hK
    exact hK
theorem below7 {fr : Fr} {X0 A B X3 X4 X5 X6 : Bk} (h : (fr.all fun p => p.2.undr 8 7) = true) (h0 : Bk.below 7 X0 = true) (hA : Bk.below 7 A = true) (hB : Bk.below 7 B = true) (h3 : Bk.below 7 X3 = true) (h4 : Bk.below 7 X4 = true) (h5 : Bk.below 7 X5 = true) (h6 : Bk.below 7 X6 = true) : belowAll fr [X0, A, B, X3, X4, X5, X6] = true := by
  show ((fr.all fun p => p.2.undr 8 7) && [X0, A, B, X3, X4, X5, X6].all (Bk.below 7)) = true
  rw [h]
  simp [h0, hA, hB, h3, h4, h5, h6]
set_option maxRecDepth 100000 in
set_option maxHeartbeats 4000000 in
theorem lead7 {P : Program} (hP : Tryz.prog = P) (hT : T.ok P) (hm : P.follows .mixedOrders = true) {V : List SightD} {L : List Nat} {rr : Nat → Nat} {X0 X3 X4 X5 X6 : Bk} {i x : Nat} (hx : x < i) (hi : i ≤ V.length) (hV : V.length ≤ 1000000) (hl : L.length = V.length)
    (hL : ∀ a y, a < i → L[a]? = some y → y ≤ a ∧ rr y = rr a ∧ (y = a ↔ rr a = a)) (bX0 : Bk.below 7 X0 = true) (bX3 : Bk.below 7 X3 = true) (bX4 : Bk.below 7 X4 = true) (bX5 : Bk.below 7 X5 = true) (bX6 : Bk.below 7 X6 = true) {xd : D} (hxd : xd = .int .i64 (.nat x)) {K : D → List Bk → Prop}
    (hK : K (.int .i64 (.nat (rr x))) [X0, .row 3 1 1 (.map natC L), .cells [.osl 1 1 1 (.lit false) (.lit 0) (.len V)], X3, X4, X5, X6]) :
    CallP P 77 [xd, .ptr 2 1 0] [X0, .row 3 1 1 (.map natC L), .cells [.osl 1 1 1 (.lit false) (.lit 0) (.len V)], X3, X4, X5, X6] K := by
  subst hxd
  refine (CallP.inl hT hm (hP ▸ Tryz.func77) rfl (by kernel_rfl) (rs := [.tmp 3]) rfl (by kernel_rfl) ?_)
  unfold Tryz.f77
  dsimp only
  cbv
  refine CodeP.loopP (X := Nat) (fun y => [(0, .int .i64 (.nat y)), (1, .ptr 2 1 0)]) (fun _ => [X0, .row 3 1 1 (.map natC L), .cells [.osl 1 1 1 (.lit false) (.lit 0) (.len V)], X3, X4, X5, X6]) (fun y => y < i ∧ rr y = rr x) (fun y => y) x ⟨hx, rfl⟩ (fun _ => Nat.le_refl 7) ⟨⟨.refl _, .refl _, trivial⟩, ⟨.refl _, .refl _, .refl _, .refl _, .refl _, .refl _, .refl _, trivial⟩, below7 rfl bX0 rfl rfl bX3 bX4 bX5 bX6⟩ ?_
  intro y ⟨hy, hyr⟩
  refine vc_sound hT hm _ ?_
  cbv
  refine ReqP.mk (by show (0 : Int) ≤ (y : Int) ∧ (y : Int) < (V.length : Int); omega) (fun _ => ?_)
  refine ElemP.mk (by show (0 : Int) ≤ (y : Int) ∧ (y : Int) < (L.length : Int); omega) (fun z hz => ?_)
  replace hz : L[y]? = some z := hz
  have h1 := hL y z hy hz
  cbv
  refine SplitP.mk (fun hs => ?_) (fun hs => ?_)
  · have h2 : z ≠ y := by
      have h3 : ((z : Int) != (y : Int)) = true := hs
      simp at h3
      omega
    refine ReqP.mk (by show (0 : Int) ≤ (y : Int) ∧ (y : Int) < (V.length : Int); omega) (fun _ => ?_)
    refine ElemP.mk (by show (0 : Int) ≤ (y : Int) ∧ (y : Int) < (L.length : Int); omega) (fun z2 hz2 => ?_)
    replace hz2 : L[y]? = some z2 := hz2
    rw [hz] at hz2
    cases hz2
    cbv
    refine BackP.intro z ⟨by omega, by rw [h1.2.1, hyr]⟩ (by show z < y; omega) ⟨⟨.refl _, .refl _, trivial⟩, ⟨.refl _, .refl _, .refl _, .refl _, .refl _, .refl _, .refl _, trivial⟩, below7 rfl bX0 rfl rfl bX3 bX4 bX5 bX6⟩
  · have h2 : z = y := by
      have h3 : ((z : Int) != (y : Int)) = false := hs
      simp at h3
      omega
    have h3 : rr x = y := by rw [← hyr]; exact h1.2.2.1 h2
    rw [h3] at hK
    exact hK
end Go.Proofs.YtaopkjgldokahaaGreatDoor
namespace Go.Proofs.YtaopkjgldokahaaGreatDoor
open Go.RowKit

/-! join: what its loops hold. -/
inductive MarkD
  | one (v g : Int)
  | two (tk : Nat → Int)
def MarkD.c : MarkD → List D
  | .one v g => .int .i64 (.var v) :: .int .i64 (.var g) :: List.replicate 32 (.int .u8 (.lit 0))
  | .two tk => .int .i64 (.lit (-1)) :: .int .i64 (.lit 0) :: tokC tk
def keyM : MarkD → List Int
  | .one v g => markL v g (List.replicate 32 0)
  | .two tk => markL (-1) 0 (tokL tk)
def marksD (s : SightD) : List MarkD := .one s.verifier s.seen.group :: (if noTok s.token then [] else [.two s.token])
theorem marks_key (s : SightD) : (marksD s).map keyM = marksS s := by
  unfold marksD marksS
  cases noTok s.token <;> rfl
theorem marksD_len (s : SightD) : (marksD s).length ≤ 2 := by
  unfold marksD
  cases noTok s.token <;> simp
def mkV (V : List SightD) (i : Nat) : List (List Int) := if i < V.length then marksS (getS V i) else []
def stJ (V : List SightD) (i j : Nat) : JS (List Int) := goM i (runJ (mkV V) i) ((mkV V i).take j)
theorem goM_app {M : Type} [DecidableEq M] (i : Nat) : ∀ (a b : List M) (s : JS M), goM i s (a ++ b) = goM i (goM i s a) b
  | [], _, _ => rfl
  | m :: a, b, s => goM_app i a b (stepM s i m)
theorem stJ_zero (V : List SightD) (i : Nat) : stJ V i 0 = runJ (mkV V) i := by unfold stJ; rw [List.take_zero]; rfl
theorem stJ_all (V : List SightD) {i j : Nat} (hj : (mkV V i).length ≤ j) : stJ V i j = runJ (mkV V) (i + 1) := by
  unfold stJ
  rw [List.take_of_length_le hj]
  rfl
theorem stJ_step (V : List SightD) {i j : Nat} {m : List Int} (h : (mkV V i)[j]? = some m) : stJ V i (j + 1) = stepM (stJ V i j) i m := by
  unfold stJ
  rw [List.take_add_one, h, goM_app]
  rfl
theorem stJ_inv (V : List SightD) (i j : Nat) : InvI (mkV V) i ((mkV V i).take j) (stJ V i j) := by
  have := InvI.go ((mkV V i).take j) (runJ_inv (mkV V) i)
  rw [List.nil_append] at this
  exact this
theorem runJ_above {M : Type} [DecidableEq M] (marks : Nat → List M) : ∀ i a, i ≤ a → (runJ marks i).l a = a
  | 0, _, _ => rfl
  | i + 1, a, h => by
    have := InvI.go (marks i) (runJ_inv marks i)
    rw [List.nil_append] at this
    exact this.above a (by omega)
theorem stJ_above (V : List SightD) (i j a : Nat) (h : i < a) : (stJ V i j).l a = a := (stJ_inv V i j).above a h
/-- the row of leaders -/
def rowJ (V : List SightD) (i j n : Nat) : List Nat := (List.range V.length).map fun a => if a < n then (stJ V i j).l a else 0
theorem rowJ_len (V : List SightD) (i j n : Nat) : (rowJ V i j n).length = V.length := by simp [rowJ]
theorem rowJ_start (V : List SightD) : rowJ V 0 0 0 = List.replicate V.length 0 := by simp [rowJ, List.map_const']
theorem rowJ_own (V : List SightD) (i : Nat) : (rowJ V i 0 i).set i i = rowJ V i 0 (i + 1) := by
  have hi : (stJ V i 0).l i = i := by rw [stJ_zero]; exact runJ_above _ i i (Nat.le_refl _)
  have := set_range (m := V.length) (k := i) (f := fun a => if a < i then (stJ V i 0).l a else 0) (g := fun a => if a < i + 1 then (stJ V i 0).l a else 0) (fun a ha => by
    by_cases q : a < i
    · rw [if_pos q, if_pos (by omega)]
    · rw [if_neg q, if_neg (by omega)])
  rw [if_pos (by omega), hi] at this
  exact this
theorem rowJ_next (V : List SightD) {i j : Nat} (hj : (mkV V i).length ≤ j) : rowJ V i j (i + 1) = rowJ V (i + 1) 0 (i + 1) := by
  unfold rowJ
  rw [stJ_all V hj, stJ_zero]
theorem rowJ_lead {V : List SightD} {i j n a y : Nat} (ha : a < n) (h : (rowJ V i j n)[a]? = some y) : y ≤ a ∧ (stJ V i j).r y = (stJ V i j).r a ∧ (y = a ↔ (stJ V i j).r a = a) := by
  obtain ⟨_, rfl⟩ := range_get h
  rw [if_pos ha]
  have hl := (stJ_inv V i j).lead
  exact ⟨hl.le a, hl.same a, hl.top a⟩
/-- the map of marks -/
def mapJ (V : List SightD) (i j : Nat) (M : List Int) : Option Int := match (stJ V i j).first M with | some k => some (k : Int) | none => none
theorem mapJ_zero (V : List SightD) (M : List Int) : mapJ V 0 0 M = none := rfl
theorem mapJ_next (V : List SightD) {i j : Nat} (hj : (mkV V i).length ≤ j) (M : List Int) : mapJ V i j M = mapJ V (i + 1) 0 M := by
  unfold mapJ
  rw [stJ_all V hj, stJ_zero]
theorem stepJ_some {V : List SightD} {i j : Nat} {m : List Int} {y : Int} (h : (mkV V i)[j]? = some m) (hy : mapJ V i j m = some y) :
    ∃ k : Nat, y = (k : Int) ∧ k < i + 1 ∧ (rowJ V i j (i + 1)).set (max ((stJ V i j).r k) ((stJ V i j).r i)) (min ((stJ V i j).r k) ((stJ V i j).r i)) = rowJ V i (j + 1) (i + 1) ∧ (∀ M, mapJ V i (j + 1) M = mapJ V i j M) ∧ max ((stJ V i j).r k) ((stJ V i j).r i) < i + 1 := by
  unfold mapJ at hy
  split at hy
  · next k hk =>
    simp only [Option.some.injEq] at hy
    have hi := stJ_inv V i j
    have hki : k < i + 1 := by rcases hi.some m k hk with ⟨q, _⟩ | ⟨q, _⟩ <;> omega
    have hst : stJ V i (j + 1) = ⟨putN (stJ V i j).l (max ((stJ V i j).r k) ((stJ V i j).r i)) (min ((stJ V i j).r k) ((stJ V i j).r i)), mergeR (stJ V i j).r k i, (stJ V i j).first⟩ := by
      rw [stJ_step V h]
      unfold stepM
      rw [hk]
    have h1 := hi.led.le k
    have h2 := hi.led.le i
    refine ⟨k, hy.symm, hki, ?_, fun M => ?_, by omega⟩
    · unfold rowJ
      rw [hst]
      have := set_range (m := V.length) (k := max ((stJ V i j).r k) ((stJ V i j).r i)) (f := fun a => if a < i + 1 then (stJ V i j).l a else 0) (g := fun a => if a < i + 1 then putN (stJ V i j).l (max ((stJ V i j).r k) ((stJ V i j).r i)) (min ((stJ V i j).r k) ((stJ V i j).r i)) a else 0) (fun a ha => by
        unfold putN
        rw [if_neg ha])
      rw [if_pos (by omega)] at this
      rw [← this]
      congr 1
      simp [putN]
    · unfold mapJ
      rw [hst]
  · cases hy
theorem stepJ_none {V : List SightD} {i j : Nat} {m : List Int} (h : (mkV V i)[j]? = some m) (hy : mapJ V i j m = none) :
    rowJ V i (j + 1) (i + 1) = rowJ V i j (i + 1) ∧ ∀ M, mapJ V i (j + 1) M = if M = m then some (i : Int) else mapJ V i j M := by
  unfold mapJ at hy
  split at hy
  · cases hy
  · next hn =>
    have hst : stJ V i (j + 1) = ⟨(stJ V i j).l, (stJ V i j).r, fun x => if x = m then some i else (stJ V i j).first x⟩ := by
      rw [stJ_step V h]
      unfold stepM
      rw [hn]
    refine ⟨by unfold rowJ; rw [hst], fun M => ?_⟩
    unfold mapJ
    rw [hst]
    by_cases e : M = m
    · simp [e]
    · simp [e]
theorem lead_stJ (V : List SightD) : (stJ V V.length 0).r = leadOf V := by
  rw [stJ_zero]
  rfl
end Go.Proofs.YtaopkjgldokahaaGreatDoor
namespace Go.Proofs.YtaopkjgldokahaaGreatDoor
open Go.RowKit

/-! join: the walk. -/
theorem dsEq_refl : ∀ l : List D, DsEq l l
  | [] => .nil
  | _ :: l => .cons (.refl _) (dsEq_refl l)
theorem below6 {fr : Fr} {X0 A B X3 X4 X5 : Bk} (h : (fr.all fun p => p.2.undr 8 6) = true) (h0 : Bk.below 6 X0 = true) (hA : Bk.below 6 A = true) (hB : Bk.below 6 B = true) (h3 : Bk.below 6 X3 = true) (h4 : Bk.below 6 X4 = true) (h5 : Bk.below 6 X5 = true) : belowAll fr [X0, A, B, X3, X4, X5,] = true := by
  show ((fr.all fun p => p.2.undr 8 6) && [X0, A, B, X3, X4, X5,].all (Bk.below 6)) = true
  rw [h]
  simp [h0, hA, hB, h3, h4, h5]
set_option maxRecDepth 100000 in
set_option maxHeartbeats 4000000 in
theorem lead6 {P : Program} (hP : Tryz.prog = P) (hT : T.ok P) (hm : P.follows .mixedOrders = true) {V : List SightD} {L : List Nat} {rr : Nat → Nat} {X0 X3 X4 X5 : Bk} {i x : Nat} (hx : x < i) (hi : i ≤ V.length) (hV : V.length ≤ 1000000) (hl : L.length = V.length)
    (hL : ∀ a y, a < i → L[a]? = some y → y ≤ a ∧ rr y = rr a ∧ (y = a ↔ rr a = a)) (bX0 : Bk.below 6 X0 = true) (bX3 : Bk.below 6 X3 = true) (bX4 : Bk.below 6 X4 = true) (bX5 : Bk.below 6 X5 = true) {xd : D} (hxd : xd = .int .i64 (.nat x)) {K : D → List Bk → Prop}
    (hK : K (.int .i64 (.nat (rr x))) [X0, .row 3 1 1 (.map natC L), .cells [.osl 1 1 1 (.lit false) (.lit 0) (.len V)], X3, X4, X5,]) :
    CallP P 77 [xd, .ptr 2 1 0] [X0, .row 3 1 1 (.map natC L), .cells [.osl 1 1 1 (.lit false) (.lit 0) (.len V)], X3, X4, X5,] K := by
  subst hxd
  refine (CallP.inl hT hm (hP ▸ Tryz.func77) rfl (by kernel_rfl) (rs := [.tmp 3]) rfl (by kernel_rfl) ?_)
  unfold Tryz.f77
  dsimp only
  cbv
  refine CodeP.loopP (X := Nat) (fun y => [(0, .int .i64 (.nat y)), (1, .ptr 2 1 0)]) (fun _ => [X0, .row 3 1 1 (.map natC L), .cells [.osl 1 1 1 (.lit false) (.lit 0) (.len V)], X3, X4, X5,]) (fun y => y < i ∧ rr y = rr x) (fun y => y) x ⟨hx, rfl⟩ (fun _ => Nat.le_refl 6) ⟨⟨.refl _, .refl _, trivial⟩, ⟨.refl _, .refl _, .refl _, .refl _, .refl _, .refl _, trivial⟩, below6 rfl bX0 rfl rfl bX3 bX4 bX5⟩ ?_
  intro y ⟨hy, hyr⟩
  refine vc_sound hT hm _ ?_
  cbv
  refine ReqP.mk (by show (0 : Int) ≤ (y : Int) ∧ (y : Int) < (V.length : Int); omega) (fun _ => ?_)
  refine ElemP.mk (by show (0 : Int) ≤ (y : Int) ∧ (y : Int) < (L.length : Int); omega) (fun z hz => ?_)
  replace hz : L[y]? = some z := hz
  have h1 := hL y z hy hz
  cbv
  refine SplitP.mk (fun hs => ?_) (fun hs => ?_)
  · have h2 : z ≠ y := by
      have h3 : ((z : Int) != (y : Int)) = true := hs
      simp at h3
      omega
    refine ReqP.mk (by show (0 : Int) ≤ (y : Int) ∧ (y : Int) < (V.length : Int); omega) (fun _ => ?_)
    refine ElemP.mk (by show (0 : Int) ≤ (y : Int) ∧ (y : Int) < (L.length : Int); omega) (fun z2 hz2 => ?_)
    replace hz2 : L[y]? = some z2 := hz2
    rw [hz] at hz2
    cases hz2
    cbv
    refine BackP.intro z ⟨by omega, by rw [h1.2.1, hyr]⟩ (by show z < y; omega) ⟨⟨.refl _, .refl _, trivial⟩, ⟨.refl _, .refl _, .refl _, .refl _, .refl _, .refl _, trivial⟩, below6 rfl bX0 rfl rfl bX3 bX4 bX5⟩
  · have h2 : z = y := by
      have h3 : ((z : Int) != (y : Int)) = false := hs
      simp at h3
      omega
    have h3 : rr x = y := by rw [← hyr]; exact h1.2.2.1 h2
    rw [h3] at hK
    exact hK
def MarkD.e : MarkD → List IE
  | .one v g => .var v :: .var g :: List.replicate 32 (.lit 0)
  | .two tk => .lit (-1) :: .lit 0 :: (List.range 32).map fun i => .var (tk i)
theorem mkV_get {V : List SightD} {i : Nat} {s : SightD} (h : V[i]? = some s) : ∀ j : Nat, (mkV V i)[j]? = ((marksD s)[j]?).map keyM := fun j => by
  have h1 := (List.getElem?_eq_some_iff.1 h).1
  unfold mkV
  rw [if_pos h1, show getS V i = s by simp [getS, h], ← marks_key, List.getElem?_map]
set_option maxRecDepth 100000 in
set_option maxHeartbeats 4000000 in
theorem join_pure (l : List SightD) (c : List Int) (nl nc : Option BE) (hc : c.length < 9223372036854775807) (hl : l.length ≤ 1000) : Pure Tryz.prog 66 [.slm 37 nl SightD.c l, .slm 1 nc intC c] (.tup [.slm 4 none SeenD.c (viewL c l), .int .i64 (.nat (manyL c l))]) := by
  have hC := fun v => Contains_pure c nc v hc
  obtain ⟨h, hh⟩ : ∃ f : Int → Bool, f = fun v => decide (v ∈ c) := ⟨_, rfl⟩
  have hC' : ∀ v, Pure Tryz.prog 76 [.slm 1 nc intC c, i64 v] (boolD (h v)) := fun v => by rw [hh]; exact hC v
  obtain ⟨Vt, hVt⟩ : ∃ f : Nat → List SightD, f = fun k => sightsL31 c (l.take k) := ⟨_, rfl⟩
  have v0 : Vt 0 = [] := by rw [hVt]; rfl
  have v1 : ∀ k s, l[k]? = some s → h s.verifier = true → Vt (k + 1) = Vt k ++ [s] := fun k s hs hv => by
    rw [hh] at hv
    rw [hVt]
    unfold sightsL31
    simp only
    rw [List.take_add_one, hs, List.filter_append]
    simp [of_decide_eq_true hv]
  have v2 : ∀ k s, l[k]? = some s → h s.verifier = false → Vt (k + 1) = Vt k := fun k s hs hv => by
    rw [hh] at hv
    rw [hVt]
    unfold sightsL31
    simp only
    rw [List.take_add_one, hs, List.filter_append]
    simp [of_decide_eq_false hv]
  have vl : ∀ k, (Vt k).length ≤ k := fun k => by
    rw [hVt]
    unfold sightsL31
    have := List.length_filter_le (fun s : SightD => decide (s.verifier ∈ c)) (l.take k)
    simp only
    rw [List.length_take] at this
    omega
  obtain ⟨n, hn⟩ : ∃ n : Nat, n = l.length := ⟨_, rfl⟩
  unfold viewL manyL
  obtain ⟨V, hV⟩ : ∃ x, x = sightsL31 c l := ⟨_, rfl⟩
  rw [← hV]
  have ve : Vt n = V := by rw [hVt, hn, hV]; simp only; rw [List.take_of_length_le (Nat.le_refl _)]
  have hm1 : V.length ≤ 1000 := by have := vl n; rw [ve] at this; omega
  clear hVt hV hh hC
  have hKA := keyAt133
  obtain ⟨m, hm'⟩ : ∃ x : Nat, x = V.length := ⟨_, rfl⟩
  have e : (.tup [.slm 4 none SeenD.c ((List.range V.length).map (viewAt V)), .int .i64 (.nat (cntR (leadOf V) V.length))] : D) = retD [.slm 4 none SeenD.c ((List.range V.length).map (viewAt V)), .int .i64 (.nat (cntR (leadOf V) V.length))] := rfl
  rw [e]
  obtain ⟨r, hr⟩ : ∃ f, f = leadOf V := ⟨_, rfl⟩
  have hled := lead_led V
  rw [← hr] at hled ⊢
  obtain ⟨W, hW⟩ : ∃ f : Nat → List SeenD, f = fun k => (List.range k).map (viewAt V) := ⟨_, rfl⟩
  obtain ⟨cn, hcn⟩ : ∃ f : Nat → Nat, f = cntR r := ⟨_, rfl⟩
  rw [show (List.range V.length).map (viewAt V) = W V.length by rw [hW], show cntR r V.length = cn V.length by rw [hcn], ← hm']
  obtain ⟨RJ, hRJ⟩ : ∃ f, f = rowJ V := ⟨_, rfl⟩
  obtain ⟨MJ, hMJ⟩ : ∃ f, f = mapJ V := ⟨_, rfl⟩
  obtain ⟨R, hR⟩ : ∃ f : Nat → Nat → Nat → Nat, f = fun i j => (stJ V i j).r := ⟨_, rfl⟩
  have RJ0 : RJ 0 0 0 = List.replicate V.length 0 := by rw [hRJ]; exact rowJ_start V
  have RJo : ∀ i, (RJ i 0 i).set i i = RJ i 0 (i + 1) := by rw [hRJ]; exact rowJ_own V
  have RJl : ∀ i j n, (RJ i j n).length = V.length := by rw [hRJ]; exact rowJ_len V
  have MJ0 : ∀ L, none = MJ 0 0 L := by rw [hMJ]; exact fun L => (mapJ_zero V L).symm
  replace MJ0 : ∀ L, MJ 0 0 L = none := fun L => (MJ0 L).symm
  have RJn : ∀ i j, (mkV V i).length ≤ j → RJ i j (i + 1) = RJ (i + 1) 0 (i + 1) := by rw [hRJ]; exact fun i j h => rowJ_next V h
  have MJn : ∀ i j, (mkV V i).length ≤ j → ∀ L, MJ i j L = MJ (i + 1) 0 L := by rw [hMJ]; exact fun i j h => mapJ_next V h
  have RJL : ∀ i j n a y, a < n → (RJ i j n)[a]? = some y → y ≤ a ∧ R i j y = R i j a ∧ (y = a ↔ R i j a = a) := by rw [hRJ, hR]; exact fun i j n a y h1 h2 => rowJ_lead h1 h2
  have stS : ∀ i j (mm : List Int) (y : Int), (mkV V i)[j]? = some mm → MJ i j mm = some y → ∃ k : Nat, y = (k : Int) ∧ k < i + 1 ∧ (RJ i j (i + 1)).set (max (R i j k) (R i j i)) (min (R i j k) (R i j i)) = RJ i (j + 1) (i + 1) ∧ (∀ M, MJ i (j + 1) M = MJ i j M) ∧ max (R i j k) (R i j i) < i + 1 := by rw [hRJ, hMJ, hR]; exact fun i j mm y h1 h2 => stepJ_some h1 h2
  have stN : ∀ i j (mm : List Int), (mkV V i)[j]? = some mm → MJ i j mm = none → RJ i (j + 1) (i + 1) = RJ i j (i + 1) ∧ ∀ M, MJ i (j + 1) M = if M = mm then some (i : Int) else MJ i j M := by rw [hRJ, hMJ]; exact fun i j mm h1 h2 => stepJ_none h1 h2
  have hRm : ∀ a, R m 0 a = r a := fun a => by rw [hR, hr, hm', ← lead_stJ]
  have cn0 : (0 : Int) = ((cn 0 : Nat) : Int) := by rw [hcn]; rfl
  have cn00 : cn 0 = 0 := by rw [hcn]; rfl
  have cns : ∀ k, cn (k + 1) = if r k = k then cn k + 1 else cn k := fun k => by rw [hcn]; exact cntR_succ r k
  have cnl : ∀ k, cn k ≤ k := fun k => by rw [hcn]; exact cntR_le r k
  have W0 : W 0 = [] := by rw [hW]; rfl
  have Wl : ∀ k, (W k).length = k := fun k => by rw [hW]; simp
  have Ws : ∀ k s, V[k]? = some s → W (k + 1) = W k ++ [{ s.seen with group := (cn (r k) : Int) }] := fun k s h => by
    rw [hW, hcn]
    simp only
    rw [List.range_succ, List.map_append, List.map_singleton]
    unfold viewAt
    rw [show getS V k = s by simp [getS, h], hr]
  obtain ⟨NM, hNM⟩ : ∃ f : Nat → Int → Option Int, f = fun k c => if 0 ≤ c ∧ c.toNat < k ∧ r c.toNat = c.toNat then some (cn c.toNat : Int) else none := ⟨_, rfl⟩
  have NM0 : ∀ c, NM 0 c = none := fun c => by rw [hNM]; simp
  have NM1 : ∀ k t, t < k → r t = t → NM k (t : Int) = some (cn t : Int) := fun k t h1 h2 => by rw [hNM]; simp [h1, h2]
  have NM2 : ∀ k, NM k (k : Int) = none := fun k => by rw [hNM]; simp
  have NM3 : ∀ k, r k = k → ∀ c, NM (k + 1) c = if c = (k : Int) then some (cn k : Int) else NM k c := fun k h c => by
    rw [hNM]
    simp only
    by_cases e : c = (k : Int)
    · subst e
      simp [h]
    · rw [if_neg e]
      by_cases q : 0 ≤ c ∧ c.toNat < k ∧ r c.toNat = c.toNat
      · rw [if_pos q, if_pos ⟨q.1, by omega, q.2.2⟩]
      · rw [if_neg q, if_neg fun z => q ⟨z.1, by omega, z.2.2⟩]
  have NM4 : ∀ k, ¬ r k = k → ∀ c, NM (k + 1) c = NM k c := fun k h c => by
    rw [hNM]
    simp only
    by_cases q : 0 ≤ c ∧ c.toNat < k ∧ r c.toNat = c.toNat
    · rw [if_pos q, if_pos ⟨q.1, by omega, q.2.2⟩]
    · rw [if_neg q, if_neg fun z => q ⟨z.1, by
        have h1 := z.2.1
        rcases Nat.lt_or_ge c.toNat k with h2 | h2
        · exact h2
        · have h3 : c.toNat = k := by omega
          rw [h3] at z
          exact absurd z.2.2 h, z.2.2⟩]
  clear hNM hW hcn
  refine Pure.introC T_ok Tryz.func66 rfl (by kernel_rfl) (rs := [.tmp 4, .tmp 5]) rfl (by kernel_rfl) ?_
  generalize hP : Tryz.prog = P at *
  have hT : T.ok P := hP ▸ T_ok
  have hm : P.follows .mixedOrders = true := hP ▸ follows
  unfold Tryz.f66
  dsimp only
  refine CodeP.seq (vc_sound hT hm _ ?_)
  cbv
  refine CodeP.seq (vc_sound hT hm _ ?_)
  cbv
  refine CodeP.keep [0, 1, 4, 5, 6] ?_
  refine CodeP.seqTo [(4, .nils), (5, .int .i64 (.nat 0)), (6, .slm 37 none SightD.c V)] [.dead] (Nat.zero_le _) ?_ ?_
  · refine CodeP.virt 6 34 37 rfl ?_
    refine vc_sound hT hm _ ?_
    cbv
    refine CodeP.loopm hT hm (X := Nat × Nat × List SightD) (fun x => [(29, .int .i64 (.nat x.1)), (6, .osl 37 0 (x.2.1 + 1) (.cmp .eql (.nat x.2.1) (.lit 0)) (.lit 0) (.nat x.2.1))]) (fun x => [.row 34 37 (x.2.1 + 1) (.map SightD.c x.2.2)]) (fun x => x.1 ≤ n ∧ x.2.2.length = x.2.1 ∧ x.2.2 = Vt x.1) (fun x => n - x.1) (0, 0, []) ⟨Nat.zero_le _, rfl, v0.symm⟩ (fun _ => Nat.zero_le _) ⟨?_, ?_, rfl⟩ ?_
    · refine ⟨.nat0, osl_start, ?_⟩
      (cbv; (repeat' (first | exact SnD.refl _ | exact trivial | exact SnD.nat0 | refine And.intro ?_ ?_)))
    · exact ⟨.row rfl, trivial⟩
    intro ⟨k, q, A⟩ ⟨hk, hq, hA⟩
    simp only at hk hq hA
    cbv
    refine SplitP.mk (fun hs => ?_) (fun hs => ?_)
    · have hkn : k < l.length := by
        have h5 : decide ((k : Int) < (l.length : Int)) = true := hs
        have := of_decide_eq_true h5
        omega
      clear hs
      refine ElemP.mk (by show (0 : Int) ≤ (k : Int) ∧ (k : Int) < (l.length : Int); omega) (fun s hx => ?_)
      replace hx : l[k]? = some s := hx
      have g1 := v1 k s hx
      have g2 := v2 k s hx
      have g3 := vl k
      obtain ⟨vv, tk, ⟨y1, y2, y3, y4, y5, y6⟩⟩ := s
      cbv
      refine CallP.pure _ (hC' vv) rfl ?_
      cbv
      refine SplitP.mk (fun h1 => ?_) (fun h1 => ?_)
      · have h2 : h vv = true := h1
        refine ReqP.mk (app_ok hq (by rw [← hq, hA]; omega) (fun _ => rfl) rfl (by decide)) (fun _ => ?_)
        refine BackP.intro (k + 1, q + 1, A ++ [⟨vv, tk, ⟨y1, y2, y3, y4, y5, y6⟩⟩]) ⟨by simp only; omega, by simp only; rw [List.length_append, hq]; rfl, by simp only; rw [g1 h2, hA]⟩ (by show n - (k + 1) < n - k; omega) ⟨?_, ⟨row_app (⟨vv, tk, ⟨y1, y2, y3, y4, y5, y6⟩⟩ : SightD) rfl (dsEq_refl _), trivial⟩, rfl⟩
        refine ⟨.inc (by omega), osl_step q, ?_⟩
        (cbv; (repeat' (first | exact SnD.refl _ | exact trivial | exact SnD.nat0 | refine And.intro ?_ ?_)))
      · have h2 : h vv = false := h1
        refine BackP.intro (k + 1, q, A) ⟨by simp only; omega, hq, by simp only; rw [g2 h2]; exact hA⟩ (by show n - (k + 1) < n - k; omega) ⟨?_, ⟨.refl _, trivial⟩, rfl⟩
        refine ⟨.inc (by omega), .refl _, ?_⟩
        (cbv; (repeat' (first | exact SnD.refl _ | exact trivial | exact SnD.nat0 | refine And.intro ?_ ?_)))
    · have hkn : k = n := by
        have h5 : decide ((k : Int) < (l.length : Int)) = false := hs
        have := of_decide_eq_false h5
        omega
      subst hkn
      rw [ve] at hA
      subst hA
      refine ⟨⟨.refl _, .eq (.int rfl), .slm rfl (.inl ⟨_, _, rfl, rfl⟩) rfl (by simp only [IE.den]; rw [hq]) (fun e h => by cases h), trivial⟩, ⟨.dead _, trivial⟩, rfl⟩
  refine CodeP.seq (vc_sound hT hm _ ?_)
  cbv
  refine ReqP.mk (by show (0 : Int) ≤ (V.length : Int) ∧ (V.length : Int) ≤ (V.length : Int) ∧ (V.length : Int) ≤ 9223372036854775807 ∧ (8 : Int) * (V.length : Int) ≤ 281474976710656; omega) (fun _ => ?_)
  refine CodeP.keep [4, 5, 6, 9] ?_
  refine CodeP.seq (vc_sound hT hm _ ?_)
  cbv
  refine CodeP.seq (vc_sound hT hm _ ?_)
  cbv
  refine CodeP.seq (vc_sound hT hm _ ?_)
  cbv
  refine CodeP.seqTo [(4, .nils), (5, .int .i64 (.nat 0)), (6, .slm 37 none SightD.c V), (9, .ptr 2 1 0), (10, .fn (.func 77) [] [.ptr 2 1 0])]
    [.dead, .row 3 1 1 (.map natC (RJ m 0 m)), .cells [.osl 1 1 1 (.lit false) (.lit 0) (.len V)]] (Nat.zero_le _) ?_ ?_
  · refine CodeP.seq (vc_sound hT hm _ ?_)
    cbv
    refine CodeP.keep [4, 5, 6, 9, 10, 11, 47, 48, 49] (CodeP.block ?_)
    refine CodeP.loopP (X := Nat × Nat) (fun x => [(4, .nils), (5, .int .i64 (.nat 0)), (6, .slm 37 none SightD.c V), (9, .ptr 2 1 0), (10, .fn (.func 77) [] [.ptr 2 1 0]), (11, .mapr 3), (47, .slm 37 none SightD.c V), (48, .int .i64 (.len V)), (49, .int .i64 (.nat x.1))])
      (fun x => [.dead, .row 3 1 1 (.map natC (RJ x.1 0 x.1)), .cells [.osl 1 1 1 (.lit false) (.lit 0) (.len V)], .mpk markK .i64 (MJ x.1 0) (.nat x.2)])
      (fun x => x.1 ≤ m ∧ x.2 ≤ 2 * x.1) (fun x => m - x.1) (0, 0) ⟨Nat.zero_le _, Nat.zero_le _⟩ (fun _ => Nat.zero_le _) ⟨⟨.refl _, .refl _, .refl _, .refl _, .refl _, .refl _, .refl _, .refl _, .nat0, trivial⟩, ⟨.dead _, rep_rowN RJ0 rfl, .refl _, .mpk0 MJ0 rfl, trivial⟩, rfl⟩ ?_
    intro ⟨i, q⟩ ⟨hi, hq⟩
    dsimp only
    replace hi : i ≤ m := hi
    replace hq : q ≤ 2 * i := hq
    refine CodeP.seq (vc_sound hT hm _ ?_)
    cbv
    refine CodeP.seq (vc_sound hT hm _ ?_)
    cbv
    refine SplitP.mk (fun hs => ?_) (fun hs => ?_)
    · have hkn : i < V.length := by
        have h5 : decide ((i : Int) < (V.length : Int)) = true := hs
        have := of_decide_eq_true h5
        omega
      clear hs
      refine CodeP.seq (CodeP.block ?_)
      refine CodeP.seq (vc_sound hT hm _ ?_)
      cbv
      refine ElemP.mk (by show (0 : Int) ≤ (i : Int) ∧ (i : Int) < (V.length : Int); omega) (fun s hx => ?_)
      replace hx : V[i]? = some s := hx
      have hk := mkV_get hx
      obtain ⟨md, hmd⟩ : ∃ x, x = marksD s := ⟨_, rfl⟩
      rw [← hmd] at hk
      obtain ⟨nt, hnt⟩ : ∃ x, x = noTok s.token := ⟨_, rfl⟩
      unfold marksD at hmd
      rw [← hnt] at hmd
      obtain ⟨vv, tk, ⟨y1, y2, y3, y4, y5, y6⟩⟩ := s
      simp only at hmd hnt
      cbv
      refine CodeP.seqTo [(4, .nils), (5, .int .i64 (.nat 0)), (6, .slm 37 none SightD.c V), (9, .ptr 2 1 0), (10, .fn (.func 77) [] [.ptr 2 1 0]), (11, .mapr 3), (12, .int .i64 (.nat i)), (13, .ptr 4 1 0), (47, .slm 37 none SightD.c V), (48, .int .i64 (.len V)), (49, .int .i64 (.nat i))]
        [.dead, .row 3 1 1 (.map natC (RJ i 0 (i + 1))), .cells [.osl 1 1 1 (.lit false) (.lit 0) (.len V)], .mpk markK .i64 (MJ i 0) (.nat q), .cells (SightD.c ⟨vv, tk, ⟨y1, y2, y3, y4, y5, y6⟩⟩)] (Nat.zero_le _) (vc_sound hT hm _ ?_) ?_
      · cbv
        refine ReqP.mk (by show (0 : Int) ≤ (i : Int) ∧ (i : Int) < (V.length : Int); omega) (fun _ => ?_)
        refine ReqP.mk (by show (i : Int).toNat < (List.map natC (RJ i 0 i)).length; rw [List.length_map, RJl]; omega) (fun _ => ?_)
        exact ⟨⟨.refl _, .refl _, .refl _, .refl _, .refl _, .refl _, .refl _, .refl _, .refl _, .refl _, .refl _, trivial⟩, ⟨.dead _, upd_rowN (k := i) (v := i) rfl rfl (RJo i), .refl _, .refl _, .refl _, trivial⟩, rfl⟩
      refine CodeP.seq (CodeP.ops ?_)
      refine OpsP.step hT ?_
      cbv
      refine OpsP.step hT ?_
      cbv
      refine OpsP.step hT ?_
      cbv
      refine OpsP.step hT ?_
      cbv
      refine OpsP.step hT ?_
      cbv
      refine OpsP.step hT ?_
      cbv
      refine OpsP.own hT rfl ?_
      cbv
      refine OpsP.rest hT ?_
      cbv
      refine CodeP.seqTo [(4, .nils), (5, .int .i64 (.nat 0)), (6, .slm 37 none SightD.c V), (9, .ptr 2 1 0), (10, .fn (.func 77) [] [.ptr 2 1 0]), (11, .mapr 3), (12, .int .i64 (.nat i)), (14, .slm 34 none MarkD.c md), (47, .slm 37 none SightD.c V), (48, .int .i64 (.len V)), (49, .int .i64 (.nat i))]
        [.dead, .row 3 1 1 (.map natC (RJ i 0 (i + 1))), .cells [.osl 1 1 1 (.lit false) (.lit 0) (.len V)], .mpk markK .i64 (MJ i 0) (.nat q)] (Nat.zero_le _) (vc_sound hT hm _ ?_) ?_
      · cbv
        refine SplitP.mk (fun hs => ?_) (fun hs => ?_)
        · have h1 : nt = false := by
            have h2 : (!noTok tk) = true := (congrArg (fun b => !b) (tok_zero (f := tk) rfl)).symm.trans hs
            rw [← hnt] at h2
            simpa using h2
          rw [h1] at hmd
          subst hmd
          exact ⟨⟨.refl _, .refl _, .refl _, .refl _, .refl _, .refl _, .refl _, .slm rfl (.inl ⟨_, _, rfl, rfl⟩) rfl rfl (fun e h => by cases h), .refl _, .refl _, .refl _, trivial⟩, ⟨.dead _, .refl _, .refl _, .refl _, trivial⟩, rfl⟩
        · have h1 : nt = true := by
            have h2 : (!noTok tk) = false := (congrArg (fun b => !b) (tok_zero (f := tk) rfl)).symm.trans hs
            rw [← hnt] at h2
            simpa using h2
          rw [h1] at hmd
          subst hmd
          exact ⟨⟨.refl _, .refl _, .refl _, .refl _, .refl _, .refl _, .refl _, .slm rfl (.inl ⟨_, _, rfl, rfl⟩) rfl rfl (fun e h => by cases h), .refl _, .refl _, .refl _, trivial⟩, ⟨.dead _, .refl _, .refl _, .refl _, trivial⟩, rfl⟩
      obtain ⟨p, hp⟩ : ∃ x : Nat, x = md.length := ⟨_, rfl⟩
      have hkp : (mkV V i).length ≤ p := by
        have := hk p
        rw [hp, List.getElem?_eq_none (Nat.le_refl _)] at this
        simpa [hp] using this
      have hRn := RJn i p hkp
      have hMn := MJn i p hkp
      have hst : ∀ j x y, md[j]? = some x → MJ i j (keyM x) = some y → _ := fun j x y h1 h2 => stS i j (keyM x) y (by rw [hk, h1]; rfl) h2
      have hsn : ∀ j x, md[j]? = some x → MJ i j (keyM x) = none → _ := fun j x h1 h2 => stN i j (keyM x) (by rw [hk, h1]; rfl) h2
      have hp2 : p ≤ 2 := by rw [hp, hmd]; split <;> simp
      clear hk hmd hkp hx
      refine CodeP.seq (vc_sound hT hm _ ?_)
      cbv
      refine CodeP.block ?_
      refine CodeP.loopP (X := Nat × Nat) (fun x => [(4, .nils), (5, .int .i64 (.nat 0)), (6, .slm 37 none SightD.c V), (9, .ptr 2 1 0), (10, .fn (.func 77) [] [.ptr 2 1 0]), (11, .mapr 3), (12, .int .i64 (.nat i)), (47, .slm 37 none SightD.c V), (48, .int .i64 (.len V)), (49, .int .i64 (.nat i)), (75, .slm 34 none MarkD.c md), (76, .int .i64 (.len md)), (77, .int .i64 (.nat x.1))])
        (fun x => [.dead, .row 3 1 1 (.map natC (RJ i x.1 (i + 1))), .cells [.osl 1 1 1 (.lit false) (.lit 0) (.len V)], .mpk markK .i64 (MJ i x.1) (.nat x.2)])
        (fun x => x.1 ≤ p ∧ x.2 ≤ 2 * i + x.1) (fun x => p - x.1) (0, q) ⟨Nat.zero_le _, hq⟩ (fun _ => Nat.zero_le _) ⟨⟨.refl _, .refl _, .refl _, .refl _, .refl _, .refl _, .refl _, .refl _, .refl _, .refl _, .refl _, .refl _, .nat0, trivial⟩, ⟨.dead _, .refl _, .refl _, .refl _, trivial⟩, rfl⟩ ?_
      intro ⟨j, u⟩ ⟨hj, hu⟩
      replace hj : j ≤ p := hj
      replace hu : u ≤ 2 * i + j := hu
      dsimp only
      refine CodeP.seq (vc_sound hT hm _ ?_)
      cbv
      refine CodeP.seq (vc_sound hT hm _ ?_)
      cbv
      refine SplitP.mk (fun hs => ?_) (fun hs => ?_)
      · have hkn : j < md.length := by
          have h5 : decide ((j : Int) < (md.length : Int)) = true := hs
          have := of_decide_eq_true h5
          omega
        clear hs
        refine CodeP.seq (CodeP.block ?_)
        refine CodeP.seq (vc_sound hT hm _ ?_)
        cbv
        refine ElemP.mk (by show (0 : Int) ≤ (j : Int) ∧ (j : Int) < (md.length : Int); omega) (fun x hx => ?_)
        replace hx : md[j]? = some x := hx
        have hstj := hst j x
        have hsnj := hsn j x
        rcases x with ⟨v, g⟩ | tk2
        · cbv
          refine CodeP.seq (vc_sound hT hm _ ?_)
          cbv
          refine OpsP.lookK (k := 104) (e := 3) (ks := markK) hT (hP ▸ hKA) rfl rfl rfl rfl rfl (MarkD.e (.one v g)) rfl rfl rfl rfl (fun h0 => ?_) (fun y h1 => ?_)
          · replace h0 : MJ i j (keyM (.one v g)) = none := h0
            obtain ⟨hrs, hms⟩ := hsn j _ hx h0
            cbv
            refine CodeP.seq (vc_sound hT hm _ ?_)
            cbv
            refine vc_sound hT hm _ ?_
            cbv
            refine OpsP.updK (k := 104) (e := 3) (ks := markK) hT (hP ▸ hKA) rfl rfl rfl rfl (MarkD.e (.one v g)) rfl rfl rfl (MJ i (j + 1)) (.nat (u + 1)) hms rfl (by show (u : Int) < maxLen; unfold maxLen; omega) h0 rfl rfl ?_
            cbv
            refine vc_sound hT hm _ ?_
            cbv
            refine BackP.intro (j + 1, u + 1) ⟨by show j + 1 ≤ p; omega, by show u + 1 ≤ 2 * i + (j + 1); omega⟩ (by show p - (j + 1) < p - j; omega) ⟨⟨.refl _, .refl _, .refl _, .refl _, .refl _, .refl _, .refl _, .refl _, .refl _, .refl _, .refl _, .refl _, .inc (by omega), trivial⟩, ⟨.dead _, ?_, .refl _, .refl _, trivial⟩, rfl⟩
            show BkEq _ _ (.row 3 1 1 (.map natC (RJ i j (i + 1)))) (.row 3 1 1 (.map natC (RJ i (j + 1) (i + 1))))
            rw [hrs]
            exact .refl _
          · obtain ⟨k, rfl, hki, hset, hMs, hmx⟩ := hst j _ y hx h1
            obtain ⟨a, ha⟩ : ∃ a, a = R i j k := ⟨_, rfl⟩
            obtain ⟨b, hb⟩ : ∃ b, b = R i j i := ⟨_, rfl⟩
            rw [← ha, ← hb] at hset hmx
            clear h1
            cbv
            refine CodeP.pre [(4, .nils), (5, .int .i64 (.nat 0)), (6, .slm 37 none SightD.c V), (9, .ptr 2 1 0), (10, .fn (.func 77) [] [.ptr 2 1 0]), (11, .mapr 3), (12, .int .i64 (.nat i)), (17, .int .i64 (.nat k)), (18, .bool (.lit true)), (47, .slm 37 none SightD.c V), (48, .int .i64 (.len V)), (49, .int .i64 (.nat i)), (75, .slm 34 none MarkD.c md), (76, .int .i64 (.len md)), (77, .int .i64 (.nat j))]
              [.dead, .row 3 1 1 (.map natC (RJ i j (i + 1))), .cells [.osl 1 1 1 (.lit false) (.lit 0) (.len V)], .mpk markK .i64 (MJ i j) (.nat u), .cells (MarkD.c (.one v g))] ⟨⟨.refl _, .refl _, .refl _, .refl _, .refl _, .refl _, .refl _, .eq (.int rfl), .refl _, .refl _, .refl _, .refl _, .refl _, .refl _, .refl _, trivial⟩, ⟨.dead _, .refl _, .refl _, .refl _, .refl _, trivial⟩, rfl⟩ (Nat.zero_le _) ?_
            refine vc_sound hT hm _ ?_
            cbv
            refine lead5 hP hT hm (V := V) (L := RJ i j (i + 1)) (rr := R i j) (i := i + 1) (x := k) hki (by omega) (by omega) (RJl i j _) (fun c1 y1 => RJL i j _ c1 y1) rfl rfl rfl rfl ?_
            rw [← ha]
            cbv
            refine lead5 hP hT hm (V := V) (L := RJ i j (i + 1)) (rr := R i j) (i := i + 1) (x := i) (by omega) (by omega) (by omega) (RJl i j _) (fun c1 y1 => RJL i j _ c1 y1) rfl rfl rfl rfl ?_
            rw [← hb]
            cbv
            have hmx1 : (max (a : Int) (b : Int)) = ((max a b : Nat) : Int) := by omega
            have hmn1 : (min (a : Int) (b : Int)) = ((min a b : Nat) : Int) := by omega
            refine ReqP.mk (by show (0 : Int) ≤ max (a : Int) (b : Int) ∧ max (a : Int) (b : Int) < (V.length : Int); rw [hmx1]; omega) (fun _ => ?_)
            refine ReqP.mk (by show (max (a : Int) (b : Int)).toNat < (List.map natC (RJ i j (i + 1))).length; rw [hmx1, List.length_map, RJl]; omega) (fun _ => ?_)
            refine vc_sound hT hm _ ?_
            cbv
            refine BackP.intro (j + 1, u) ⟨by show j + 1 ≤ p; omega, by show u ≤ 2 * i + (j + 1); omega⟩ (by show p - (j + 1) < p - j; omega) ⟨⟨.refl _, .refl _, .refl _, .refl _, .refl _, .refl _, .refl _, .refl _, .refl _, .refl _, .refl _, .refl _, .inc (by omega), trivial⟩, ⟨.dead _, upd_rowN (k := max a b) (v := min a b) (by show (max (a : Int) (b : Int)).toNat = max a b; rw [hmx1]; rfl) hmn1 hset, .refl _, .mpkf (fun L => (hMs L).symm) rfl, trivial⟩, rfl⟩
        · cbv
          refine CodeP.seq (vc_sound hT hm _ ?_)
          cbv
          refine OpsP.lookK (k := 104) (e := 3) (ks := markK) hT (hP ▸ hKA) rfl rfl rfl rfl rfl (MarkD.e (.two tk2)) rfl rfl rfl rfl (fun h0 => ?_) (fun y h1 => ?_)
          · replace h0 : MJ i j (keyM (.two tk2)) = none := h0
            obtain ⟨hrs, hms⟩ := hsn j _ hx h0
            cbv
            refine CodeP.seq (vc_sound hT hm _ ?_)
            cbv
            refine vc_sound hT hm _ ?_
            cbv
            refine OpsP.updK (k := 104) (e := 3) (ks := markK) hT (hP ▸ hKA) rfl rfl rfl rfl (MarkD.e (.two tk2)) rfl rfl rfl (MJ i (j + 1)) (.nat (u + 1)) hms rfl (by show (u : Int) < maxLen; unfold maxLen; omega) h0 rfl rfl ?_
            cbv
            refine vc_sound hT hm _ ?_
            cbv
            refine BackP.intro (j + 1, u + 1) ⟨by show j + 1 ≤ p; omega, by show u + 1 ≤ 2 * i + (j + 1); omega⟩ (by show p - (j + 1) < p - j; omega) ⟨⟨.refl _, .refl _, .refl _, .refl _, .refl _, .refl _, .refl _, .refl _, .refl _, .refl _, .refl _, .refl _, .inc (by omega), trivial⟩, ⟨.dead _, ?_, .refl _, .refl _, trivial⟩, rfl⟩
            show BkEq _ _ (.row 3 1 1 (.map natC (RJ i j (i + 1)))) (.row 3 1 1 (.map natC (RJ i (j + 1) (i + 1))))
            rw [hrs]
            exact .refl _
          · obtain ⟨k, rfl, hki, hset, hMs, hmx⟩ := hst j _ y hx h1
            obtain ⟨a, ha⟩ : ∃ a, a = R i j k := ⟨_, rfl⟩
            obtain ⟨b, hb⟩ : ∃ b, b = R i j i := ⟨_, rfl⟩
            rw [← ha, ← hb] at hset hmx
            clear h1
            cbv
            refine CodeP.pre [(4, .nils), (5, .int .i64 (.nat 0)), (6, .slm 37 none SightD.c V), (9, .ptr 2 1 0), (10, .fn (.func 77) [] [.ptr 2 1 0]), (11, .mapr 3), (12, .int .i64 (.nat i)), (17, .int .i64 (.nat k)), (18, .bool (.lit true)), (47, .slm 37 none SightD.c V), (48, .int .i64 (.len V)), (49, .int .i64 (.nat i)), (75, .slm 34 none MarkD.c md), (76, .int .i64 (.len md)), (77, .int .i64 (.nat j))]
              [.dead, .row 3 1 1 (.map natC (RJ i j (i + 1))), .cells [.osl 1 1 1 (.lit false) (.lit 0) (.len V)], .mpk markK .i64 (MJ i j) (.nat u), .cells (MarkD.c (.two tk2))] ⟨⟨.refl _, .refl _, .refl _, .refl _, .refl _, .refl _, .refl _, .eq (.int rfl), .refl _, .refl _, .refl _, .refl _, .refl _, .refl _, .refl _, trivial⟩, ⟨.dead _, .refl _, .refl _, .refl _, .refl _, trivial⟩, rfl⟩ (Nat.zero_le _) ?_
            refine vc_sound hT hm _ ?_
            cbv
            refine lead5 hP hT hm (V := V) (L := RJ i j (i + 1)) (rr := R i j) (i := i + 1) (x := k) hki (by omega) (by omega) (RJl i j _) (fun c1 y1 => RJL i j _ c1 y1) rfl rfl rfl rfl ?_
            rw [← ha]
            cbv
            refine lead5 hP hT hm (V := V) (L := RJ i j (i + 1)) (rr := R i j) (i := i + 1) (x := i) (by omega) (by omega) (by omega) (RJl i j _) (fun c1 y1 => RJL i j _ c1 y1) rfl rfl rfl rfl ?_
            rw [← hb]
            cbv
            have hmx1 : (max (a : Int) (b : Int)) = ((max a b : Nat) : Int) := by omega
            have hmn1 : (min (a : Int) (b : Int)) = ((min a b : Nat) : Int) := by omega
            refine ReqP.mk (by show (0 : Int) ≤ max (a : Int) (b : Int) ∧ max (a : Int) (b : Int) < (V.length : Int); rw [hmx1]; omega) (fun _ => ?_)
            refine ReqP.mk (by show (max (a : Int) (b : Int)).toNat < (List.map natC (RJ i j (i + 1))).length; rw [hmx1, List.length_map, RJl]; omega) (fun _ => ?_)
            refine vc_sound hT hm _ ?_
            cbv
            refine BackP.intro (j + 1, u) ⟨by show j + 1 ≤ p; omega, by show u ≤ 2 * i + (j + 1); omega⟩ (by show p - (j + 1) < p - j; omega) ⟨⟨.refl _, .refl _, .refl _, .refl _, .refl _, .refl _, .refl _, .refl _, .refl _, .refl _, .refl _, .refl _, .inc (by omega), trivial⟩, ⟨.dead _, upd_rowN (k := max a b) (v := min a b) (by show (max (a : Int) (b : Int)).toNat = max a b; rw [hmx1]; rfl) hmn1 hset, .refl _, .mpkf (fun L => (hMs L).symm) rfl, trivial⟩, rfl⟩
      · have hkn : md.length ≤ j := by
          have h5 : decide ((j : Int) < (md.length : Int)) = false := hs
          have := of_decide_eq_false h5
          omega
        clear hs
        have hjp : j = p := by omega
        subst hjp
        refine vc_sound hT hm _ ?_
        cbv
        refine BackP.intro (i + 1, u) ⟨by show i + 1 ≤ m; omega, by show u ≤ 2 * (i + 1); omega⟩ (by show m - (i + 1) < m - i; omega) ⟨⟨.refl _, .refl _, .refl _, .refl _, .refl _, .refl _, .refl _, .refl _, .inc (by omega), trivial⟩, ⟨.dead _, ?_, .refl _, .mpkf hMn rfl, trivial⟩, rfl⟩
        show BkEq _ _ (.row 3 1 1 (.map natC (RJ i j (i + 1)))) (.row 3 1 1 (.map natC (RJ (i + 1) 0 (i + 1))))
        rw [hRn]
        exact .refl _
    · have hkn : V.length ≤ i := by
        have h5 : decide ((i : Int) < (V.length : Int)) = false := hs
        have := of_decide_eq_false h5
        omega
      clear hs
      have him : i = m := by omega
      subst him
      exact ⟨⟨.refl _, .refl _, .refl _, .refl _, .refl _, trivial⟩, ⟨.dead _, .refl _, .refl _, trivial⟩, rfl⟩
  refine CodeP.virt 4 32 4 rfl ?_
  refine CodeP.seq (vc_sound hT hm _ ?_)
  cbv
  have hLl := RJl m 0 m
  have hLr : ∀ a y, a < m → (RJ m 0 m)[a]? = some y → y ≤ a ∧ r y = r a ∧ (y = a ↔ r a = a) := fun a y h1 h2 => by have h3 := RJL m 0 m a y h1 h2; rw [hRm, hRm] at h3; exact h3
  obtain ⟨LR, hLR⟩ : ∃ x, x = RJ m 0 m := ⟨_, rfl⟩
  rw [← hLR] at hLl hLr ⊢
  clear hLR RJ0 RJo RJl MJ0 RJn MJn RJL stS stN hRJ hMJ hR hRm v0 v1 v2 vl ve hC' hKA
  refine CodeP.seqTo [(4, .slm 4 none SeenD.c (W m)), (5, .int .i64 (.nat (cn m)))] [] (Nat.zero_le _) ?_ ?_
  · refine CodeP.seq (vc_sound hT hm _ ?_)
    cbv
    refine CodeP.keep [4, 5, 9, 10, 21, 108, 109, 110] (CodeP.block ?_)
    refine CodeP.loopP (X := Nat) (fun k => [(4, .osl 4 3 (k + 1) (.cmp .eql (.nat k) (.lit 0)) (.lit 0) (.nat k)), (5, .int .i64 (.nat (cn k))), (9, .ptr 2 1 0), (10, .fn (.func 77) [] [.ptr 2 1 0]), (21, .mapr 4), (108, .slm 37 none SightD.c V), (109, .int .i64 (.len V)), (110, .int .i64 (.nat k))])
      (fun k => [.dead, .row 3 1 1 (.map natC LR), .cells [.osl 1 1 1 (.lit false) (.lit 0) (.len V)], .row 32 4 (k + 1) (.map SeenD.c (W k)), .mp .i64 (.fi .i64 (NM k) (.nat (cn k)))])
      (fun k => k ≤ m) (fun k => m - k) 0 (Nat.zero_le _) (fun _ => Nat.zero_le _) ⟨⟨osl_start, .eq (.int cn0), .refl _, .refl _, .refl _, .refl _, .refl _, .nat0, trivial⟩, ⟨.dead _, .refl _, .refl _, ?_, ?_, trivial⟩, rfl⟩ ?_
    · rw [W0]
      exact .row rfl
    · rw [cn00]
      exact fi_start NM0
    intro k hk
    replace hk : k ≤ m := hk
    refine CodeP.seq (vc_sound hT hm _ ?_)
    cbv
    refine CodeP.seq (vc_sound hT hm _ ?_)
    cbv
    refine SplitP.mk (fun hs => ?_) (fun hs => ?_)
    · have hkn : k < V.length := by
        have h5 : decide ((k : Int) < (V.length : Int)) = true := hs
        have := of_decide_eq_true h5
        omega
      clear hs
      refine CodeP.seq (CodeP.block ?_)
      refine CodeP.seq (vc_sound hT hm _ ?_)
      cbv
      refine ElemP.mk (by show (0 : Int) ≤ (k : Int) ∧ (k : Int) < (V.length : Int); omega) (fun s hx => ?_)
      replace hx : V[k]? = some s := hx
      have hw := Ws k s hx
      obtain ⟨vv, tk, ⟨y1, y2, y3, y4, y5, y6⟩⟩ := s
      have hrk1 := hled.le k
      have hrk2 := hled.self k
      obtain ⟨t, ht⟩ : ∃ t, t = r k := ⟨_, rfl⟩
      rw [← ht] at hrk1 hrk2 hw
      cbv
      refine CodeP.seq (vc_sound hT hm _ ?_)
      cbv
      refine lead6 hP hT hm (V := V) (L := LR) (rr := r) (i := m) (x := k) (by omega) (by omega) (by omega) hLl hLr rfl rfl rfl rfl rfl ?_
      rw [← ht]
      cbv
      refine CodeP.seqTo [(4, .osl 4 3 (k + 1) (.cmp .eql (.nat k) (.lit 0)) (.lit 0) (.nat k)), (5, .int .i64 (.nat (cn (k + 1)))), (9, .ptr 2 1 0), (10, .fn (.func 77) [] [.ptr 2 1 0]), (21, .mapr 4), (23, .ptr 5 1 0), (24, .int .i64 (.nat t)), (108, .slm 37 none SightD.c V), (109, .int .i64 (.len V)), (110, .int .i64 (.nat k))]
        [.dead, .row 3 1 1 (.map natC LR), .cells [.osl 1 1 1 (.lit false) (.lit 0) (.len V)], .row 32 4 (k + 1) (.map SeenD.c (W k)), .mp .i64 (.fi .i64 (NM (k + 1)) (.nat (cn (k + 1)))), .cells (SightD.c ⟨vv, tk, ⟨y1, y2, y3, y4, y5, y6⟩⟩)] (Nat.zero_le _) (vc_sound hT hm _ ?_) ?_
      · cbv
        refine LetOP.mk (fun hn => ?_) (fun y hy => ?_)
        · replace hn : NM k (t : Int) = none := hn
          have htk : t = k := by
            rcases Nat.lt_or_ge t k with q | q
            · rw [NM1 k t q hrk2] at hn
              cases hn
            · omega
          have hc1 := cns k
          have hc2 := cnl k
          have hnm := NM3 k (by omega)
          rw [if_pos (by omega)] at hc1
          have hkt : ((t : Nat) : Int) = (k : Int) := by rw [htk]
          have hcp : (cn k : Int) + 1 = (cn (k + 1) : Int) := by rw [hc1]; rfl
          refine SplitP.mk (fun hq => ?_) (fun hq => ?_)
          · exfalso
            simp only [IE.den, BE.den, hn] at hq
            cases hq
          refine ReqP.mk ⟨by show (cn k : Int) < maxLen; unfold maxLen; omega⟩ (fun _ => ?_)
          refine ⟨⟨.refl _, .eq (.int ?_), .refl _, .refl _, .refl _, .refl _, .refl _, .refl _, .refl _, .refl _, trivial⟩, ⟨.dead _, .refl _, .refl _, .refl _, fi_same ?_ fun x => ?_, .refl _, trivial⟩, rfl⟩
          · show IntKind.i64.wrap ((cn k : Int) + 1) = (cn (k + 1) : Int)
            rw [w64 (by omega) (by omega), hcp]
          · exact hcp
          · show (if x = (t : Int) then some (cn k : Int) else NM k x) = NM (k + 1) x
            rw [hnm, hkt]
        · replace hy : NM k (t : Int) = some y := hy
          have htk : t < k := by
            rcases Nat.lt_or_ge t k with q | q
            · exact q
            · have e : t = k := by omega
              rw [e, NM2] at hy
              cases hy
          have hc1 := cns k
          have hnm := NM4 k (by omega)
          rw [if_neg (by omega)] at hc1
          have hcp : (cn k : Int) = (cn (k + 1) : Int) := by rw [hc1]
          exact ⟨⟨.refl _, .eq (.int hcp), .refl _, .refl _, .refl _, .refl _, .refl _, .refl _, .refl _, .refl _, trivial⟩, ⟨.dead _, .refl _, .refl _, .refl _, fi_same hcp fun x => (hnm x).symm, .refl _, trivial⟩, rfl⟩
      have hat := NM1 (k + 1) t (by omega) hrk2
      clear NM0 NM1 NM2 NM3 NM4
      cbv
      refine CodeP.seq (vc_sound hT hm _ ?_)
      refine LetOP.mk (fun hn => ?_) (fun y hy => ?_)
      · exfalso
        replace hn : NM (k + 1) (t : Int) = none := hn
        rw [hat] at hn
        cases hn
      replace hy : NM (k + 1) (t : Int) = some y := hy
      rw [hat] at hy
      cases hy
      clear hat
      cbv
      refine vc_sound hT hm _ ?_
      cbv
      refine ReqP.mk (app_ok (Wl k) (by omega) (fun _ => rfl) rfl (by decide)) (fun _ => ?_)
      refine vc_sound hT hm _ ?_
      cbv
      refine BackP.intro (k + 1) (by show k + 1 ≤ m; omega) (by show m - (k + 1) < m - k; omega) ⟨⟨osl_step k, .refl _, .refl _, .refl _, .refl _, .refl _, .refl _, .inc (by omega), trivial⟩, ⟨.dead _, .refl _, .refl _, row_app _ hw (.cons (.int rfl) (.cons (.refl _) (.cons (.refl _) (.cons (.refl _) .nil)))), .refl _, trivial⟩, rfl⟩
    · have hkn : V.length ≤ k := by
        have h5 : decide ((k : Int) < (V.length : Int)) = false := hs
        have := of_decide_eq_false h5
        omega
      clear hs
      have hkm : k = m := by omega
      subst hkm
      exact ⟨⟨.slm rfl (.inl ⟨_, _, rfl, rfl⟩) rfl (by rw [Wl]; rfl) (fun e h => by cases h), .refl _, trivial⟩, trivial, rfl⟩
  · refine vc_sound hT hm _ ?_
    cbv
    exact .mk (.cons (.refl _) (.cons (.refl _) .nil)) rfl
end Go.Proofs.YtaopkjgldokahaaGreatDoor
namespace Go.Proofs.YtaopkjgldokahaaGreatDoor
open Go.RowKit

/-! Accounts as data; small functions of the program. -/
structure CoalD where
  nil : Bool
  l : List Int
abbrev CoalD.c (x : CoalD) : List D := [.slm 1 (some (.var x.nil)) intC x.l]
structure GrpsD where
  nil : Bool
  l : List GroupD
abbrev GrpsD.c (x : GrpsD) : List D := [.slm 2 (some (.var x.nil)) GroupD.c x.l]
structure AccountD where
  ni : Bool
  issued : List IssuedD
  nc : Bool
  coal : List CoalD
  ns : Bool
  sights : List SightD
  nz : Bool
  sets : List GrpsD
abbrev AccountD.c (a : AccountD) : List D := [.slm 3 (some (.var a.ni)) IssuedD.c a.issued, .slm 1 (some (.var a.nc)) CoalD.c a.coal, .slm 37 (some (.var a.ns)) SightD.c a.sights, .slm 1 (some (.var a.nz)) GrpsD.c a.sets]
def verB (s : SightD) : Bool := decide (0 ≤ s.verifier ∧ s.verifier < 8)
set_option maxRecDepth 100000 in
set_option maxHeartbeats 4000000 in
theorem verOK_pure (s : SightD) : Pure Tryz.prog 42 [.agg s.c] (boolD (verB s)) := by
  obtain ⟨r, hr⟩ : ∃ r, r = verB s := ⟨_, rfl⟩
  rw [← hr]
  unfold verB at hr
  obtain ⟨v, tk, ⟨y1, y2, y3, y4, y5, y6⟩⟩ := s
  simp only at hr
  refine Pure.intro (want := [boolD r]) T_ok follows Tryz.func42 rfl (by kernel_rfl) (rs := [.tmp 2]) rfl (by kernel_rfl) ?_
  generalize hP : Tryz.prog = P
  have hT : T.ok P := hP ▸ T_ok
  have hm : P.follows .mixedOrders = true := hP ▸ follows
  unfold Tryz.f42
  dsimp only
  cbv
  refine SplitP.mk (fun hs => ?_) (fun hs => ?_) <;> simp only [BE.lss_t, BE.lss_f, BE.leq_t, BE.leq_f, BE.gtr_t, BE.gtr_f, BE.geq_t, BE.geq_f, BE.eql_t, BE.eql_f, BE.neq_t, BE.neq_f, BE.not_t, BE.not_f, BE.var_d, BE.lit_d, BE.seq_t, BE.seq_f, BE.beq_t, BE.beq_f, IE.var_d, IE.lit_d, IE.nat_d, IE.len_d, IE.sum_d, IE.u8_d, ncast, Int.ofNat_lt, Int.ofNat_le, Int.ofNat_inj] at hs
  · refine .mk (.cons (.eq (.bool ?_)) .nil) rfl
    show decide (v < 8) = r
    rw [hr]
    exact decide_eq_decide.2 ⟨fun h => ⟨hs, h⟩, fun h => h.2⟩
  · refine .mk (.cons (.eq (.bool ?_)) .nil) rfl
    rw [BE.lit_d, BE.var_d]
    rw [hr]; exact (decide_eq_false (by omega)).symm
set_option maxRecDepth 100000 in
set_option maxHeartbeats 4000000 in
theorem verNo_pure (s : SightD) : Pure Tryz.prog 41 [.agg s.c] (boolD (!verB s)) := by
  have hV := verOK_pure s
  obtain ⟨b, hb⟩ : ∃ b, b = verB s := ⟨_, rfl⟩
  rw [← hb] at hV ⊢
  clear hb
  obtain ⟨v, tk, ⟨y1, y2, y3, y4, y5, y6⟩⟩ := s
  refine Pure.intro (want := [boolD (!b)]) T_ok follows Tryz.func41 rfl (by kernel_rfl) (rs := [.tmp 2]) rfl (by kernel_rfl) ?_
  generalize hP : Tryz.prog = P at *
  have hT : T.ok P := hP ▸ T_ok
  have hm : P.follows .mixedOrders = true := hP ▸ follows
  unfold Tryz.f41
  dsimp only
  cbv
  refine CallP.pure _ hV rfl ?_
  cbv
  exact .mk (.cons (.eq (.bool rfl)) .nil) rfl
set_option maxRecDepth 100000 in
set_option maxHeartbeats 4000000 in
theorem IndexV_pure (l : List SightD) (nb : Option BE) (p : SightD → Bool) (hp : ∀ s, Pure Tryz.prog 41 [.agg s.c] (boolD (p s))) (hl : l.length < 9223372036854775807) : Pure Tryz.prog 57 [.slm 37 nb SightD.c l, .fn (.func 41) [] []] (i64 (ixP p l 0)) := by
  obtain ⟨r, hr⟩ : ∃ r, r = ixP p l 0 := ⟨_, rfl⟩
  rw [← hr]
  obtain ⟨n, hn⟩ : ∃ n : Nat, n = l.length := ⟨_, rfl⟩
  refine Pure.intro (want := [i64 r]) T_ok follows Tryz.func57 rfl (by kernel_rfl) (rs := [.tmp 4]) rfl (by kernel_rfl) ?_
  generalize hP : Tryz.prog = P at *
  have hT : T.ok P := hP ▸ T_ok
  have hm : P.follows .mixedOrders = true := hP ▸ follows
  unfold Tryz.f57
  dsimp only
  cbv
  refine CodeP.loopc hT hm (X := Nat) (fun k => [(8, .int .i64 (.nat k))]) (fun k => k ≤ l.length ∧ r = ixP p (l.drop k) k) (fun k => n - k) 0 ⟨by simp, hr⟩ (Nat.zero_le _) ?_ rfl ?_
  · (cbv; (repeat' (first | exact SnD.refl _ | exact trivial | exact SnD.nat0 | refine And.intro ?_ ?_)))
  intro k ⟨hk, hq⟩
  cbv
  refine SplitP.mk (fun hs => ?_) (fun hs => ?_)
  · have hkn : k < l.length := by
      have h5 : decide ((k : Int) < (l.length : Int)) = true := hs
      have := of_decide_eq_true h5
      omega
    clear hs
    refine ElemP.mk (by show (0 : Int) ≤ (k : Int) ∧ (k : Int) < (l.length : Int); omega) (fun s hx => ?_)
    replace hx : l[k]? = some s := hx
    rw [drop_cons hx] at hq
    simp only [ixP] at hq
    obtain ⟨b, hb⟩ : ∃ b, b = p s := ⟨_, rfl⟩
    have hps := hp s
    rw [← hb] at hq hps
    obtain ⟨v, tk, ⟨y1, y2, y3, y4, y5, y6⟩⟩ := s
    cbv
    refine CallP.pure _ hps rfl ?_
    cbv
    refine SplitP.mk (fun hs => ?_) (fun hs => ?_)
    · replace hs : b = true := hs
      refine .mk (.cons (.eq (.int ?_)) .nil) rfl
      rw [hq, if_pos hs]
      rfl
    · replace hs : b = false := hs
      rw [if_neg (by rw [hs]; exact Bool.false_ne_true)] at hq
      refine BackP.intro (k + 1) ⟨by omega, hq⟩ (by show n - (k + 1) < n - k; omega) ⟨?_, HEnt.refl _, rfl⟩
      (cbv; (repeat' (first | exact SnD.refl _ | exact trivial | exact SnD.nat0 | refine And.intro ?_ ?_)))
      exact .inc (by omega)
  · have hkn : l.length ≤ k := by
      have h5 : decide ((k : Int) < (l.length : Int)) = false := hs
      have := of_decide_eq_false h5
      omega
    clear hs
    refine .mk (.cons (.eq (.int ?_)) .nil) rfl
    rw [IE.lit_d, IE.var_d, hq, List.drop_of_length_le (by omega)]
    rfl
set_option maxRecDepth 100000 in
set_option maxHeartbeats 4000000 in
theorem HasV_pure (l : List SightD) (nb : Option BE) (hl : l.length < 9223372036854775807) : Pure Tryz.prog 40 [.slm 37 nb SightD.c l, .fn (.func 41) [] []] (boolD (l.any fun s => !verB s)) := by
  have hI := IndexV_pure l nb (fun s => !verB s) verNo_pure hl
  have hge := ixP_ge (fun s => !verB s) l 0
  obtain ⟨x, hx⟩ : ∃ x, x = ixP (fun s => !verB s) l 0 := ⟨_, rfl⟩
  rw [← hx] at hI hge
  rw [← hge]
  obtain ⟨r, hr⟩ : ∃ r, r = decide (x ≥ 0) := ⟨_, rfl⟩
  rw [← hr]
  refine Pure.intro (want := [boolD r]) T_ok follows Tryz.func40 rfl (by kernel_rfl) (rs := [.tmp 4]) rfl (by kernel_rfl) ?_
  generalize hP : Tryz.prog = P at *
  have hT : T.ok P := hP ▸ T_ok
  have hm : P.follows .mixedOrders = true := hP ▸ follows
  unfold Tryz.f40
  dsimp only
  cbv
  refine CallP.pure _ hI rfl ?_
  cbv
  exact .mk (.cons (.eq (.bool hr.symm)) .nil) rfl
def viewsL (l : List SightD) : List SeenD := l.map SightD.seen
set_option maxRecDepth 100000 in
set_option maxHeartbeats 4000000 in
theorem views_pure (l : List SightD) (nb : Option BE) (hl : l.length ≤ 1000000) : Pure Tryz.prog 37 [.slm 37 nb SightD.c l] (.slm 4 none SeenD.c (viewsL l)) := by
  obtain ⟨V, hV⟩ : ∃ f : Nat → List SeenD, f = fun k => viewsL (l.take k) := ⟨_, rfl⟩
  have v0 : V 0 = [] := by rw [hV]; rfl
  have v1 : ∀ k s, l[k]? = some s → V (k + 1) = V k ++ [s.seen] := fun k s hs => by
    rw [hV]
    unfold viewsL
    simp only
    rw [List.take_add_one, hs, List.map_append]
    rfl
  obtain ⟨n, hn⟩ : ∃ n : Nat, n = l.length := ⟨_, rfl⟩
  have vl : ∀ k, k ≤ n → (V k).length = k := fun k hk => by
    rw [hV]
    unfold viewsL
    simp only
    rw [List.length_map, List.length_take]
    omega
  obtain ⟨r, hr⟩ : ∃ r, r = viewsL l := ⟨_, rfl⟩
  rw [← hr]
  have te : V n = r := by rw [hV, hn, hr]; simp
  clear hV hr
  refine Pure.intro (want := [.slm 4 none SeenD.c r]) T_ok follows Tryz.func37 rfl (by kernel_rfl) (rs := [.tmp 2]) rfl (by kernel_rfl) ?_
  generalize hP : Tryz.prog = P at *
  have hT : T.ok P := hP ▸ T_ok
  have hm : P.follows .mixedOrders = true := hP ▸ follows
  unfold Tryz.f37
  dsimp only
  cbv
  refine CodeP.virt 2 32 4 rfl ?_
  refine CodeP.loopm hT hm (X := Nat) (fun k => [(7, .int .i64 (.nat k)), (2, .osl 4 0 (k + 1) (.cmp .eql (.nat k) (.lit 0)) (.lit 0) (.nat k))]) (fun k => [.row 32 4 (k + 1) (.map SeenD.c (V k))]) (fun k => k ≤ n) (fun k => n - k) 0 (Nat.zero_le _) (fun _ => Nat.zero_le _) ⟨?_, ?_, rfl⟩ ?_
  · refine ⟨.nat0, osl_start, ?_⟩
    (cbv; (repeat' (first | exact SnD.refl _ | exact trivial | exact SnD.nat0 | refine And.intro ?_ ?_)))
  · rw [v0]
    exact ⟨.row rfl, trivial⟩
  intro k hk
  replace hk : k ≤ n := hk
  cbv
  refine SplitP.mk (fun hs => ?_) (fun hs => ?_)
  · have hkn : k < l.length := by
      have h5 : decide ((k : Int) < (l.length : Int)) = true := hs
      have := of_decide_eq_true h5
      omega
    clear hs
    refine ElemP.mk (by show (0 : Int) ≤ (k : Int) ∧ (k : Int) < (l.length : Int); omega) (fun s hx => ?_)
    replace hx : l[k]? = some s := hx
    have g1 := v1 k s hx
    have g3 := vl k hk
    obtain ⟨v, tk, ⟨y1, y2, y3, y4, y5, y6⟩⟩ := s
    cbv
    refine ReqP.mk (app_ok g3 (by omega) (fun _ => rfl) rfl (by decide)) (fun _ => ?_)
    refine BackP.intro (k + 1) (by show k + 1 ≤ n; omega) (by show n - (k + 1) < n - k; omega) ⟨?_, ⟨row_app _ g1 (.cons (.refl _) (.cons (.refl _) (.cons (.refl _) (.cons (.refl _) .nil)))), trivial⟩, rfl⟩
    refine ⟨.inc (by omega), osl_step k, ?_⟩
    (cbv; (repeat' (first | exact SnD.refl _ | exact trivial | exact SnD.nat0 | refine And.intro ?_ ?_)))
  · have hkn : k = n := by
      have h5 : decide ((k : Int) < (l.length : Int)) = false := hs
      have := of_decide_eq_false h5
      omega
    refine .mk (.cons (.slm rfl (.inl ⟨_, _, rfl, by rw [← te, ← hkn]; rfl⟩) rfl (by simp only [IE.den]; rw [← te, ← hkn, vl k hk]) (fun e h => by cases h)) .nil) rfl
def ascB (last : Int) : List Int → Bool
  | [] => true
  | v :: r => decide (last < v ∧ v < 8) && ascB v r
def coalB (c : List Int) : Bool := decide (c.length ≠ 0) && ascB (-1) c
def coalsB (l : List CoalD) : Bool := decide (l.length ≤ 8) && l.all fun x => coalB x.l
set_option maxRecDepth 100000 in
set_option maxHeartbeats 4000000 in
theorem coals_pure (l : List CoalD) (nb : Option BE) (hl : l.length < 9223372036854775807) (hx : ∀ x ∈ l, x.l.length < 9223372036854775807) : Pure Tryz.prog 26 [.slm 1 nb CoalD.c l] (boolD (coalsB l)) := by
  obtain ⟨r, hr⟩ : ∃ r, r = coalsB l := ⟨_, rfl⟩
  rw [← hr]
  obtain ⟨n, hn⟩ : ∃ n : Nat, n = l.length := ⟨_, rfl⟩
  unfold coalsB at hr
  obtain ⟨f, hf⟩ : ∃ f : CoalD → Bool, f = fun x => coalB x.l := ⟨_, rfl⟩
  rw [← hf] at hr
  obtain ⟨g, hg⟩ : ∃ f, f = ascB := ⟨_, rfl⟩
  have hfx : ∀ nl c, f ⟨nl, c⟩ = (decide (c.length ≠ 0) && g (-1) c) := fun nl c => by rw [hf, hg]; rfl
  have g0 : ∀ v, g v [] = true := fun v => by rw [hg]; rfl
  have g1 : ∀ v x c, g v (x :: c) = (decide (v < x ∧ x < 8) && g x c) := fun v x c => by rw [hg]; rfl
  clear hf hg
  refine Pure.intro (want := [boolD r]) T_ok follows Tryz.func26 rfl (by kernel_rfl) (rs := [.tmp 2]) rfl (by kernel_rfl) ?_
  generalize hP : Tryz.prog = P at *
  have hT : T.ok P := hP ▸ T_ok
  have hm : P.follows .mixedOrders = true := hP ▸ follows
  unfold Tryz.f26
  dsimp only
  cbv
  refine SplitP.mk (fun h1 => ?_) (fun h1 => ?_)
  · have := of_decide_eq_true (show decide ((l.length : Int) > 8) = true from h1)
    refine .mk (.cons (.eq (.bool ?_)) .nil) rfl
    rw [BE.lit_d, BE.var_d]
    rw [hr, decide_eq_false (by omega)]; rfl
  have h1 : l.length ≤ 8 := by have := of_decide_eq_false (show decide ((l.length : Int) > 8) = false from h1); omega
  rw [decide_eq_true h1, Bool.true_and] at hr
  refine CodeP.loopc hT hm (X := Nat) (fun k => [(13, .int .i64 (.nat k))]) (fun k => k ≤ l.length ∧ r = (l.drop k).all f) (fun k => n - k) 0 ⟨by simp, hr⟩ (Nat.zero_le _) ?_ rfl ?_
  · (cbv; (repeat' (first | exact SnD.refl _ | exact trivial | exact SnD.nat0 | refine And.intro ?_ ?_)))
  intro k ⟨hk, hq⟩
  cbv
  refine SplitP.mk (fun hs => ?_) (fun hs => ?_)
  · have hkn : k < l.length := by
      have h5 : decide ((k : Int) < (l.length : Int)) = true := hs
      have := of_decide_eq_true h5
      omega
    clear hs
    refine ElemP.mk (by show (0 : Int) ≤ (k : Int) ∧ (k : Int) < (l.length : Int); omega) (fun s hxk => ?_)
    replace hxk : l[k]? = some s := hxk
    have hcl := hx s (List.mem_of_getElem? hxk)
    rw [drop_cons hxk] at hq
    simp only [List.all_cons] at hq
    obtain ⟨nl, c⟩ := s
    rw [hfx] at hq
    simp only at hcl
    obtain ⟨rest, hrest⟩ : ∃ b, b = (l.drop (k + 1)).all f := ⟨_, rfl⟩
    rw [← hrest] at hq
    obtain ⟨m, hm'⟩ : ∃ m : Nat, m = c.length := ⟨_, rfl⟩
    cbv
    refine CodeP.loopc hT hm (X := Nat × Int) (fun x => [(19, .int .i64 (.nat x.1)), (5, i64 x.2)]) (fun x => x.1 ≤ m ∧ r = (decide (c.length ≠ 0) && g x.2 (c.drop x.1) && rest) ∧ (x.1 = 0 → x.2 = -1) ∧ (x.1 ≠ 0 → 0 ≤ x.2)) (fun x => m - x.1) (0, -1) ⟨Nat.zero_le _, hq, fun _ => rfl, fun h => absurd rfl h⟩ (Nat.zero_le _) ?_ rfl ?_
    · (cbv; (repeat' (first | exact SnD.refl _ | exact trivial | exact SnD.nat0 | refine And.intro ?_ ?_)))
      exact .eq (.int rfl)
    intro ⟨j, v⟩ ⟨hj, hq2, hv1, hv2⟩
    simp only at hj hq2 hv1 hv2
    cbv
    refine SplitP.mk (fun hs => ?_) (fun hs => ?_)
    · have hkn : j < c.length := by
        have h5 : decide ((j : Int) < (c.length : Int)) = true := hs
        have := of_decide_eq_true h5
        omega
      clear hs
      refine ElemP.mk (by show (0 : Int) ≤ (j : Int) ∧ (j : Int) < (c.length : Int); omega) (fun x hxj => ?_)
      replace hxj : c[j]? = some x := hxj
      rw [drop_cons hxj, g1] at hq2
      cbv
      refine SplitP.mk (fun h6 => ?_) (fun h6 => ?_) <;> simp only [BE.leq_t, BE.leq_f, IE.var_d, IE.lit_d] at h6
      · refine .mk (.cons (.eq (.bool ?_)) .nil) rfl
        rw [BE.lit_d, BE.var_d]
        rw [hq2, decide_eq_false (p := v < x ∧ x < 8) (by omega)]; simp
      refine SplitP.mk (fun h7 => ?_) (fun h7 => ?_) <;> simp only [BE.geq_t, BE.geq_f, IE.var_d, IE.lit_d] at h7
      · refine .mk (.cons (.eq (.bool ?_)) .nil) rfl
        rw [BE.lit_d, BE.var_d]
        rw [hq2, decide_eq_false (p := v < x ∧ x < 8) (by omega)]; simp
      have hx0 : 0 ≤ x := by
        rcases Nat.eq_zero_or_pos j with q | q
        · have := hv1 q; omega
        · have := hv2 (by omega); omega
      refine BackP.intro (j + 1, x) ⟨by simp only; omega, by simp only; rw [hq2, decide_eq_true (p := v < x ∧ x < 8) ⟨by omega, by omega⟩]; rfl, fun h => by simp at h, fun _ => hx0⟩ (by show m - (j + 1) < m - j; omega) ⟨?_, HEnt.refl _, rfl⟩
      (cbv; (repeat' (first | exact SnD.refl _ | exact trivial | exact SnD.nat0 | refine And.intro ?_ ?_)))
      exact .inc (by omega)
    · have hkn : c.length ≤ j := by
        have h5 : decide ((j : Int) < (c.length : Int)) = false := hs
        have := of_decide_eq_false h5
        omega
      clear hs
      have hjm : j = m := by omega
      rw [List.drop_of_length_le (by omega), g0] at hq2
      refine SplitP.mk (fun h6 => ?_) (fun h6 => ?_) <;> simp only [BE.lss_t, BE.lss_f, IE.var_d, IE.lit_d] at h6
      · have hm0 : c.length = 0 := by
          rcases Nat.eq_zero_or_pos j with q | q
          · omega
          · have := hv2 (by omega); omega
        refine .mk (.cons (.eq (.bool ?_)) .nil) rfl
        rw [BE.lit_d, BE.var_d]
        rw [hq2, hm0]; rfl
      have hm0 : c.length ≠ 0 := by
        intro q
        have := hv1 (by omega)
        omega
      rw [decide_eq_true hm0, Bool.true_and, Bool.true_and, hrest] at hq2
      refine BackP.intro (k + 1) ⟨by omega, hq2⟩ (by show n - (k + 1) < n - k; omega) ⟨?_, HEnt.refl _, rfl⟩
      (cbv; (repeat' (first | exact SnD.refl _ | exact trivial | exact SnD.nat0 | refine And.intro ?_ ?_)))
      exact .inc (by omega)
  · have hkn : l.length ≤ k := by
      have h5 : decide ((k : Int) < (l.length : Int)) = false := hs
      have := of_decide_eq_false h5
      omega
    clear hs
    refine .mk (.cons (.eq (.bool ?_)) .nil) rfl
    rw [BE.lit_d, BE.var_d]
    rw [hq, List.drop_of_length_le (by omega)]; rfl
end Go.Proofs.YtaopkjgldokahaaGreatDoor
namespace Go.Proofs.YtaopkjgldokahaaGreatDoor
open Go.RowKit

/-! Iterators that yield data: the blocks that a round may write are named; the rest lies still. -/
structure KeepsBut (C : Nat → Prop) (W W' : World) : Prop where
  os : W'.os = W.os
  tape : W'.tape = W.tape
  output : W'.output = W.output
  size : W.heap.size ≤ W'.heap.size
  block : ∀ b, b < W.heap.size → ¬ C b → W'.heap[b]? = W.heap[b]?
theorem KeepsBut.of_below {C : Nat → Prop} {W W' : World} (h : Below W.heap.size W W') : KeepsBut C W W' := ⟨h.os, h.tape, h.output, h.size, fun b hb _ => h.block b hb⟩
theorem KeepsBut.trans {C : Nat → Prop} {U V W : World} (h : KeepsBut C U V) (k : KeepsBut C V W) : KeepsBut C U W :=
  ⟨k.os.trans h.os, k.tape.trans h.tape, k.output.trans h.output, Nat.le_trans h.size k.size, fun b hb hc => (k.block b (Nat.lt_of_lt_of_le hb h.size) hc).trans (h.block b hb hc)⟩
theorem DRep.still {W W' : World} {G : Nat → Prop} {d : D} {v : Value} (h : DRep W (Env.of G) d v) (hb : ∀ b, G b → W'.heap[b]? = W.heap[b]?) : DRep W' (Env.of G) d v :=
  h.move ⟨fun _ h => h, hb⟩ ⟨fun _ => Nat.le_refl _, fun _ _ => ⟨rfl, fun _ _ => rfl⟩⟩
/-- what a round owes: J holds behind it, with what it may write from then on -/
def YieldsTo (F : Fence) (m : Nat) (P : Program) (l : Nat) (N : Nat) (ds : Nat → D) (J : Nat → (Nat → Prop) → World → Prop) : Prop :=
  ∀ (k : Nat) (C : Nat → Prop) (A W1 : World) (v : Value) (G' : Nat → Prop), k < N → J k C A → Below A.heap.size A W1 → (∀ b, G' b → A.heap.size ≤ b ∧ b < W1.heap.size) → DRep W1 (Env.of G') (ds k) v →
    YieldAt F m P l #[v] W1 fun e W' => e = .returned (.bool true) ∧ KeepsBut C W1 W' ∧ ∃ C', J (k + 1) C' W' ∧ ∀ b, C' b → C b ∨ W1.heap.size ≤ b
/-- an iterator that yields N data, one after the other -/
def SeqD (F : Fence) (n : Nat) (P : Program) (gf : Nat) (lb : Array Value) (N : Nat) (ds : Nat → D) (w : World) : Prop :=
  ∀ (l : Nat) (J : Nat → (Nat → Prop) → World → Prop) (C0 : Nat → Prop) (W : World), Below w.heap.size w W → (∀ b, C0 b → w.heap.size ≤ b ∧ b < W.heap.size) → YieldsTo F (n - 1) P l N ds J → J 0 C0 W →
    CallsIn F n P gf (#[.func (.yield l) #[] #[]] ++ lb) W fun e W' => (∃ v, e = .returned v) ∧ ∃ C A, J N C A ∧ Below A.heap.size A W'
section
variable {F : Fence} {n : Nat} {P : Program}
theorem wpIn_rangeFunc_D {g : Operand} {p0 : Tmp} {assign body : Code} {Q : Exit → Act → World → Prop} {a : Act} {w w0 : World}
    (hro : F.round = none) (h1 : 1 ≤ n) {gf : Nat} {lb : Array Value} (hg : a.eval g = .func (.func gf) #[] lb) (hFg : F.fn gf) (eg : ∀ args w, (callFunc gf args).run P w = .ok (.enter gf args) w)
    {N : Nat} {ds : Nat → D} (hseq : SeqD F (n - 1) P gf lb N ds w0) (hb0 : Below w0.heap.size w0 w)
    (I : Nat → (Nat → Prop) → World → Prop) (C0 : Nat → Prop) (hC0 : ∀ b, C0 b → w0.heap.size ≤ b ∧ b < w.heap.size) (h0 : I 0 C0 w)
    (hI : ∀ k C A B, I k C A → A.heap.size ≤ B.heap.size → B.os = A.os → B.tape = A.tape → B.output = A.output → (∀ b, b < A.heap.size → b ≠ w.heap.size → b ≠ w.heap.size + 1 → B.heap[b]? = A.heap[b]?) → I k C B)
    (hIC : ∀ k C A, I k C A → ∀ b, C b → b ≠ w.heap.size ∧ b ≠ w.heap.size + 1 ∧ b < A.heap.size)
    (R : Nat → Value → World → Act → World → Prop)
    (hassign : ∀ (l k : Nat) (W : World) (v : Value) (G' : Nat → Prop) (K : Act → World → Prop), k < N → DRep W (Env.of G') (ds k) v → (∀ a₁ W', Below W.heap.size W W' → R k v W a₁ W' → K a₁ W') →
      assign.wpIn (F.inRound l) (n - 1 - 1) P (Exit.then K (fun _ _ _ => False)) { tmps := a.tmps.setIfInBounds p0 v, defers := [] } W)
    (hbody : ∀ (l k : Nat) (C : Nat → Prop) (W : World) (v : Value) (G' : Nat → Prop) (a₁ : Act) (W' X : World), k < N → I k C X → w.heap.size + 2 ≤ W.heap.size → (∀ b, C b → b < W.heap.size) → (∀ b, G' b → ¬ C b ∧ w.heap.size + 2 ≤ b ∧ b < W.heap.size) → DRep X (Env.of G') (ds k) v →
      R k v W a₁ W' → W.heap.size ≤ W'.heap.size → X.heap.size = W'.heap.size → (∀ b, b ≠ w.heap.size + 1 → X.heap[b]? = W'.heap[b]?) →
      body.wpIn (F.inRound l) (n - 1 - 1) P (fun e _ Y => e = .normal ∧ KeepsBut C X Y ∧ ∃ C', I (k + 1) C' Y ∧ ∀ b, C' b → C b ∨ X.heap.size ≤ b) a₁ X)
    (hdone : ∀ (C : Nat → Prop) (W : World), I N C W → W.heap[w.heap.size]? = some (.deferred (some [])) → Q .normal { a with defers := { target := .collected w.heap.size, args := #[] } :: a.defers } W) :
    (Code.rangeFunc g #[p0] assign body).wpIn F n P Q a w := by
  refine wpIn_rangeFunc fun fn hfn => ?_
  rw [hro]
  obtain ⟨D0, hD0⟩ : ∃ x, x = w.heap.size := ⟨_, rfl⟩
  obtain ⟨rc, hrc⟩ : ∃ rc : LoopState → Loop, rc = fun st => { state := st, pending := none, fn, tmps := a.tmps, params := #[p0], assign, body, defers := D0 } := ⟨_, rfl⟩
  obtain ⟨W1, hW1⟩ : ∃ W1, W1 = (w.alloc (.deferred (some []))).alloc (.loop (rc .ready)) := ⟨_, rfl⟩
  have hl1 : W1.heap[D0 + 1]? = some (.loop (rc .ready)) := by
    have := World.alloc_heap_new (w.alloc (.deferred (some []))) (.loop (rc .ready))
    rw [hW1, hD0]
    rwa [World.size_alloc] at this
  have hd1 : W1.heap[D0]? = some (.deferred (some [])) := by
    rw [hW1, hD0]
    exact (Below.heap_alloc _ _ _ (by simp)).trans (World.alloc_heap_new w _)
  have hs1 : W1.heap.size = D0 + 2 := by rw [hW1, hD0]; simp
  have hbw : Below w.heap.size w W1 := by
    rw [hW1]
    exact ((Below.refl _ w).alloc (Nat.le_refl _) _).alloc (by simp) _
  have hputs : ∀ (W : World) (o : Obj), (W.putObj (D0 + 1) o).heap.size = W.heap.size := fun W o => by simp
  rw [← hD0] at hI hIC hbody hdone
  have hIput : ∀ k C W o, I k C W → I k C (W.putObj (D0 + 1) o) := fun k C W o h =>
    hI k C W _ h (Nat.le_of_eq (hputs W o).symm) rfl rfl rfl fun b _ _ q => World.putObj_heap_other q
  refine ⟨D0 + 1, [{ target := .collected D0, args := #[] }], W1, { target := .fn (.func gf) lb, args := #[.func (.yield (D0 + 1)) #[] #[]] }, W1, gf, #[.func (.yield (D0 + 1)) #[] #[]] ++ lb, W1, ?_, ?_, ?_, ?_, fun _ => h1, ?_⟩
  · rw [hW1, hrc, hD0]
    exact run_enterLoop_outer _ _ _ _ _
  · simp only [resolve, hg]
    simp [go_sem]
  · intro f' hf'
    simp [Target.leads] at hf'
    subst hf'
    exact hFg
  · simp [invoke, go_sem, eg]
  refine (hseq (D0 + 1) (fun k C W => I k C W ∧ W.heap[D0 + 1]? = some (.loop (rc .ready)) ∧ W.heap[D0]? = some (.deferred (some []))) C0 W1 (hb0.trans (hbw.mono hb0.size))
    (fun b hb => by have := hC0 b hb; exact ⟨this.1, by rw [hs1, hD0]; omega⟩) ?_
    ⟨hI 0 C0 w W1 h0 hbw.size hbw.os hbw.tape hbw.output fun b hb _ _ => hbw.block b hb, hl1, hd1⟩).mono ?_
  · rintro k C A V v G' hk ⟨hi, hl, hd⟩ hAV hG hr
    have hlA : D0 + 1 < A.heap.size := (Array.getElem?_eq_some_iff.1 hl).1
    have hlV : V.heap[D0 + 1]? = some (.loop (rc .ready)) := (hAV.block _ hlA).trans hl
    have hdV : V.heap[D0]? = some (.deferred (some [])) := (hAV.block _ (by omega)).trans hd
    have hltV : D0 + 1 < V.heap.size := Nat.lt_of_lt_of_le hlA hAV.size
    have hiV : I k C V := hI k C A V hi hAV.size hAV.os hAV.tape hAV.output fun b hb _ _ => hAV.block b hb
    have hCA := hIC k C A hi
    have hy : (Instr.yield (D0 + 1) #[v]).run P V = .ok (.round (D0 + 1) fn (a.tmps.setIfInBounds p0 v) assign body) V := by
      have := run_yield (P := P) (args := #[v]) hlV (by rw [hrc]; rfl)
      rw [hrc] at this
      simpa using this
    refine ⟨fn, a.tmps.setIfInBounds p0 v, assign, body, hy, roundIn_of_wpIn hfn (hassign (D0 + 1) k V v G' _ hk hr fun a₁ V' hV' hR => ?_)⟩
    have hlV' : V'.heap[D0 + 1]? = some (.loop (rc .ready)) := (hV'.block _ hltV).trans hlV
    have hltV' : D0 + 1 < V'.heap.size := Nat.lt_of_lt_of_le hltV hV'.size
    obtain ⟨X, hX⟩ : ∃ X, X = V'.putObj (D0 + 1) (.loop { rc .ready with state := .busy }) := ⟨_, rfl⟩
    have hXs : X.heap.size = V'.heap.size := by rw [hX]; simp
    have hXl : X.heap[D0 + 1]? = some (.loop { rc .ready with state := .busy }) := by rw [hX]; exact World.putObj_heap_same hltV'
    have hXo : ∀ b, b ≠ D0 + 1 → X.heap[b]? = V'.heap[b]? := fun b hb => by rw [hX]; exact World.putObj_heap_other hb
    have hsV := hV'.size
    refine ⟨X, ?_, ?_⟩
    · rw [hX]
      exact run_beginRound hlV' (by rw [hrc])
    have hXV : ∀ b, b < V.heap.size → b ≠ D0 + 1 → X.heap[b]? = V.heap[b]? := fun b hb hne => (hXo b hne).trans (hV'.block b hb)
    have hiX : I k C X := hI k C V X hiV (by omega) (by rw [hX]; exact hV'.os) (by rw [hX]; exact hV'.tape) (by rw [hX]; exact hV'.output) fun b hb _ hne => hXV b hb hne
    refine wpIn_mono (hbody _ k C V v G' a₁ V' X hk hiX (by omega) (fun b hb => Nat.lt_of_lt_of_le (hCA b hb).2.2 hAV.size) (fun b hb => ?_) (hr.still fun b hb => hXV b (hG b hb).2 (by have := (hG b hb).1; omega)) hR hV'.size hXs hXo) ?_
    · have h2 := hG b hb
      refine ⟨fun hc => ?_, by omega, by omega⟩
      have := (hCA b hc).2.2
      omega
    rintro e a3 Y ⟨rfl, hkp, C', hi3, hC'⟩
    have hYl : Y.heap[D0 + 1]? = some (.loop { rc .ready with state := .busy }) := (hkp.block _ (by omega) fun hc => (hCA _ hc).2.1 rfl).trans hXl
    have hYlt : D0 + 1 < Y.heap.size := (Array.getElem?_eq_some_iff.1 hYl).1
    have hYd : Y.heap[D0]? = some (.deferred (some [])) := ((hkp.block _ (by omega) fun hc => (hCA _ hc).1 rfl).trans (hXV _ (by omega) (by omega))).trans hdV
    have hend := run_endRound (P := P) none hYl
    have hback : (Obj.loop { ({ rc .ready with state := .busy } : Loop) with state := if (none : Option Code).isNone then .ready else .done, pending := none }) = .loop (rc .ready) := by rw [hrc]; rfl
    rw [hback] at hend
    refine ⟨_, _, hend, rfl, ⟨?_, ?_, ?_, ?_, ?_⟩, C', ⟨hIput _ _ _ _ hi3, World.putObj_heap_same hYlt, (World.putObj_heap_other (by omega)).trans hYd⟩, fun b hb => ?_⟩
    · show Y.os = V.os
      rw [hkp.os, hX]; exact hV'.os
    · show Y.tape = V.tape
      rw [hkp.tape, hX]; exact hV'.tape
    · show Y.output = V.output
      rw [hkp.output, hX]; exact hV'.output
    · rw [hputs]
      have := hkp.size
      omega
    · intro b hb hc
      by_cases q : b = D0 + 1
      · subst q
        rw [World.putObj_heap_same hYlt, hlV]
      · rw [World.putObj_heap_other q, hkp.block b (by omega) hc, hXV b hb q]
    · rcases hC' b hb with q | q
      · exact .inl q
      · exact .inr (by omega)
  · rintro e W2 ⟨⟨v, rfl⟩, C, A, ⟨hi, hl, hd⟩, hAW⟩
    have hlA : D0 + 1 < A.heap.size := (Array.getElem?_eq_some_iff.1 hl).1
    have hl2 : W2.heap[D0 + 1]? = some (.loop (rc .ready)) := (hAW.block _ hlA).trans hl
    have hd2 : W2.heap[D0]? = some (.deferred (some [])) := (hAW.block _ (by omega)).trans hd
    have hi2 : I N C W2 := hI N C A W2 hi hAW.size hAW.os hAW.tape hAW.output fun b hb _ _ => hAW.block b hb
    have hend := run_endLoop (P := P) hl2 (by rw [hrc]; simp)
    have hp : (rc .ready).pending = none := by rw [hrc]
    rw [hp] at hend
    exact ⟨none, _, hend, hdone C _ (hIput _ _ _ _ hi2) ((World.putObj_heap_other (by omega)).trans hd2)⟩
end
end Go.Proofs.YtaopkjgldokahaaGreatDoor
namespace Go.Proofs.YtaopkjgldokahaaGreatDoor
open Go.RowKit Go.Shelf
attribute [local go_sem] Oper.semAt_some

/-! The groups of a coalition: the iterator. -/
def groupOf (I : List IssuedD) (V : List SeenD) (n : Nat) : GroupD := ⟨(n : Int), decide ((ofA I V (n : Int)).length = 0), ofA I V (n : Int)⟩
def groupsL (I : List IssuedD) (L : List SightD) (c : List Int) : List GroupD := (List.range (manyL c L)).map (groupOf I (viewL c L))
theorem tup2_inv {w : World} {E : Env} {d : D} {e : IE} {v : Value} (h : DRep w E (.tup [d, .int .i64 e]) v) : ∃ u, v = .tuple #[u, .int .i64 e.den] ∧ DRep w E d u := by
  cases h with
  | @tup E l vs hs hh =>
    obtain ⟨vl⟩ := vs
    match vl, hs with
    | [u, x], _ =>
      have h1 := hh 1 _ x rfl rfl
      cases h1
      exact ⟨u, rfl, hh 0 d u rfl rfl⟩
theorem tup2N_inv {w : World} {E : Env} {d : D} {n : Nat} {v : Value} (h : DRep w E (.tup [d, .int .i64 (.nat n)]) v) : ∃ u, v = .tuple #[u, .int .i64 (n : Int)] ∧ DRep w E d u := tup2_inv h
theorem tup2V_inv {w : World} {E : Env} {d : D} {n : Int} {v : Value} (h : DRep w E (.tup [d, i64 n]) v) : ∃ u, v = .tuple #[u, .int .i64 n] ∧ DRep w E d u := tup2_inv h
theorem slm_inv {w : World} {E : Env} {α : Type} {n : Nat} {nb : Option BE} {c : α → List D} {l : List α} {v : Value} (h : DRep w E (.slm n nb c l) v) : ∃ a m cap, v = .slice a m cap := by
  generalize hd : D.slm n nb c l = d at h
  cases h with
  | slm => exact ⟨_, _, _, rfl⟩
  | _ => cases hd
theorem still_laid {W W' : World} {G G' : Nat → Prop} (h : Laid W G) (hb : ∀ b, G b → W'.heap[b]? = W.heap[b]?) (hG : ∀ b, G b → G' b) : Laid W' G' :=
  fun p hp => (h p hp).move ⟨hG, hb⟩ ⟨fun _ => Nat.le_refl _, fun _ _ => ⟨rfl, fun _ _ => rfl⟩⟩
theorem still_rep {W W' : World} {G G' : Nat → Prop} {d : D} {v : Value} (h : DRep W (Env.of G) d v) (hb : ∀ b, G b → W'.heap[b]? = W.heap[b]?) (hG : ∀ b, G b → G' b) : DRep W' (Env.of G') d v :=
  h.move ⟨hG, hb⟩ ⟨fun _ => Nat.le_refl _, fun _ _ => ⟨rfl, fun _ _ => rfl⟩⟩
theorem lrep2 {w : World} {E : Env} {d1 d2 : D} {v1 v2 : Value} (h1 : DRep w E d1 v1) (h2 : DRep w E d2 v2) : LRep w E [d1, d2] #[v1, v2] :=
  ⟨rfl, fun i d v q1 q2 => by
    match i with
    | 0 => cases q1; cases q2; exact h1
    | 1 => cases q1; cases q2; exact h2
    | i + 2 => simp at q1⟩
theorem lrep3 {w : World} {E : Env} {d1 d2 d3 : D} {v1 v2 v3 : Value} (h1 : DRep w E d1 v1) (h2 : DRep w E d2 v2) (h3 : DRep w E d3 v3) : LRep w E [d1, d2, d3] #[v1, v2, v3] :=
  ⟨rfl, fun i d v q1 q2 => by
    match i with
    | 0 => cases q1; cases q2; exact h1
    | 1 => cases q1; cases q2; exact h2
    | 2 => cases q1; cases q2; exact h3
    | i + 3 => simp at q1⟩
theorem agg2 {w : World} {E : Env} {d1 d2 : D} {v1 v2 : Value} (h1 : DRep w E d1 v1) (h2 : DRep w E d2 v2) : DRep w E (.agg [d1, d2]) (.agg #[v1, v2]) :=
  .agg rfl fun i d v q1 q2 => by
    match i with
    | 0 => cases q1; cases q2; exact h1
    | 1 => cases q1; cases q2; exact h2
    | i + 2 => simp at q1
theorem inr_nat {n : Nat} (h : n ≤ 9223372036854775807) : InR .i64 (n : Int) := by
  show IntKind.i64.min ≤ (n : Int) ∧ (n : Int) ≤ IntKind.i64.max
  simp [IntKind.min, IntKind.max, IntKind.signed, IntKind.bits]
  omega
theorem many_le (c : List Int) (l : List SightD) : manyL c l ≤ l.length := by
  unfold manyL
  have h1 := cntR_le (leadOf (sightsL31 c l)) (sightsL31 c l).length
  have h2 : (sightsL31 c l).length ≤ l.length := List.length_filter_le _ _
  omega
set_option maxRecDepth 100000 in
set_option maxHeartbeats 2000000 in
theorem it78 (I : List IssuedD) (L : List SightD) (c : List Int) (nI nL nc : Option BE) (hI : BigI I) (hS : BigS (viewL c L)) (hc : c.length < 9223372036854775807) (hl : L.length ≤ 1000)
    (w : World) (G : Nat → Prop) (hG : ∀ b, G b → b < w.heap.size) (hLd : Laid w G) (b1 o1 b2 o2 b3 o3 : Nat) (v1 v2 v3 : Value) (g1 : G b1) (g2 : G b2) (g3 : G b3)
    (c1 : w.cell? ⟨b1, o1, none⟩ = some v1) (c2 : w.cell? ⟨b2, o2, none⟩ = some v2) (c3 : w.cell? ⟨b3, o3, none⟩ = some v3)
    (r1 : DRep w (Env.of G) (.slm 37 nL SightD.c L) v1) (r2 : DRep w (Env.of G) (.slm 1 nc intC c) v2) (r3 : DRep w (Env.of G) (.slm 3 nI IssuedD.c I) v3) :
    SeqD Fence.wide 2 Tryz.prog 65 #[.pointer (some ⟨b1, o1, none⟩), .pointer (some ⟨b2, o2, none⟩), .pointer (some ⟨b3, o3, none⟩)] (manyL c L) (fun n => .agg (groupOf I (viewL c L) n).c) w := by
  intro l J C0 W hW hC0 hY hJ0
  have hJn := join_pure L c nL nc hc hl
  have hOf := fun n : Nat => Of_pureF I (viewL c L) (n : Int) nI none hI hS
  have hml := many_le c L
  have hgb : ∀ n : Nat, (groupOf I (viewL c L) n).c = [i64 (n : Int), .slm 1 (some (.var (decide ((ofA I (viewL c L) (n : Int)).length = 0)))) intC (ofA I (viewL c L) (n : Int))] := fun n => rfl
  obtain ⟨N, hN⟩ : ∃ N, N = manyL c L := ⟨_, rfl⟩
  obtain ⟨V, hV⟩ : ∃ V, V = viewL c L := ⟨_, rfl⟩
  rw [← hN] at hJn hY hml ⊢
  rw [← hV] at hJn hOf hgb
  rw [← hV] at hY
  simp only [hgb] at hY
  obtain ⟨po, hpo⟩ : ∃ f : Nat → List Int, f = fun n : Nat => ofA I V (n : Int) := ⟨_, rfl⟩
  obtain ⟨pe, hpe⟩ : ∃ f : Nat → Bool, f = fun n : Nat => decide ((ofA I V (n : Int)).length = 0) := ⟨_, rfl⟩
  obtain ⟨er, her⟩ : ∃ f : Nat → Int, f = fun n : Nat => if okOf I V (n : Int) then 0 else 300 := ⟨_, rfl⟩
  have hOf2 : ∀ n : Nat, PureF Tryz.prog 67 [.slm 3 nI IssuedD.c I, .slm 4 none SeenD.c V, i64 (n : Int)] (.tup [.slm 1 (some (.var (pe n))) intC (po n), i64 (er n)]) := fun n => by rw [hpo, hpe, her]; exact hOf n
  have hY2 : YieldsTo Fence.wide (2 - 1) Tryz.prog l N (fun n => .agg [i64 (n : Int), .slm 1 (some (.var (pe n))) intC (po n)]) J := by rw [hpo, hpe]; exact hY
  clear hgb hS hV hN hOf hpo hpe her hY
  have hWs := hW.size
  have st : ∀ b, G b → W.heap[b]? = w.heap[b]? := fun b hb => hW.block b (hG b hb)
  have hGW : ∀ b, G b → b < W.heap.size := fun b hb => Nat.lt_of_lt_of_le (hG b hb) hWs
  rw [← hW.cell (p := ⟨b1, _, none⟩) (hG _ g1)] at c1
  rw [← hW.cell (p := ⟨b2, _, none⟩) (hG _ g2)] at c2
  rw [← hW.cell (p := ⟨b3, _, none⟩) (hG _ g3)] at c3
  have q1 := r1.still st
  have q2 := r2.still st
  have q3 := r3.still st
  have hLW := still_laid hLd st fun _ h => h
  have hcall := hJn.2 W G #[v1, v2] hLW hGW (lrep2 q1 q2)
  have C3 := Lib.hid c3
  have g3W := hGW _ g3
  clear r1 r2 r3 hW c3 q1 q2 st
  have HY := Lib.hid hY2
  have HO := Lib.hid hOf2
  have HJ := Lib.hid hJ0
  have HC := Lib.hid hC0
  have HG := Lib.hid hG
  have HL := Lib.hid hLW
  have HR := Lib.hid q3
  have HGW := Lib.hid hGW
  clear hY2 hOf2 hJ0 hC0 hG hLd hLW q3 hGW hJn
  have hf79 : Fence.wide.fn 66 := trivial
  have hf13 : Fence.wide.fn 67 := trivial
  refine callsIn_of_wp Tryz.func65 rfl trivial ?_ rfl
  simp only [Tryz.ntmps65, List.size_toArray, List.length_cons, List.length_nil, Nat.reduceAdd, Nat.reduceSub, Array.replicate_succ, Array.replicate_zero, List.push_toArray, List.append_toArray, List.nil_append, List.cons_append]
  gi_wp2_with (gi_at_call 66; refine (callsIn_wide.2 hcall).mono ?_; rintro e W2 ⟨vt, G2, rfl, hb2, hGs, hGn, hGl, hr2⟩; obtain ⟨vv, rfl, hrv⟩ := tup2N_inv hr2; clear hr2 hcall)
  have st2 : ∀ b, G b → W2.heap[b]? = W.heap[b]? := fun b hb => hb2.block b (HGW.out b hb)
  have L2 := Lib.hid (still_laid HL.out st2 hGs)
  have R2 := Lib.hid (still_rep HR.out st2 hGs)
  have RV := Lib.hid hrv
  have GL := Lib.hid hGl
  have c3 := C3.out
  rw [← hb2.cell (p := ⟨b3, _, none⟩) g3W] at c3
  have C32 := Lib.hid c3
  have g32 : G2 b3 := hGs _ g3
  have J0' : ∃ C A, J 0 C A ∧ Below A.heap.size A W2 ∧ (∀ b, C b → ¬ G2 b) ∧ (∀ b, G2 b → W2.heap[b]? = W2.heap[b]?) ∧ W2.heap.size ≤ W2.heap.size :=
    ⟨C0, W, HJ.out, hb2, fun b hb hg => by
      have h1 := HC.out b hb
      rcases hGn b hg with q | q
      · have := HG.out b q; omega
      · omega, fun _ _ => rfl, Nat.le_refl _⟩
  have JJ := Lib.hid J0'
  clear J0' c3 hrv hGl st2 hGs hGn hb2 HL HR HGW HG HJ HC C3
  gi_loopw [17] (fun m wr => ∃ k : Nat, k ≤ N ∧ m = .int .i64 k ∧ Hid (∃ C A, J k C A ∧ Below A.heap.size A wr ∧ (∀ b, C b → ¬ G2 b) ∧ (∀ b, G2 b → wr.heap[b]? = W2.heap[b]?) ∧ W2.heap.size ≤ wr.heap.size)) (fun m _ => N - (intOf m).toNat)
  case atStart => exact ⟨0, by omega, rfl, JJ⟩
  case round =>
    obtain ⟨k, hk, rfl, HI⟩ := hrel
    by_cases hlt : k < N
    · have hlt' : (k : Int) < N := by omega
      obtain ⟨wo, rfl⟩ : ∃ wo : World, wo = wr := ⟨_, rfl⟩
      obtain ⟨C, A, hj, hA, hd, hg, hs⟩ := HI.out
      have c3 := C32.out
      rw [← World.cell?_of_block (a := ⟨b3, o3, none⟩) (hg b3 g32)] at c3
      have hG2w : ∀ b, G2 b → b < wo.heap.size := fun b hb => Nat.lt_of_lt_of_le (GL.out b hb) hs
      have hof := (HO.out k).2 wo G2 #[v3, vv, .int .i64 (k : Int)] (still_laid L2.out hg fun _ h => h) hG2w (lrep3 (R2.out.still hg) (RV.out.still hg) (.int (inr_nat (by omega))))
      have HD := Lib.hid hd
      have HA := Lib.hid hA
      have HK := Lib.hid hj
      have HS := Lib.hid hg
      have HW := Lib.hid hG2w
      clear hd hA hj hg hG2w
      gi_wp2_with (gi_at_call 67; refine (callsIn_wide.2 hof).mono ?_; rintro e W3 ⟨vt3, G3, rfl, hb3, hG3, hr3⟩; obtain ⟨pv, rfl, hrp⟩ := tup2V_inv hr3; obtain ⟨pa, pm, pc, rfl⟩ := slm_inv hrp; obtain ⟨fn, tmps, assign, body, hy, hR⟩ := HY.out k C A W3 (.agg #[.int .i64 (k : Int), .slice pa pm pc]) G3 hlt HK.out (HA.out.trans (hb3.mono HA.out.size)) (fun b hb => ⟨Nat.le_trans HA.out.size (hG3 b hb).1, (hG3 b hb).2⟩) (agg2 (.int (inr_nat (by omega))) hrp); clear hr3 hof)
      refine hR.mono ?_
      clear hR hy hrp
      rintro e W4 ⟨rfl, hkp, C', hj', hC'⟩
      have h34 := hb3.size
      have h44 := hkp.size
      have hG24 : ∀ b, G2 b → W4.heap[b]? = W2.heap[b]? := fun b hb => by
        have h5 := HW.out b hb
        rw [hkp.block b (by omega) fun hc => HD.out b hc hb, hb3.block b h5, HS.out b hb]
      have JN := Lib.hid (show ∃ C A, J (k + 1) C A ∧ Below A.heap.size A W4 ∧ (∀ b, C b → ¬ G2 b) ∧ (∀ b, G2 b → W4.heap[b]? = W2.heap[b]?) ∧ W2.heap.size ≤ W4.heap.size from
        ⟨C', W4, hj', Below.refl _ _, fun b hb hg => by
          rcases hC' b hb with q | q
          · exact HD.out b q hg
          · have := HW.out b hg; omega, hG24, by omega⟩)
      clear hkp hj' hC' hG24 hb3 hG3 HD HA HK HS HW c3
      gi_wp2
      go_roundw
      case rel => exact ⟨k + 1, by omega, by go_num, JN⟩
      case measure => simp [intOf]; omega
    · gi_wp2
      go_end0
      obtain rfl : k = N := by omega
      obtain ⟨C, A, hj, hA, _⟩ := HI.out
      exact ⟨⟨_, rfl⟩, C, A, hj, hA⟩
end Go.Proofs.YtaopkjgldokahaaGreatDoor
namespace Go.Proofs.YtaopkjgldokahaaGreatDoor
open Go.RowKit Go.Shelf
attribute [local go_sem] Oper.semAt_some

/-! slices.Collect of the groups of a coalition. -/
theorem slm_of_rows {w : World} {B ty n : Nat} {α : Type} {c : α → List D} {l : List α} {xs : List Value} {v : Value} {G : Nat → Prop} (h : w.ownsRow B ty n v l.length xs) (hn : ∀ x ∈ l, (c x).length = n)
    (hg : ∀ b, some b = v.ownBlock → G b) (hv : v = .slice none 0 0 ↔ l = []) (hx : ∀ (i : Nat) x (j : Nat) d, l[i]? = some x → (c x)[j]? = some d → ∃ u, xs[i * n + j]? = some u ∧ DRep w (Env.of G) d u) :
    DRep w (Env.of G) (.slm n (some (.var l.isEmpty)) c l) v := by
  obtain ⟨hlen, h2⟩ := h
  rcases h2 with ⟨hvn, hl⟩ | ⟨g, cap, cur, hvs, _, hh, hc, hm, hs, ht⟩
  · obtain rfl : l = [] := List.eq_nil_of_length_eq_zero hl
    subst hvn
    exact DRep.slm (l := []) (fun _ _ => undef) (fun e h => by cases h; rfl) (Nat.le_refl _) (Nat.zero_le _) (fun x hx => by cases hx) (fun h => absurd rfl h) fun i x j d h => by simp at h
  · have hne : l ≠ [] := fun e => by
      have := hv.2 e
      rw [hvs] at this
      cases this
    subst hvs
    have hget : ∀ i, i < l.length * n → cur[i]? = xs[i]? := fun i hi => by
      rw [← ht, List.getElem?_take, if_pos hi]
      simp
    refine DRep.slm (fun i j => cur.getD (i * n + j) undef) (fun e h => by cases h; cases l with | nil => exact absurd rfl hne | cons a t => rfl) hc hm hn (fun _ => ⟨g, 0, rfl, hg g rfl, fun i j hi hj => ?_⟩) fun i x j d h1 h2 => ?_
    · rw [cell_of_row w g _ cur ty (0, 0) hh]
      have h3 : i * n + j < l.length * n := by
        have : (i + 1) * n ≤ l.length * n := Nat.mul_le_mul_right _ hi
        rw [Nat.add_mul] at this
        omega
      have h4 : l.length * n ≤ cap * n := Nat.mul_le_mul_right _ hc
      have : i * n + j < cur.size := by rw [hs]; omega
      rw [show 0 + i * n + j = i * n + j by omega]
      simp [Array.getD, this]
    · obtain ⟨u, hu, hr⟩ := hx i x j d h1 h2
      have hi : i < l.length := (List.getElem?_eq_some_iff.1 h1).1
      have hj : j < n := by rw [← hn x (List.mem_of_getElem? h1)]; exact (List.getElem?_eq_some_iff.1 h2).1
      have h3 : i * n + j < l.length * n := by
        have : (i + 1) * n ≤ l.length * n := Nat.mul_le_mul_right _ hi
        rw [Nat.add_mul] at this
        omega
      have h5 := hget _ h3
      rw [hu] at h5
      obtain ⟨q, h6⟩ := Array.getElem?_eq_some_iff.1 h5
      have h7 : cur.getD (i * n + j) undef = u := by simp [Array.getD, q, h6]
      show DRep w (Env.of G).data d (cur.getD (i * n + j) undef)
      rw [h7]
      exact hr
theorem info42 : ∃ i, Tryz.prog.info? 57 = some i ∧ i.zero = some (.agg #[.int .i64 0, .slice none 0 0]) ∧ i.size = 2 ∧ i.bytes = 32 := by
  have h : (Tryz.prog.info? 57).map (fun i => (i.zero, i.size, i.bytes)) = some (some (.agg #[.int .i64 0, .slice none 0 0]), 2, 32) := by kernel_rfl
  cases hi : Tryz.prog.info? 57 with
  | none => rw [hi] at h; cases h
  | some i =>
    rw [hi] at h
    simp only [Option.map_some, Option.some.injEq, Prod.mk.injEq] at h
    exact ⟨i, rfl, h.1, h.2.1, h.2.2⟩
/-- what lies between two rounds -/
def CiG (B0 : Nat) (w : World) (gs : Nat → GroupD) (k : Nat) (C : Nat → Prop) (W : World) : Prop :=
  ∃ (v : Value) (xs : List Value) (Gf : Nat → Prop), Boxed W B0 58 v ∧ W.ownsRow B0 57 2 v k xs ∧ (v = .slice none 0 0 ↔ k = 0) ∧ Below B0 w W ∧ (∀ b, C b ↔ b = B0 ∨ some b = v.ownBlock) ∧ (∀ b, Gf b → B0 + 3 ≤ b ∧ b < W.heap.size ∧ ¬ C b) ∧ (∀ b, some b = v.ownBlock → B0 + 3 ≤ b) ∧
    ∀ i, i < k → xs[i * 2]? = some (.int .i64 (gs i).group) ∧ ∃ u, xs[i * 2 + 1]? = some u ∧ DRep W (Env.of Gf) (.slm 1 (some (.var (gs i).nil)) intC (gs i).persons) u
theorem ownBlock_lt {W : World} {B ty n k : Nat} {v : Value} {xs : List Value} (h : W.ownsRow B ty n v k xs) : ∀ b, some b = v.ownBlock → B ≤ b ∧ b < W.heap.size := fun b hb => by
  rcases h.2 with ⟨rfl, _⟩ | ⟨g, cap, cur, rfl, hg, hh, _⟩
  · cases hb
  · have e : b = g := by simpa [Value.ownBlock] using hb
    subst e
    exact ⟨hg, (Array.getElem?_eq_some_iff.1 hh).1⟩
theorem ownsRow_still {W W' : World} {B ty n k : Nat} {v : Value} {xs : List Value} (h : W.ownsRow B ty n v k xs) (hb : ∀ b, some b = v.ownBlock → W'.heap[b]? = W.heap[b]?) : W'.ownsRow B ty n v k xs := by
  refine ⟨h.1, ?_⟩
  rcases h.2 with q | ⟨g, cap, cur, rfl, hg, hh, q⟩
  · exact .inl q
  · exact .inr ⟨g, cap, cur, rfl, hg, (hb g rfl).trans hh, q⟩
theorem ciG_still {B0 : Nat} {w : World} {gs : Nat → GroupD} {k : Nat} {C : Nat → Prop} {A B : World} (hB0 : B0 ≤ w.heap.size) (h : CiG B0 w gs k C A) (hs : A.heap.size ≤ B.heap.size) (h1 : B.os = A.os) (h2 : B.tape = A.tape) (h3 : B.output = A.output)
    (hb : ∀ b, b < A.heap.size → b ≠ B0 + 1 → b ≠ B0 + 2 → B.heap[b]? = A.heap[b]?) : CiG B0 w gs k C B := by
  obtain ⟨v, xs, Gf, q1, q2, q3, q4, q5, q6, q7, q8⟩ := h
  have hlt := q1.lt
  refine ⟨v, xs, Gf, (hb _ hlt (by omega) (by omega)).trans q1, ownsRow_still q2 fun b e => hb b (ownBlock_lt q2 b e).2 (by have := q7 b e; omega) (by have := q7 b e; omega), q3,
    ⟨h1.trans q4.os, h2.trans q4.tape, h3.trans q4.output, Nat.le_trans q4.size hs, fun b hk => (hb b (by omega) (by omega) (by omega)).trans (q4.block b hk)⟩, q5, fun b hg => ⟨(q6 b hg).1, Nat.lt_of_lt_of_le (q6 b hg).2.1 hs, (q6 b hg).2.2⟩, q7, fun i hi => ?_⟩
  obtain ⟨r1, u, r2, r3⟩ := q8 i hi
  exact ⟨r1, u, r2, r3.still fun b hg => hb b (q6 b hg).2.1 (by have := (q6 b hg).1; omega) (by have := (q6 b hg).1; omega)⟩
theorem agg_group {w : World} {E : Env} {g : GroupD} {v : Value} (h : DRep w E (.agg g.c) v) : ∃ a m c, v = .agg #[.int .i64 g.group, .slice a m c] ∧ DRep w E (.slm 1 (some (.var g.nil)) intC g.persons) (.slice a m c) := by
  cases h with
  | @agg E l vs hs hh =>
    obtain ⟨vl⟩ := vs
    match vl, hs with
    | [u, x], _ =>
      have h1 := hh 0 _ u rfl rfl
      have h2 := hh 1 _ x rfl rfl
      cases h1
      obtain ⟨a, m, c, rfl⟩ := slm_inv h2
      exact ⟨a, m, c, rfl, h2⟩
theorem two_new (w : World) (t : TypeId) (a b : Value) : ∀ (j : Nat) (u : Value), [a, b][j]? = some u → (w.alloc (.cells #[a, b] t)).cell? ((⟨w.heap.size, 0, none⟩ : Addr).add j) = some u := fun j u h => by
  have hh := heap_alloc_new w (.cells #[a, b] t)
  match j with
  | 0 =>
    cases h
    show World.cell? _ ⟨w.heap.size, 0, none⟩ = _
    unfold World.cell?
    rw [hh]
    rfl
  | 1 =>
    cases h
    show World.cell? _ ⟨w.heap.size, 1, none⟩ = _
    unfold World.cell?
    rw [hh]
    rfl
  | j + 2 => simp at h
set_option maxRecDepth 100000 in
set_option maxHeartbeats 2000000 in
theorem append_groups (gf : Nat) (lb : Array Value) (eg : ∀ args w, (callFunc gf args).run Tryz.prog w = .ok (.enter gf args) w) (N : Nat) (hN : N ≤ 1000000) (gs : Nat → GroupD) (hgr : ∀ i, i < N → InR .i64 (gs i).group) (w : World)
    (hseq : SeqD Fence.wide 2 Tryz.prog gf lb N (fun n => .agg (gs n).c) w) :
    CallsIn Fence.wide 3 Tryz.prog 64 #[.slice none 0 0, .func (.func gf) #[] lb] w fun e w' => ∃ (v : Value) (G' : Nat → Prop), e = .returned v ∧ Below w.heap.size w w' ∧ (∀ b, G' b → w.heap.size ≤ b ∧ b < w'.heap.size) ∧
      DRep w' (Env.of G') (.slm 2 (some (.var ((List.range N).map gs).isEmpty)) GroupD.c ((List.range N).map gs)) v := by
  obtain ⟨i0, hi, hz0, hz1, hz2⟩ := info42
  refine callsIn_of_wp_marks Tryz.func64 rfl trivial ?_ rfl
  simp only [Tryz.ntmps64, List.size_toArray, List.length_cons, List.length_nil, Nat.reduceAdd, Nat.reduceSub, Array.replicate_succ, Array.replicate_zero, List.push_toArray, List.append_toArray, List.nil_append, List.cons_append]
  gi_wp2
  have bX : Boxed (w.alloc (.cells #[.slice none 0 0] 58)) w.heap.size 58 (.slice none 0 0) := heap_alloc_new w _
  have hB0 : Below w.heap.size w (w.alloc (.cells #[.slice none 0 0] 58)) := (Below.refl _ _).alloc (Nat.le_refl _) _
  have hsz : (w.alloc (.cells #[.slice none 0 0] 58)).heap.size = w.heap.size + 1 := by simp
  generalize w.alloc (.cells #[.slice none 0 0] 58) = W0 at *
  refine wpIn_rangeFunc_D rfl (by omega) (n := 3) (gf := gf) (lb := lb) rfl trivial eg hseq hB0 (CiG w.heap.size w gs) (fun b => b = w.heap.size) (fun b hb => by omega)
    ⟨.slice none 0 0, [], fun _ => False, bX, World.ownsRow_nil _ _ _ _, by simp, hB0, fun b => by simp [Value.ownBlock], fun b h => h.elim, fun b h => by simp [Value.ownBlock] at h, fun i h => by omega⟩
    (fun k C A B h h1 h2 h3 h4 h5 => ciG_still (Nat.le_refl _) h h1 h2 h3 h4 fun b hb e1 e2 => h5 b hb (by omega) (by omega)) (fun k C A h b hb => ?_)
    (fun k v W a₁ W' => ∃ pa pm pc, v = .agg #[.int .i64 (gs k).group, .slice pa pm pc] ∧ W' = W.alloc (.cells #[.int .i64 (gs k).group, .slice pa pm pc] 57) ∧
      a₁ = { tmps := #[.slice none 0 0, .func (.func gf) #[] lb, .pointer (some ⟨w.heap.size, 0, none⟩), undef, .slice none 0 0, .pointer (some ⟨W.heap.size, 0, none⟩), .func (.func gf) #[] lb, v, undef, undef, undef, undef, undef], defers := [] })
    ?assign ?body ?done
  · obtain ⟨v, xs, Gf, q1, q2, q3, q4, q5, q6, q7, q8⟩ := h
    have := q1.lt
    rcases (q5 b).1 hb with e | e
    · omega
    · have h1 := q7 b e
      have h2 := (ownBlock_lt q2 b e).2
      omega
  case assign =>
    intro l k W v G' K hk hr hK
    obtain ⟨pa, pm, pc, rfl, _⟩ := agg_group hr
    have hK2 := hK _ _ ((Below.refl _ W).alloc (Nat.le_refl _) (.cells #[.int .i64 (gs k).group, .slice pa pm pc] 57)) ⟨pa, pm, pc, rfl, rfl, rfl⟩
    clear hK hr
    gi_wp2
    exact hK2
  case body =>
    intro l k C W v0 G' a₁ W' X hk hI hW hCW hG' hr hR hs1 hs2 hs3
    obtain ⟨pa, pm, pc, rfl, rfl, rfl⟩ := hR
    obtain ⟨pa', pm', pc', he, hrp⟩ := agg_group hr
    cases he
    obtain ⟨v, xs, Gf, q1, q2, q3, q4, q5, q6, q7, q8⟩ := hI
    have hE : X.heap[W.heap.size]? = some (.cells #[.int .i64 (gs k).group, .slice pa pm pc] 57) := (hs3 _ (by omega)).trans (heap_alloc_new W _)
    have cE0 : X.cell? ⟨W.heap.size, 0, none⟩ = some (.int .i64 (gs k).group) := by simp [World.cell?, hE]
    have cE1 : X.cell? ⟨W.heap.size, 1, none⟩ = some (.slice pa pm pc) := by simp [World.cell?, hE]
    have cX := q1.cell
    have hBs : w.heap.size ≤ X.heap.size := q4.size
    have hXW : W.heap.size < X.heap.size := by rw [hs2]; simp
    have hmax : k + 1 ≤ maxLen := by unfold maxLen; omega
    have H1 := Lib.hid q1
    have H2 := Lib.hid q2
    have H3 := Lib.hid q3
    have H4 := Lib.hid q4
    have H5 := Lib.hid q5
    have H6 := Lib.hid q6
    have H7 := Lib.hid q7
    have H8 := Lib.hid q8
    have HC := Lib.hid hCW
    have HG := Lib.hid hG'
    have HR := Lib.hid hrp
    obtain ⟨gg, hgg⟩ : ∃ x, x = (gs k).group := ⟨_, rfl⟩
    rw [← hgg] at cE0 ⊢
    have HE := Lib.hid hgg
    clear q1 q2 q3 q4 q5 q6 q7 q8 hCW hG' hrp hr hE hs2 hs3 hs1 bX hB0 hgg hseq
    gi_wp2_with (gi_at_builtin; refine wpListIn_append_own_at _ rfl _ _ 58 rfl w.heap.size 57 i0 (.agg #[.int .i64 0, .slice none 0 0]) 2 32 Tryz.underlying58 hi hz0 hz1 hz2 rfl (by decide) _ _ _ rfl (H2.out.alloc _) ⟨X.heap.size, 0, none⟩ 1 1 [.int .i64 gg, .slice pa pm pc] rfl rfl (two_new _ _ _ _) (by simp [Value.oneCell']) hmax (by omega) (by simp; omega) ?_; intro v' w9 hown' hgrow hnil' hat; obtain ⟨g', cap9, rfl⟩ := ownsRow_succ hown'; obtain ⟨hv1, hv2, hr2, hk2, hb2⟩ := H1.out.appended (by decide) H2.out hBs (Nat.le_refl _) hown' hgrow; have hc1 := hv1.cell; have hf1 := hv1.frozen)
    obtain ⟨Y, hY⟩ : ∃ Y, Y = w9.setCell ⟨w.heap.size, 0, none⟩ (.slice (some ⟨g', 0, none⟩) (k + 1) cap9) := ⟨_, rfl⟩
    rw [← hY] at hv2 hr2 hk2 hb2 ⊢
    have hlen := H2.out.1
    have hYo : ∀ b, b ≠ w.heap.size → Y.heap[b]? = w9.heap[b]? := fun b hb => by rw [hY]; exact Below.heap_setCell w9 _ _ b hb
    have keep : ∀ b, b < X.heap.size → ¬ C b → Y.heap[b]? = X.heap[b]? := fun b hb hc => by
      have hc2 : ¬ (b = w.heap.size ∨ some b = v.ownBlock) := fun h => hc ((H5.out b).2 h)
      rw [hYo b fun h => hc2 (.inl h), hgrow.block b (by simp; omega) fun h => hc2 (.inr h)]
      exact Below.heap_alloc X _ b hb
    have hsY := hb2.size
    have hlt9 : g' < Y.heap.size := (ownBlock_lt hr2 g' rfl).2
    have hnew : some g' = v.ownBlock ∨ g' = X.heap.size + 1 := by
      rcases hat with h | h
      · exact .inl h
      · have h2 : some g' = some ((X.alloc (.cells #[.int .i64 gg, .slice pa pm pc] 57)).heap.size) := h
        simp at h2
        exact .inr h2
    refine ⟨⟨hb2.os, hb2.tape, hb2.output, hb2.size, keep⟩, fun b => b = w.heap.size ∨ some b = (Value.slice (some ⟨g', 0, none⟩) (k + 1) cap9).ownBlock, ⟨.slice (some ⟨g', 0, none⟩) (k + 1) cap9, xs ++ [.int .i64 gg, .slice pa pm pc], fun b => Gf b ∨ G' b, hv2, hr2, by simp, H4.out.trans hb2, fun b => Iff.rfl, ?_, ?_, ?_⟩, ?_⟩
    · intro b hb
      have h1 : w.heap.size + 3 ≤ b ∧ b < X.heap.size ∧ ¬ C b := by
        rcases hb with q | q
        · exact H6.out b q
        · have := HG.out b q
          exact ⟨by omega, by omega, this.1⟩
      refine ⟨h1.1, by omega, fun h => ?_⟩
      rcases h with h | h
      · omega
      · have h2 : b = g' := by simpa [Value.ownBlock] using h
        rcases hnew with q | q
        · exact h1.2.2 ((H5.out b).2 (.inr (by rw [h2]; exact q)))
        · omega
    · intro b h
      have h2 : b = g' := by simpa [Value.ownBlock] using h
      rcases hnew with q | q
      · rw [h2]
        exact H7.out g' q
      · omega
    · intro i hik
      have hkeepG : ∀ b, Gf b ∨ G' b → Y.heap[b]? = X.heap[b]? := fun b hb => by
        rcases hb with q | q
        · exact keep b (H6.out b q).2.1 (H6.out b q).2.2
        · have := HG.out b q
          exact keep b (by omega) this.1
      by_cases hlt : i < k
      · obtain ⟨r1, u, r2, r3⟩ := H8.out i hlt
        refine ⟨by rw [List.getElem?_append_left (by omega)]; exact r1, u, by rw [List.getElem?_append_left (by omega)]; exact r2, ?_⟩
        exact still_rep r3 (fun b hb => hkeepG b (.inl hb)) fun b hb => .inl hb
      · obtain rfl : i = k := by omega
        refine ⟨?_, _, ?_, still_rep HR.out (fun b hb => hkeepG b (.inr hb)) fun b hb => .inr hb⟩
        · rw [List.getElem?_append_right (by omega), show i * 2 - xs.length = 0 by omega, ← HE.out]
          rfl
        · rw [List.getElem?_append_right (by omega), show i * 2 + 1 - xs.length = 1 by omega]
          rfl
    · intro b h
      rcases h with h | h
      · exact .inl ((H5.out b).2 (.inl h))
      · have h2 : b = g' := by simpa [Value.ownBlock] using h
        rcases hnew with q | q
        · exact .inl ((H5.out b).2 (.inr (by rw [h2]; exact q)))
        · exact .inr (by omega)
  case done =>
    intro C W hI hK
    obtain ⟨v, xs, Gf, q1, q2, q3, q4, q5, q6, q7, q8⟩ := hI
    have cX := q1.cell
    have fX := q1.frozen
    have hlt := q1.lt
    have H1 := Lib.hid q1
    have H2 := Lib.hid q2
    have H3 := Lib.hid q3
    have H4 := Lib.hid q4
    have H6 := Lib.hid q6
    have H7 := Lib.hid q7
    have H8 := Lib.hid q8
    have HK := Lib.hid hK
    have HZ := Lib.hid hsz
    clear q1 q2 q3 q4 q5 q6 q7 q8 hK bX hB0 hseq hsz
    gi_wp2
    have hsz := HZ.out
    have st : ∀ b, b ≠ W0.heap.size → (W.putObj W0.heap.size (.deferred none)).heap[b]? = W.heap[b]? := fun b hb => World.putObj_heap_other hb
    have hb4 : Below w.heap.size w (W.putObj W0.heap.size (.deferred none)) := ⟨H4.out.os, H4.out.tape, H4.out.output, by simpa using H4.out.size, fun b hb => (st b (by omega)).trans (H4.out.block b hb)⟩
    refine ⟨by simp, .inl ⟨_, _, rfl, run_takeDeferred HK.out, ?_⟩⟩
    have hob : ∀ b, some b = v.ownBlock → w.heap.size + 3 ≤ b ∧ b < W.heap.size := fun b hb => ⟨H7.out b hb, (ownBlock_lt H2.out b hb).2⟩
    refine ⟨_, results_tmp rfl _ _ _, v, fun b => Gf b ∨ some b = v.ownBlock, rfl, hb4, fun b hb => ?_, ?_⟩
    · have hs4 : (W.putObj W0.heap.size (.deferred none)).heap.size = W.heap.size := by simp
      rcases hb with q | q
      · have := H6.out b q
        omega
      · have := hob b q
        omega
    · have hrl : ((List.range N).map gs).length = N := by simp
      have hr4 := ownsRow_still (W' := W.putObj W0.heap.size (.deferred none)) H2.out fun b hb => st b (by have := hob b hb; omega)
      refine slm_of_rows (ty := 57) (xs := xs) (B := w.heap.size) (by rw [hrl]; exact hr4) (fun x _ => rfl) (fun b hb => .inr hb) (by rw [H3.out]; simp) fun i x j d h1 h2 => ?_
      have hiN : i < N := by have := (List.getElem?_eq_some_iff.1 h1).1; omega
      obtain ⟨r1, u, r2, r3⟩ := H8.out i hiN
      have hx : x = gs i := by
        rw [List.getElem?_map, List.getElem?_range hiN] at h1
        simpa using h1.symm
      subst hx
      match j with
      | 0 =>
        cases h2
        exact ⟨_, r1, .int (hgr i hiN)⟩
      | 1 =>
        cases h2
        exact ⟨u, r2, still_rep r3 (fun b hb => st b (by have := H6.out b hb; omega)) fun b hb => .inl hb⟩
      | j + 2 => simp at h2
set_option maxHeartbeats 1000000 in
theorem collect_groups (gf : Nat) (lb : Array Value) (eg : ∀ args w, (callFunc gf args).run Tryz.prog w = .ok (.enter gf args) w) (N : Nat) (hN : N ≤ 1000000) (gs : Nat → GroupD) (hgr : ∀ i, i < N → InR .i64 (gs i).group) (w : World)
    (hseq : SeqD Fence.wide 2 Tryz.prog gf lb N (fun n => .agg (gs n).c) w) :
    CallsIn Fence.wide 4 Tryz.prog 48 #[.func (.func gf) #[] lb] w fun e w' => ∃ (v : Value) (G' : Nat → Prop), e = .returned v ∧ Below w.heap.size w w' ∧ (∀ b, G' b → w.heap.size ≤ b ∧ b < w'.heap.size) ∧
      DRep w' (Env.of G') (.slm 2 (some (.var ((List.range N).map gs).isEmpty)) GroupD.c ((List.range N).map gs)) v := by
  have hf77 : Fence.wide.fn 64 := trivial
  have hA := Lib.hid (append_groups gf lb eg N hN gs hgr w hseq)
  clear hseq
  refine callsIn_of_wp Tryz.func48 rfl trivial ?_ rfl
  simp only [Tryz.ntmps48, List.size_toArray, List.length_cons, List.length_nil, Nat.reduceAdd, Nat.reduceSub, Array.replicate_succ, Array.replicate_zero, List.push_toArray, List.append_toArray, List.nil_append, List.cons_append]
  gi_wp2_with (gi_at_call 64; refine hA.out.mono ?_; rintro e w' ⟨v, G', rfl, hb, hG, hr⟩)
  go_ret
  exact ⟨v, G', rfl, hb, hG, hr⟩
theorem fn3_inv {w : World} {E : Env} {f : Fn} {d1 d2 d3 : D} {v : Value} (h : DRep w E (.fn f [] [d1, d2, d3]) v) : ∃ v1 v2 v3, v = .func f #[] #[v1, v2, v3] ∧ DRep w E d1 v1 ∧ DRep w E d2 v2 ∧ DRep w E d3 v3 := by
  cases h with
  | @fn E f l0 l1 a0 a1 hs0 hs1 h0 h1 =>
    obtain ⟨a0⟩ := a0
    obtain ⟨a1⟩ := a1
    match a0, a1, hs0, hs1 with
    | [], [v1, v2, v3], _, _ => exact ⟨v1, v2, v3, rfl, h1 0 d1 v1 rfl rfl, h1 1 d2 v2 rfl rfl, h1 2 d3 v3 rfl rfl⟩
theorem groups_pureF (I : List IssuedD) (L : List SightD) (c : List Int) (nI nL nc : Option BE) (hI : BigI I) (hS : BigS (viewL c L)) (hc : c.length < 9223372036854775807) (hl : L.length ≤ 1000) :
    PureF Tryz.prog 48 [.fn (.func 65) [] [.dp [.slm 37 nL SightD.c L] 0, .dp [.slm 1 nc intC c] 0, .dp [.slm 3 nI IssuedD.c I] 0]] (.slm 2 (some (.var (groupsL I L c).isEmpty)) GroupD.c (groupsL I L c)) := by
  refine ⟨⟨_, _, Tryz.func48, rfl, by kernel_rfl⟩, fun w G vs hL hG hv => ?_⟩
  obtain ⟨v, rfl, hv2⟩ := one_inv hv
  obtain ⟨v1, v2, v3, rfl, hd1, hd2, hd3⟩ := fn3_inv hv2
  obtain ⟨b1, o1, u1, rfl, hg1, hc1, hr1⟩ := dp_inv hd1
  obtain ⟨b2, o2, u2, rfl, hg2, hc2, hr2⟩ := dp_inv hd2
  obtain ⟨b3, o3, u3, rfl, hg3, hc3, hr3⟩ := dp_inv hd3
  have hm := many_le c L
  exact (callsIn_wide (n := 4)).1 (collect_groups 65 _ (enters_of Tryz.func65 (by kernel_rfl) rfl) (manyL c L) (by omega) (groupOf I (viewL c L)) (fun i hi => inr_nat (by omega)) w
    (it78 I L c nI nL nc hI hS hc hl w G hG hL b1 o1 b2 o2 b3 o3 u1 u2 u3 hg1 hg2 hg3 hc1 hc2 hc3 hr1 hr2 hr3))
end Go.Proofs.YtaopkjgldokahaaGreatDoor
namespace Go.Proofs.YtaopkjgldokahaaGreatDoor
open Go.RowKit

/-! Equality of lists of lists, by closures. -/
def eqF {α β : Type} (f : α → β → Bool) : List α → List β → Bool
  | [], [] => true
  | x :: a, y :: b => f x y && eqF f a b
  | _, _ => false
theorem eqF_len {α β : Type} (f : α → β → Bool) : ∀ {a : List α} {b : List β}, a.length ≠ b.length → eqF f a b = false
  | [], [], h => absurd rfl h
  | _ :: _, _ :: _, h => by
    unfold eqF
    rw [eqF_len f (fun e => h (by simp [e])), Bool.and_false]
  | [], _ :: _, _ => rfl
  | _ :: _, [], _ => rfl
theorem eqF_key {α β γ : Type} [DecidableEq γ] (k : α → γ) (k2 : β → γ) : ∀ (a : List α) (b : List β), eqF (fun x y => decide (k x = k2 y)) a b = decide (a.map k = b.map k2)
  | [], [] => rfl
  | x :: a, y :: b => by
    unfold eqF
    rw [eqF_key k k2 a b]
    by_cases h : k x = k2 y <;> simp [h]
  | [], _ :: _ => by simp [eqF]
  | _ :: _, [] => by simp [eqF]
set_option maxRecDepth 100000 in
set_option maxHeartbeats 4000000 in
theorem eqInts_pure (l m : List Int) (na nb : Option BE) (hl : l.length < 9223372036854775807) : Pure Tryz.prog 44 [.slm 1 na intC l, .slm 1 nb intC m] (boolD (decide (l = m))) := by
  obtain ⟨r, hr⟩ : ∃ r, r = decide (l = m) := ⟨_, rfl⟩
  rw [← hr]
  obtain ⟨n, hn⟩ : ∃ n : Nat, n = l.length := ⟨_, rfl⟩
  refine Pure.intro (want := [boolD r]) T_ok follows Tryz.func44 rfl (by kernel_rfl) (rs := [.tmp 4]) rfl (by kernel_rfl) ?_
  generalize hP : Tryz.prog = P
  have hT : T.ok P := hP ▸ T_ok
  have hm : P.follows .mixedOrders = true := hP ▸ follows
  unfold Tryz.f44
  dsimp only
  cbv
  refine SplitP.mk (fun h2 => ?_) (fun h2 => ?_)
  · have h3 : ((l.length : Int) != (m.length : Int)) = true := h2
    refine .mk (.cons (.eq (.bool ?_)) .nil) rfl
    rw [BE.lit_d, BE.var_d]
    rw [hr]; exact (decide_eq_false fun e => by rw [e] at h3; simp at h3).symm
  have h3 : l.length = m.length := by
    have h3 : ((l.length : Int) != (m.length : Int)) = false := h2
    simp at h3
    omega
  clear h2
  refine CodeP.loopc hT hm (X := Nat) (fun k => [(13, .int .i64 (.nat k))]) (fun k => k ≤ l.length ∧ r = decide (l.drop k = m.drop k)) (fun k => n - k) 0 ⟨by simp, hr⟩ (Nat.zero_le _) ?_ rfl ?_
  · (cbv; (repeat' (first | exact SnD.refl _ | exact trivial | exact SnD.nat0 | refine And.intro ?_ ?_)))
  intro k ⟨hk, hq⟩
  cbv
  refine SplitP.mk (fun hs => ?_) (fun hs => ?_)
  · have hkn : k < l.length := by
      have h5 : decide ((k : Int) < (l.length : Int)) = true := hs
      have := of_decide_eq_true h5
      omega
    clear hs
    refine ElemP.mk (by show (0 : Int) ≤ (k : Int) ∧ (k : Int) < (l.length : Int); omega) (fun x hx => ?_)
    replace hx : l[k]? = some x := hx
    cbv
    refine ElemP.mk (by show (0 : Int) ≤ (k : Int) ∧ (k : Int) < (m.length : Int); omega) (fun y hy => ?_)
    replace hy : m[k]? = some y := hy
    rw [drop_cons hx, drop_cons hy] at hq
    cbv
    refine SplitP.mk (fun hs => ?_) (fun hs => ?_) <;> simp only [BE.neq_t, BE.neq_f, IE.var_d] at hs
    · refine .mk (.cons (.eq (.bool ?_)) .nil) rfl
      rw [BE.lit_d, BE.var_d]
      rw [hq]; exact (decide_eq_false fun e => hs (List.cons.inj e).1).symm
    · refine BackP.intro (k + 1) ⟨by omega, ?_⟩ (by show n - (k + 1) < n - k; omega) ⟨?_, HEnt.refl _, rfl⟩
      · rw [hq]
        exact decide_eq_decide.2 ⟨fun e => (List.cons.inj e).2, fun e => by rw [hs, e]⟩
      · (cbv; (repeat' (first | exact SnD.refl _ | exact trivial | exact SnD.nat0 | refine And.intro ?_ ?_)))
        exact .inc (by omega)
  · have hkn : l.length ≤ k := by
      have h5 : decide ((k : Int) < (l.length : Int)) = false := hs
      have := of_decide_eq_false h5
      omega
    clear hs
    refine .mk (.cons (.eq (.bool ?_)) .nil) rfl
    rw [BE.lit_d, BE.var_d]
    rw [hq, List.drop_of_length_le (by omega), List.drop_of_length_le (by omega)]; rfl
def keyG (g : GroupD) : Int × List Int := (g.group, g.persons)
def eqG (x y : GroupD) : Bool := decide (keyG x = keyG y)
set_option maxRecDepth 100000 in
set_option maxHeartbeats 4000000 in
theorem eqG_pure (x y : GroupD) (hl : x.persons.length < 9223372036854775807) : Pure Tryz.prog 43 [.agg x.c, .agg y.c] (boolD (eqG x y)) := by
  have hE := fun na nb => eqInts_pure x.persons y.persons na nb hl
  obtain ⟨r, hr⟩ : ∃ r, r = eqG x y := ⟨_, rfl⟩
  rw [← hr]
  unfold eqG keyG at hr
  obtain ⟨b, hb⟩ : ∃ b, b = decide (x.persons = y.persons) := ⟨_, rfl⟩
  rw [← hb] at hE
  have hr2 : r = (decide (x.group = y.group) && b) := by rw [hr, hb]; simp
  clear hr hb hl
  obtain ⟨g1, n1, l1⟩ := x
  obtain ⟨g2, n2, l2⟩ := y
  simp only at hr2 hE
  refine Pure.intro (want := [boolD r]) T_ok follows Tryz.func43 rfl (by kernel_rfl) (rs := [.tmp 4]) rfl (by kernel_rfl) ?_
  generalize hP : Tryz.prog = P at *
  have hT : T.ok P := hP ▸ T_ok
  have hm : P.follows .mixedOrders = true := hP ▸ follows
  unfold Tryz.f43
  dsimp only
  cbv
  refine SplitP.mk (fun hs => ?_) (fun hs => ?_) <;> simp only [BE.eql_t, BE.eql_f, IE.var_d] at hs
  · rw [decide_eq_true hs, Bool.true_and] at hr2
    refine CallP.pure _ (hE _ _) rfl ?_
    cbv
    exact .mk (.cons (.eq (.bool hr2.symm)) .nil) rfl
  · rw [decide_eq_false hs, Bool.false_and] at hr2
    exact .mk (.cons (.eq (.bool hr2.symm)) .nil) rfl
set_option maxRecDepth 100000 in
set_option maxHeartbeats 4000000 in
theorem eqGs_pure (l m : List GroupD) (na nb : Option BE) (hl : l.length < 9223372036854775807) (hp : ∀ x ∈ l, x.persons.length < 9223372036854775807) : Pure Tryz.prog 60 [.slm 2 na GroupD.c l, .slm 2 nb GroupD.c m, .fn (.func 43) [] []] (boolD (eqF eqG l m)) := by
  have hG := fun x (hx : x ∈ l) y => eqG_pure x y (hp x hx)
  obtain ⟨f, hf⟩ : ∃ f, f = eqG := ⟨_, rfl⟩
  rw [← hf] at hG
  rw [← hf]
  have e0 := fun (h : l.length ≠ m.length) => eqF_len f h
  obtain ⟨g, hg⟩ : ∃ g, g = eqF f := ⟨_, rfl⟩
  rw [← hg] at e0
  rw [← hg]
  have g0 : g [] [] = true := by rw [hg]; rfl
  have g1 : ∀ x a y b, g (x :: a) (y :: b) = (f x y && g a b) := fun x a y b => by rw [hg]; rfl
  clear hf hg
  obtain ⟨r, hr⟩ : ∃ r, r = g l m := ⟨_, rfl⟩
  rw [← hr]
  rw [← hr] at e0
  obtain ⟨n, hn⟩ : ∃ n : Nat, n = l.length := ⟨_, rfl⟩
  refine Pure.intro (want := [boolD r]) T_ok follows Tryz.func60 rfl (by kernel_rfl) (rs := [.tmp 6]) rfl (by kernel_rfl) ?_
  generalize hP : Tryz.prog = P at *
  have hT : T.ok P := hP ▸ T_ok
  have hm : P.follows .mixedOrders = true := hP ▸ follows
  unfold Tryz.f60
  dsimp only
  cbv
  refine SplitP.mk (fun h2 => ?_) (fun h2 => ?_)
  · have h3 : ((l.length : Int) != (m.length : Int)) = true := h2
    refine .mk (.cons (.eq (.bool ?_)) .nil) rfl
    rw [BE.lit_d, BE.var_d]
    exact (e0 fun e => by rw [e] at h3; simp at h3).symm
  have h3 : l.length = m.length := by
    have h3 : ((l.length : Int) != (m.length : Int)) = false := h2
    simp at h3
    omega
  clear h2
  refine CodeP.loopc hT hm (X := Nat) (fun k => [(17, .int .i64 (.nat k))]) (fun k => k ≤ l.length ∧ r = g (l.drop k) (m.drop k)) (fun k => n - k) 0 ⟨by simp, hr⟩ (Nat.zero_le _) ?_ rfl ?_
  · (cbv; (repeat' (first | exact SnD.refl _ | exact trivial | exact SnD.nat0 | refine And.intro ?_ ?_)))
  intro k ⟨hk, hq⟩
  cbv
  refine SplitP.mk (fun hs => ?_) (fun hs => ?_)
  · have hkn : k < l.length := by
      have h5 : decide ((k : Int) < (l.length : Int)) = true := hs
      have := of_decide_eq_true h5
      omega
    clear hs
    refine ElemP.mk (by show (0 : Int) ≤ (k : Int) ∧ (k : Int) < (l.length : Int); omega) (fun x hx => ?_)
    replace hx : l[k]? = some x := hx
    have hGx := hG x (List.mem_of_getElem? hx)
    rw [drop_cons hx] at hq
    obtain ⟨a1, a2, a3⟩ := x
    cbv
    refine ElemP.mk (by show (0 : Int) ≤ (k : Int) ∧ (k : Int) < (m.length : Int); omega) (fun y hy => ?_)
    replace hy : m[k]? = some y := hy
    have hGy := hGx y
    rw [drop_cons hy, g1] at hq
    obtain ⟨b1, b2, b3⟩ := y
    obtain ⟨b, hb⟩ : ∃ b, b = f ⟨a1, a2, a3⟩ ⟨b1, b2, b3⟩ := ⟨_, rfl⟩
    rw [← hb] at hq hGy
    clear hb hGx
    cbv
    refine CallP.pure _ hGy rfl ?_
    cbv
    refine SplitP.mk (fun hs => ?_) (fun hs => ?_)
    · have h4 : b = false := by simpa using (show (!b) = true from hs)
      refine .mk (.cons (.eq (.bool ?_)) .nil) rfl
      rw [BE.lit_d, BE.var_d]
      rw [hq, h4]; rfl
    · have h4 : b = true := by simpa using (show (!b) = false from hs)
      refine BackP.intro (k + 1) ⟨by omega, by rw [hq, h4, Bool.true_and]⟩ (by show n - (k + 1) < n - k; omega) ⟨?_, trivial, rfl⟩
      (cbv; (repeat' (first | exact SnD.refl _ | exact trivial | exact SnD.nat0 | refine And.intro ?_ ?_)))
      exact .inc (by omega)
  · have hkn : l.length ≤ k := by
      have h5 : decide ((k : Int) < (l.length : Int)) = false := hs
      have := of_decide_eq_false h5
      omega
    clear hs
    refine .mk (.cons (.eq (.bool ?_)) .nil) rfl
    rw [BE.lit_d, BE.var_d]
    rw [hq, List.drop_of_length_le (by omega), List.drop_of_length_le (by omega), g0]
def eqGL (x y : List GroupD) : Bool := eqF eqG x y
set_option maxRecDepth 100000 in
set_option maxHeartbeats 4000000 in
theorem eqGL_pure (l m : List GroupD) (na nb : Option BE) (hl : l.length < 9223372036854775807) (hp : ∀ x ∈ l, x.persons.length < 9223372036854775807) : Pure Tryz.prog 59 [.slm 2 na GroupD.c l, .slm 2 nb GroupD.c m, .dp [.fn (.func 43) [] []] 0] (boolD (eqGL l m)) := by
  have hE := eqGs_pure l m na nb hl hp
  obtain ⟨r, hr⟩ : ∃ r, r = eqGL l m := ⟨_, rfl⟩
  rw [show eqF eqG l m = r by rw [hr]; rfl] at hE
  rw [← hr]
  refine Pure.intro (want := [boolD r]) T_ok follows Tryz.func59 rfl (by kernel_rfl) (rs := [.tmp 5]) rfl (by kernel_rfl) ?_
  generalize hP : Tryz.prog = P at *
  have hT : T.ok P := hP ▸ T_ok
  have hm : P.follows .mixedOrders = true := hP ▸ follows
  unfold Tryz.f59
  dsimp only
  cbv
  refine CallP.pure _ hE rfl ?_
  cbv
  exact .mk (.cons (.eq (.bool rfl)) .nil) rfl
def setsEqB (a b : List GrpsD) : Bool := eqF (fun x y => eqGL x.l y.l) a b
theorem eqSets_pureF (l m : List GrpsD) (na nb : Option BE) (hl : l.length < 9223372036854775807) (hp : ∀ x ∈ l, x.l.length < 9223372036854775807 ∧ ∀ g ∈ x.l, g.persons.length < 9223372036854775807) : PureF Tryz.prog 58 [.slm 1 na GrpsD.c l, .slm 1 nb GrpsD.c m, .fn (.func 59) [] [.dp [.fn (.func 43) [] []] 0]] (boolD (setsEqB l m)) := by
  have hG := fun (x : GrpsD) (hx : x ∈ l) (y : GrpsD) na nb => eqGL_pure x.l y.l na nb (hp x hx).1 (hp x hx).2
  obtain ⟨f, hf⟩ : ∃ f : GrpsD → GrpsD → Bool, f = fun x y => eqGL x.l y.l := ⟨_, rfl⟩
  have hG2 : ∀ x, x ∈ l → ∀ y na nb, Pure Tryz.prog 59 [.slm 2 na GroupD.c x.l, .slm 2 nb GroupD.c y.l, .dp [.fn (.func 43) [] []] 0] (boolD (f x y)) := fun x hx y na nb => by rw [hf]; exact hG x hx y na nb
  unfold setsEqB
  rw [← hf]
  have e0 := fun (h : l.length ≠ m.length) => eqF_len f h
  obtain ⟨g, hg⟩ : ∃ g, g = eqF f := ⟨_, rfl⟩
  rw [← hg] at e0
  rw [← hg]
  have g0 : g [] [] = true := by rw [hg]; rfl
  have g1 : ∀ x a y b, g (x :: a) (y :: b) = (f x y && g a b) := fun x a y b => by rw [hg]; rfl
  clear hf hg hG hp
  obtain ⟨r, hr⟩ : ∃ r, r = g l m := ⟨_, rfl⟩
  rw [← hr]
  rw [← hr] at e0
  obtain ⟨n, hn⟩ : ∃ n : Nat, n = l.length := ⟨_, rfl⟩
  refine PureF.intro (want := [boolD r]) T_ok follows Tryz.func58 rfl (by kernel_rfl) (rs := [.tmp 6]) rfl (by kernel_rfl) ?_
  generalize hP : Tryz.prog = P at *
  have hT : T.ok P := hP ▸ T_ok
  have hm : P.follows .mixedOrders = true := hP ▸ follows
  unfold Tryz.f58
  dsimp only
  cbv
  refine SplitP.mk (fun h2 => ?_) (fun h2 => ?_)
  · have h3 : ((l.length : Int) != (m.length : Int)) = true := h2
    refine .mk [] rfl (fun x hx => by cases hx) (.cons (.eq (.bool ?_)) .nil) rfl
    exact (e0 fun e => by rw [e] at h3; simp at h3).symm
  have h3 : l.length = m.length := by
    have h3 : ((l.length : Int) != (m.length : Int)) = false := h2
    simp at h3
    omega
  clear h2
  refine CodeP.loopc hT hm (X := Nat) (fun k => [(17, .int .i64 (.nat k))]) (fun k => k ≤ l.length ∧ r = g (l.drop k) (m.drop k)) (fun k => n - k) 0 ⟨by simp, hr⟩ (Nat.zero_le _) ?_ rfl ?_
  · (cbv; (repeat' (first | exact SnD.refl _ | exact trivial | exact SnD.nat0 | refine And.intro ?_ ?_)))
  intro k ⟨hk, hq⟩
  cbv
  refine SplitP.mk (fun hs => ?_) (fun hs => ?_)
  · have hkn : k < l.length := by
      have h5 : decide ((k : Int) < (l.length : Int)) = true := hs
      have := of_decide_eq_true h5
      omega
    clear hs
    refine ElemP.mk (by show (0 : Int) ≤ (k : Int) ∧ (k : Int) < (l.length : Int); omega) (fun x hx => ?_)
    replace hx : l[k]? = some x := hx
    have hGx := hG2 x (List.mem_of_getElem? hx)
    rw [drop_cons hx] at hq
    obtain ⟨a1, a2⟩ := x
    cbv
    refine ElemP.mk (by show (0 : Int) ≤ (k : Int) ∧ (k : Int) < (m.length : Int); omega) (fun y hy => ?_)
    replace hy : m[k]? = some y := hy
    have hGy := hGx y
    rw [drop_cons hy, g1] at hq
    obtain ⟨b1, b2⟩ := y
    obtain ⟨b, hb⟩ : ∃ b, b = f ⟨a1, a2⟩ ⟨b1, b2⟩ := ⟨_, rfl⟩
    rw [← hb] at hq hGy
    clear hb hGx
    cbv
    refine CallP.pure _ (hGy _ _) rfl ?_
    cbv
    refine SplitP.mk (fun hs => ?_) (fun hs => ?_)
    · have h4 : b = false := by simpa using (show (!b) = true from hs)
      refine .mk [] rfl (fun x hx => by cases hx) (.cons (.eq (.bool ?_)) .nil) rfl
      show false = r
      rw [hq, h4]; rfl
    · have h4 : b = true := by simpa using (show (!b) = false from hs)
      refine BackP.intro (k + 1) ⟨by omega, by rw [hq, h4, Bool.true_and]⟩ (by show n - (k + 1) < n - k; omega) ⟨?_, HEnt.refl _, rfl⟩
      (cbv; (repeat' (first | exact SnD.refl _ | exact trivial | exact SnD.nat0 | refine And.intro ?_ ?_)))
      exact .inc (by omega)
  · have hkn : l.length ≤ k := by
      have h5 : decide ((k : Int) < (l.length : Int)) = false := hs
      have := of_decide_eq_false h5
      omega
    clear hs
    refine .mk [] rfl (fun x hx => by cases hx) (.cons (.eq (.bool ?_)) .nil) rfl
    show true = r
    rw [hq, List.drop_of_length_le (by omega), List.drop_of_length_le (by omega), g0]
set_option maxRecDepth 100000 in
set_option maxHeartbeats 4000000 in
theorem sameSets_pure (l m : List GrpsD) (na nb : Option BE) (hl : l.length < 9223372036854775807) (hp : ∀ x ∈ l, x.l.length < 9223372036854775807 ∧ ∀ g ∈ x.l, g.persons.length < 9223372036854775807) : Pure Tryz.prog 45 [.slm 1 na GrpsD.c l, .slm 1 nb GrpsD.c m, .fn (.func 43) [] []] (boolD (setsEqB l m)) := by
  have hE := eqSets_pureF l m na nb hl hp
  obtain ⟨r, hr⟩ : ∃ r, r = setsEqB l m := ⟨_, rfl⟩
  rw [← hr] at hE ⊢
  clear hr hp
  refine Pure.intro (want := [boolD r]) T_ok follows Tryz.func45 rfl (by kernel_rfl) (rs := [.tmp 6]) rfl (by kernel_rfl) ?_
  generalize hP : Tryz.prog = P at *
  have hT : T.ok P := hP ▸ T_ok
  have hm : P.follows .mixedOrders = true := hP ▸ follows
  unfold Tryz.f45
  dsimp only
  cbv
  refine CallP.lendF _ _ hE (.cons (.eq (.refl _)) (.cons (.eq (.refl _)) (.cons (.fns .nil (.cons (.dp rfl rfl rfl) .nil)) .nil))) rfl ?_
  cbv
  exact .mk (.cons (.eq (.bool rfl)) .nil) rfl
end Go.Proofs.YtaopkjgldokahaaGreatDoor
