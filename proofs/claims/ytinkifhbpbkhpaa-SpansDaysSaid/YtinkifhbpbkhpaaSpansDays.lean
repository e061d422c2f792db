/- SpansDays: for every two lists and day the law returns true and leaves its arguments as they were. No condition. -/
import Derived.Test.YtinkifhbpbkhpaaSane
import Derived.Test.YtinkifhbpbkhpaaRchk
import Derived.Test.YtinkifhbpbkhpaaOpen
import Derived.Test.YtinkifhbpbkhpaaAlg
import Derived.BigQuiet
namespace Go.Proofs.Ytinkifhbpbkhpaa
open Go.ChangeShapes Go.WideShapes Go.ChangeAt Go.RowKit
set_option linter.unusedVariables false

theorem chk_norm {X : SL} (h : NormL X 1024) : chkE X = 0 := by
  have : X.all okS = true := by
    rw [List.all_eq_true]
    intro s hs
    have := h.1 s hs
    exact okS_yes this.1 this.2.1 this.2.2
  rw [chkE, this]; rfl
theorem norm_at {X : SL} (h : NormL X 1024) {n : Nat} (hn : n < X.length) : 0 ≤ X[n].1 ∧ X[n].1 < X[n].2 ∧ X[n].2 ≤ 1024 := h.1 _ (List.getElem_mem hn)
theorem norm_gap {X : SL} (h : NormL X 1024) {n : Nat} (hn : n + 1 < X.length) : X[n].2 < X[n + 1].1 := List.pairwise_iff_getElem.1 h.2 n (n + 1) (by omega) hn (by omega)
theorem norm_of {f : Nat → Bool} {x : SL} (E : runsL f = x) : NormL x 1024 := by rw [← E]; exact normL_runsTo f 1024
theorem hasB_runs {f : Nat → Bool} {x : SL} (E : runsL f = x) (k : Int) : hasB x k = (decide (0 ≤ k) && decide (k < 1024) && f k.toNat) := by
  unfold hasB
  by_cases h0 : 0 ≤ k
  · by_cases h1 : k < 1024
    · have := dayF_of E (d := k.toNat) (by omega)
      simp only [dayF] at this
      rw [show ((k.toNat : Nat) : Int) = k by omega] at this
      rw [this]
    · simp [h1]
  · simp [h0]
theorem hasB_day (L : SL) (k : Int) : hasB L k = (decide (0 ≤ k) && decide (k < 1024) && dayF L k.toNat) := by
  unfold hasB
  by_cases h0 : 0 ≤ k
  · simp only [dayF]
    rw [show ((k.toNat : Nat) : Int) = k by omega]
  · simp [h0]
/-- four lists, told by their places -/
structure Four (w : World) (ad : Nat → Option Addr) (Xs : Nat → SL) : Prop where
  sp : ∀ k, k < 4 → Sp w (ad k) (Xs k)
  norm : ∀ k, k < 4 → NormL (Xs k) 1024
  len : ∀ k, k < 4 → (Xs k).length ≤ 100000
theorem Four.below {w w' : World} {ad : Nat → Option Addr} {Xs : Nat → SL} (h : Four w ad Xs) (hb : Below w.heap.size w w') : Four w' ad Xs := ⟨fun k hk => (h.sp k hk).below hb, h.norm, h.len⟩

namespace spansDays

set_option maxRecDepth 100000 in
set_option maxHeartbeats 20000000 in
theorem walk (a0 : Option Addr) (cap0 : Nat) (L0 : SL) (a1 : Option Addr) (cap1 : Nat) (L1 : SL) (z2 : Int) (w : World) (s0 : Sp w a0 L0) (s1 : Sp w a1 L1) :
    Calls Try.prog 6 #[.slice a0 L0.length cap0, .slice a1 L1.length cap1, .int .i64 z2] w fun e w' => e = .returned (.bool true) ∧ Below w.heap.size w w' := by
  have S_l0 := Lib.hid s0
  clear s0
  have S_l1 := Lib.hid s1
  clear s1
  by_cases hl0 : L0.length ≤ 40
  case neg =>
    have hq0 : decide (L0.length ≤ 40) = false := by simpa using hl0
    go_enter Try.func6, Try.ntmps6
    go_wp2_with fail
    refine (sane_any _).mono ?_
    rintro e w1 ⟨rfl, hb1⟩
    go_wp2_with fail
    refine (few_any _ _ _ _).mono ?_
    rintro e w2 ⟨rfl, rfl⟩
    go_wp2
    go_ret
    exact ⟨rfl, hb1⟩
  have hq0 : decide (L0.length ≤ 40) = true := by simpa using hl0
  by_cases hl1 : L1.length ≤ 40
  case neg =>
    have hq1 : decide (L1.length ≤ 40) = false := by simpa using hl1
    go_enter Try.func6, Try.ntmps6
    go_wp2_with fail
    refine (sane_any _).mono ?_
    rintro e w1 ⟨rfl, hb1⟩
    go_wp2_with fail
    refine (few_any _ _ _ _).mono ?_
    rintro e w2 ⟨rfl, rfl⟩
    go_wp2_with fail
    refine (few_any _ _ _ _).mono ?_
    rintro e w2 ⟨rfl, rfl⟩
    go_wp2
    go_ret
    exact ⟨rfl, hb1⟩
  have hq1 : decide (L1.length ≤ 40) = true := by simpa using hl1
  go_enter Try.func6, Try.ntmps6
  go_wp2_with fail
  refine (sane_any _).mono ?_
  rintro e w1 ⟨rfl, hb1⟩
  replace S_l0 := Lib.hid (S_l0.out.below hb1)
  replace S_l1 := Lib.hid (S_l1.out.below hb1)
  have HB1 := Lib.hid hb1
  have hs1 := hb1.size
  clear hb1
  go_wp2_with fail
  refine (few_any _ _ _ _).mono ?_
  rintro e w9 ⟨rfl, rfl⟩
  go_wp2_with fail
  refine (few_any _ _ _ _).mono ?_
  rintro e w9 ⟨rfl, rfl⟩
  obtain ⟨xu, hx⟩ : ∃ x : SL, runsL (fun d => dayF L0 d || dayF L1 d) = x := ⟨_, rfl⟩
  have E_u := Lib.hid hx
  clear hx
  go_wp2_with fail
  refine (union_to _ _ _ _ L0 L1 E_u.out _ S_l0.out S_l1.out (few_of hl0) (few_of hl1)).mono ?_
  rintro e w2 ⟨⟨a2, c2, rfl, h2⟩, hb2⟩
  replace S_l0 := Lib.hid (S_l0.out.below hb2)
  replace S_l1 := Lib.hid (S_l1.out.below hb2)
  have HB2 := Lib.hid (HB1.out.trans (hb2.mono hs1))
  have hs2 := HB2.out.size
  clear hb2
  clear HB1 hs1
  have S_u := Lib.hid h2
  clear h2
  obtain ⟨xm, hx⟩ : ∃ x : SL, runsL (fun d => dayF L0 d && dayF L1 d) = x := ⟨_, rfl⟩
  have E_m := Lib.hid hx
  clear hx
  go_wp2_with fail
  refine (meet_to _ _ _ _ L0 L1 E_m.out _ S_l0.out S_l1.out (few_of hl0) (few_of hl1)).mono ?_
  rintro e w3 ⟨⟨a3, c3, rfl, h3⟩, hb3⟩
  replace S_l0 := Lib.hid (S_l0.out.below hb3)
  replace S_l1 := Lib.hid (S_l1.out.below hb3)
  replace S_u := Lib.hid (S_u.out.below hb3)
  have HB3 := Lib.hid (HB2.out.trans (hb3.mono hs2))
  have hs3 := HB3.out.size
  clear hb3
  clear HB2 hs2
  have S_m := Lib.hid h3
  clear h3
  obtain ⟨xd, hx⟩ : ∃ x : SL, runsL (fun d => dayF L0 d && !(dayF L1 d)) = x := ⟨_, rfl⟩
  have E_d := Lib.hid hx
  clear hx
  go_wp2_with fail
  refine (minus_to _ _ _ _ L0 L1 E_d.out _ S_l0.out S_l1.out (few_of hl0) (few_of hl1)).mono ?_
  rintro e w4 ⟨⟨a4, c4, rfl, h4⟩, hb4⟩
  replace S_l0 := Lib.hid (S_l0.out.below hb4)
  replace S_l1 := Lib.hid (S_l1.out.below hb4)
  replace S_u := Lib.hid (S_u.out.below hb4)
  replace S_m := Lib.hid (S_m.out.below hb4)
  have HB4 := Lib.hid (HB3.out.trans (hb4.mono hs3))
  have hs4 := HB4.out.size
  clear hb4
  clear HB3 hs3
  have S_d := Lib.hid h4
  clear h4
  obtain ⟨xn, hx⟩ : ∃ x : SL, runsL (dayF L0) = x := ⟨_, rfl⟩
  have E_n := Lib.hid hx
  clear hx
  go_wp2_with fail
  refine (normal_to _ _ L0 E_n.out _ S_l0.out (few_of hl0)).mono ?_
  rintro e w5 ⟨⟨a5, c5, rfl, h5⟩, hb5⟩
  replace S_l0 := Lib.hid (S_l0.out.below hb5)
  replace S_l1 := Lib.hid (S_l1.out.below hb5)
  replace S_u := Lib.hid (S_u.out.below hb5)
  replace S_m := Lib.hid (S_m.out.below hb5)
  replace S_d := Lib.hid (S_d.out.below hb5)
  have HB5 := Lib.hid (HB4.out.trans (hb5.mono hs4))
  have hs5 := HB5.out.size
  clear hb5
  clear HB4 hs4
  have S_n := Lib.hid h5
  clear h5
  go_wp2
  have hWb : Below w5.heap.size w5 (w5.alloc (.cells #[.slice a2 xu.length c2, .slice a3 xm.length c3, .slice a4 xd.length c4, .slice a5 xn.length c5] 22)) := (Below.refl _ _).alloc (Nat.le_refl _) _
  have bQ := Blk.new w5 #[.slice a2 xu.length c2, .slice a3 xm.length c3, .slice a4 xd.length c4, .slice a5 xn.length c5] 22
  have four : ∃ (ad : Nat → Option Addr) (Xs : Nat → SL) (cp : Nat → Nat), (∀ k, k < 4 → (#[.slice a2 xu.length c2, .slice a3 xm.length c3, .slice a4 xd.length c4, .slice a5 xn.length c5] : Array Value)[k]? = some (.slice (ad k) (Xs k).length (cp k))) ∧ Four w5 ad Xs := by
    refine ⟨fun k => match k with | 0 => a2 | 1 => a3 | 2 => a4 | _ => a5, fun k => match k with | 0 => xu | 1 => xm | 2 => xd | _ => xn, fun k => match k with | 0 => c2 | 1 => c3 | 2 => c4 | _ => c5, fun k hk => ?_, ⟨fun k hk => ?_, fun k hk => ?_, fun k hk => ?_⟩⟩
    · match k, hk with
      | 0, _ => rfl
      | 1, _ => rfl
      | 2, _ => rfl
      | 3, _ => rfl
    · match k, hk with
      | 0, _ => exact S_u.out
      | 1, _ => exact S_m.out
      | 2, _ => exact S_d.out
      | 3, _ => exact S_n.out
    · match k, hk with
      | 0, _ => exact norm_of E_u.out
      | 1, _ => exact norm_of E_m.out
      | 2, _ => exact norm_of E_d.out
      | 3, _ => exact norm_of E_n.out
    · match k, hk with
      | 0, _ => exact len_of E_u.out
      | 1, _ => exact len_of E_m.out
      | 2, _ => exact len_of E_d.out
      | 3, _ => exact len_of E_n.out
  obtain ⟨ad, Xs, cp, hcell, hfour⟩ := four
  replace S_l0 := Lib.hid (S_l0.out.below hWb)
  replace S_l1 := Lib.hid (S_l1.out.below hWb)
  replace S_u := Lib.hid (S_u.out.below hWb)
  replace S_m := Lib.hid (S_m.out.below hWb)
  replace S_d := Lib.hid (S_d.out.below hWb)
  have HC := Lib.hid hcell
  have HF := Lib.hid (hfour.below hWb)
  have HB6 := Lib.hid (HB5.out.trans (hWb.mono hs5))
  have HQ := Lib.hid bQ
  have hQl := bQ.lt
  clear hWb bQ hcell hfour HB5 hs5 S_n
  generalize w5.alloc (.cells #[.slice a2 xu.length c2, .slice a3 xm.length c3, .slice a4 xd.length c4, .slice a5 xn.length c5] 22) = W6 at *
  generalize w5.heap.size = Q at *
  go_loopw [44] (fun j wr => ∃ k : Nat, k ≤ 4 ∧ j = .int .i64 k ∧ Hid (Below W6.heap.size W6 wr)) (fun j _ => 4 - (intOf j).toNat)
  case atStart => exact ⟨0, by omega, rfl, Below.refl _ _⟩
  case round =>
    obtain ⟨k, hk, rfl, Hb⟩ := hrel
    by_cases hlt : k < 4
    · have q0 := ((HQ.out.below Hb.out hQl).cell k).trans (HC.out k hlt)
      have SX := Lib.hid (HF.out.sp k hlt)
      have NX := Lib.hid (HF.out.norm k hlt)
      have hXl := HF.out.len k hlt
      generalize ad k = a at *
      generalize hX : Xs k = X at *
      generalize cp k = c at *
      have HX := Lib.hid hX
      clear hX
      have hlt' : (k : Int) < 4 := by omega
      obtain ⟨wo, rfl⟩ : ∃ wo : World, wo = wr := ⟨_, rfl⟩
      go_wp2
      clear q0
      go_loopw [50] (fun i wi => ∃ n : Nat, n ≤ X.length ∧ i = .int .i64 n ∧ Hid (Below W6.heap.size W6 wi)) (fun i _ => X.length - (intOf i).toNat)
      case atStart => exact ⟨0, Nat.zero_le _, rfl, Hb.out⟩
      case round =>
        obtain ⟨n, hn, rfl, Hbi⟩ := hrel
        by_cases hnl : n < X.length
        · obtain ⟨b, off, rfl, hb, q0, q1⟩ := SX.out n hnl
          have hbi : b < wr.heap.size := Nat.lt_of_lt_of_le hb Hbi.out.size
          rw [← Hbi.out.cell (p := ⟨b, _, none⟩) hb] at q0 q1
          have hnm := norm_at NX.out hnl
          have hnl' : (n : Int) < (X.length : Int) := by omega
          obtain ⟨n1, n2, n3⟩ := hnm
          by_cases hn0 : n = 0
          · subst hn0
            simp only [Nat.zero_mul, Nat.add_zero] at q0 q1
            generalize X[0].1 = f at *
            generalize X[0].2 = t at *
            have d1 : decide (f < 0) = false := by simpa using n1
            have d2 : decide (t ≤ f) = false := by simpa using n2
            have d3 : decide (1024 < t) = false := by simpa using n3
            go_wp2_with fail
            go_quiet (fail)
            clear d1 d2 d3
            go_wp2
            go_roundw
            case rel => exact ⟨1, by omega, rfl, below_drewN (Hbi.out.alloc Hbi.out.size _) _⟩
            case measure => simp [intOf]; omega
          · obtain ⟨p, rfl⟩ : ∃ p, n = p + 1 := ⟨n - 1, by omega⟩
            have hg := norm_gap NX.out (n := p) hnl
            obtain ⟨b', off', hbo, _, _, q3⟩ := SX.out p (by omega)
            obtain ⟨rfl, rfl⟩ : b = b' ∧ off = off' := by simpa using hbo
            rw [← Hbi.out.cell (p := ⟨b, _, none⟩) hb] at q3
            clear hbo
            generalize X[p + 1].1 = f at *
            generalize X[p + 1].2 = t at *
            generalize X[p].2 = t' at *
            have d1 : decide (f < 0) = false := by simpa using n1
            have d2 : decide (t ≤ f) = false := by simpa using n2
            have d3 : decide (1024 < t) = false := by simpa using n3
            have d4 : decide (f ≤ t') = false := by simpa using hg
            have d5 : (0 : Int) < (p : Int) + 1 := by omega
            have d6 : decide ((0 : Int) < (p : Int) + 1) = true := decide_eq_true d5
            have d7 : (p : Int) < (X.length : Int) := by omega
            have r2 : ((p : Int) + 1 - 1).toNat = p := by omega
            have r3 : IntKind.i64.wrap ((p : Int) + 1 - 1) = (p : Int) := by rw [show ((p : Int) + 1 - 1) = (p : Int) by omega]; exact IntWalk.i64_in _ (by omega)
            go_wp2_with fail
            go_quiet (fail)
            clear d1 d2 d3 d4 d6 r2 r3
            go_wp2
            go_roundw
            case rel => exact ⟨p + 1 + 1, by omega, by go_num, below_drewN (Hbi.out.alloc Hbi.out.size _) _⟩
            case measure => simp [intOf]; omega
        · go_wp2_with fail
          have S9 := Lib.hid (SX.out.below Hbi.out)
          refine (check_to _ _ X (chk_norm NX.out) _ S9.out hXl).mono ?_
          rintro e w9 ⟨rfl, hb9⟩
          have H9 := Lib.hid (Hbi.out.trans (hb9.mono Hbi.out.size))
          clear hb9 S9
          go_wp2
          go_roundw
          case rel => exact ⟨k + 1, by omega, by go_num, H9⟩
          case measure => simp [intOf]; omega
    · have hk4 : 4 ≤ k := by omega
      have T_l0 := Lib.hid (S_l0.out.below Hb.out)
      have T_l1 := Lib.hid (S_l1.out.below Hb.out)
      have T_u := Lib.hid (S_u.out.below Hb.out)
      have T_m := Lib.hid (S_m.out.below Hb.out)
      have T_d := Lib.hid (S_d.out.below Hb.out)
      have HB7 := Lib.hid (HB6.out.trans (Hb.out.mono HB6.out.size))
      clear HC HF HQ Hb S_l0 S_l1 S_u S_m S_d HB6
      go_wp2
      have hWb : Below wr.heap.size wr (wr.alloc (.cells #[.int .i64 z2, .int .i64 (bits BinOp.and IntKind.i64 z2 511), .int .i64 0, .int .i64 1023] 3)) := (Below.refl _ _).alloc (Nat.le_refl _) _
      have bQ := Blk.new wr #[.int .i64 z2, .int .i64 (bits BinOp.and IntKind.i64 z2 511), .int .i64 0, .int .i64 1023] 3
      have four : ∃ ks : Nat → Int, ∀ k, k < 4 → (#[.int .i64 z2, .int .i64 (bits BinOp.and IntKind.i64 z2 511), .int .i64 0, .int .i64 1023] : Array Value)[k]? = some (.int .i64 (ks k)) := by
        refine ⟨fun k => match k with | 0 => z2 | 1 => bits BinOp.and IntKind.i64 z2 511 | 2 => 0 | _ => 1023, fun k hk => ?_⟩
        match k, hk with
        | 0, _ => rfl
        | 1, _ => rfl
        | 2, _ => rfl
        | 3, _ => rfl
      obtain ⟨ks, hks⟩ := four
      have KS := Lib.hid hks
      replace T_l0 := Lib.hid (T_l0.out.below hWb)
      replace T_l1 := Lib.hid (T_l1.out.below hWb)
      replace T_u := Lib.hid (T_u.out.below hWb)
      replace T_m := Lib.hid (T_m.out.below hWb)
      replace T_d := Lib.hid (T_d.out.below hWb)
      have HB8 := Lib.hid (HB7.out.trans (hWb.mono HB7.out.size))
      have HQ := Lib.hid bQ
      have hQl := bQ.lt
      clear hWb bQ hks HB7
      generalize wr.alloc (.cells #[.int .i64 z2, .int .i64 (bits BinOp.and IntKind.i64 z2 511), .int .i64 0, .int .i64 1023] 3) = W7 at *
      generalize wr.heap.size = Q2 at *
      generalize bits BinOp.and IntKind.i64 z2 511 = z5 at *
      go_loopw [95] (fun j wj => ∃ k : Nat, k ≤ 4 ∧ j = .int .i64 k ∧ Hid (Below W7.heap.size W7 wj)) (fun j _ => 4 - (intOf j).toNat)
      case atStart => exact ⟨0, by omega, rfl, Below.refl _ _⟩
      case round =>
        obtain ⟨n, hn, rfl, Hb⟩ := hrel
        by_cases hnl : n < 4
        · have q0 := ((HQ.out.below Hb.out hQl).cell n).trans (KS.out n hnl)
          generalize ks n = kv at *
          have hnl' : (n : Int) < 4 := by omega
          have e1 : hasB xu kv = (hasB L0 kv || hasB L1 kv) := by rw [hasB_runs E_u.out, hasB_day, hasB_day]; cases decide (0 ≤ kv) <;> cases decide (kv < 1024) <;> rfl
          have e2 : hasB xm kv = (hasB L0 kv && hasB L1 kv) := by rw [hasB_runs E_m.out, hasB_day, hasB_day]; cases decide (0 ≤ kv) <;> cases decide (kv < 1024) <;> cases dayF L0 kv.toNat <;> rfl
          have e3 : hasB xd kv = (hasB L0 kv && !hasB L1 kv) := by rw [hasB_runs E_d.out, hasB_day, hasB_day]; cases decide (0 ≤ kv) <;> cases decide (kv < 1024) <;> cases dayF L0 kv.toNat <;> rfl
          have e4 : hasB xn kv = hasB L0 kv := by rw [hasB_runs E_n.out, hasB_day]
          obtain ⟨x, hx⟩ : ∃ x, hasB L0 kv = x := ⟨_, rfl⟩
          obtain ⟨y, hy⟩ : ∃ y, hasB L1 kv = y := ⟨_, rfl⟩
          rw [hx, hy] at e1 e2 e3
          rw [hx] at e4
          have X0 := Lib.hid hx
          have Y0 := Lib.hid hy
          have E1 := Lib.hid e1
          have E2 := Lib.hid e2
          have E3 := Lib.hid e3
          have E4 := Lib.hid e4
          clear e1 e2 e3 e4 hx hy
          go_wp2_with fail
          refine (has_to a0 cap0 L0 kv X0.out _ (T_l0.out.below Hb.out) (few_of hl0)).mono ?_
          rintro e v1 ⟨rfl, hb1⟩
          have G1 := Lib.hid (Hb.out.trans (hb1.mono Hb.out.size))
          clear hb1 q0
          go_wp2_with fail
          refine (has_to a1 cap1 L1 kv Y0.out _ (T_l1.out.below G1.out) (few_of hl1)).mono ?_
          rintro e v2 ⟨rfl, hb2⟩
          have G2 := Lib.hid (G1.out.trans (hb2.mono G1.out.size))
          clear hb2 G1
          go_wp2_with fail
          refine (has_to a2 c2 xu kv E1.out _ (T_u.out.below G2.out) (len_of E_u.out)).mono ?_
          rintro e v3 ⟨rfl, hb3⟩
          have G3 := Lib.hid (G2.out.trans (hb3.mono G2.out.size))
          clear hb3 G2
          cases x <;> cases y
          all_goals
            go_wp2_with fail
            refine (has_to a3 c3 xm kv E2.out _ (T_m.out.below G3.out) (len_of E_m.out)).mono ?_
            rintro e v4 ⟨rfl, hb4⟩
            have G4 := Lib.hid (G3.out.trans (hb4.mono G3.out.size))
            clear hb4 G3
            go_wp2_with fail
            refine (has_to a4 c4 xd kv E3.out _ (T_d.out.below G4.out) (len_of E_d.out)).mono ?_
            rintro e v5 ⟨rfl, hb5⟩
            have G5 := Lib.hid (G4.out.trans (hb5.mono G4.out.size))
            clear hb5 G4
            go_wp2_with fail
            refine (normal_to a0 cap0 L0 E_n.out _ (T_l0.out.below G5.out) (few_of hl0)).mono ?_
            rintro e v6 ⟨⟨a9, c9, rfl, h9⟩, hb6⟩
            have G6 := Lib.hid (G5.out.trans (hb6.mono G5.out.size))
            have T9 := Lib.hid h9
            clear hb6 G5 h9
            go_wp2_with fail
            refine (has_to a9 c9 xn kv E4.out _ T9.out (len_of E_n.out)).mono ?_
            rintro e v7 ⟨rfl, hb7⟩
            have G7 := Lib.hid (G6.out.trans (hb7.mono G6.out.size))
            clear hb7 G6 T9
            go_wp2
            go_roundw
            case rel => exact ⟨n + 1, by omega, by go_num, G7⟩
            case measure => simp [intOf]; omega
        · have hn4 : 4 ≤ n := by omega
          have HB9 := Lib.hid (HB8.out.trans (Hb.out.mono HB8.out.size))
          go_wp2
          go_ret
          exact ⟨rfl, HB9.out⟩

set_option maxRecDepth 100000 in
theorem lifted (os : Os) (started : os.Started) (H : Type) (enc : TypeId × Value → H) :
    ReturnsInHanded {} Try.checked os 6 .any (Rows.spansDaysSpec.pre6 enc Try.prog Try.f6 Rows.spansDaysRow.domain false) (Rows.spansDaysSpec.post enc Try.prog Try.f6 false true false false) := by
  refine returnsInHanded_of_change (C := Try.checked) own started (by kernel_rfl) Try.func6
    (ChangeSpec.witness6 (enc := enc) (C := Try.checked) false ⟨#[], #[.slice none 0 0, .slice none 0 0, .int .i64 0], []⟩ 8 (by kernel_rfl) (by kernel_rfl) (by kernel_rfl) (by kernel_rfl)) ?_
  intro W base args ds gs before hval0 hW hcnd _
  have hval : ∀ (j : Nat) t v, Try.f6.params[j]? = some t → args[j]? = some v → Value.okWide Try.prog W .any base t v := hval0
  have hW' := hW
  obtain ⟨p, q, hA0, hV, rfl, hfz, hnd⟩ := hW
  have hA : DataW.TrodAll enc Try.prog W 0 (fun _ => true) true Try.f6.params.toList args.toList ds p := hA0
  rw [Try.params6] at hA hval
  obtain ⟨v0, vs0, d0, ds0, p0, q0, hargs, rfl, rfl, h0, r0⟩ := trodAll_cons hA
  obtain ⟨v1, vs1, d1, ds1, p1, q1, rfl, rfl, rfl, h1, r1⟩ := trodAll_cons r0
  obtain ⟨v2, vs2, d2, ds2, p2, q2, rfl, rfl, rfl, h2, r2⟩ := trodAll_cons r1
  obtain ⟨rfl, rfl, rfl⟩ := trodAll_nil r2
  obtain rfl : args = #[v0, v1, v2] := by cases args; simp_all
  obtain ⟨rfl, rfl⟩ := trodVars_none hV
  have k0 := h0
  have lt0 : ∀ x ∈ p0, x.block < W.heap.size := by obtain ⟨m, hm⟩ := k0; exact DataW.trod_lt m _ _ _ hm
  obtain ⟨a0, n0, cap0, rfl⟩ := okWide_slice Try.underlying22 (hval 0 22 v0 rfl rfl)
  obtain ⟨L0, rfl, s0⟩ := open_sp h0
  have k1 := h1
  have lt1 : ∀ x ∈ p1, x.block < W.heap.size := by obtain ⟨m, hm⟩ := k1; exact DataW.trod_lt m _ _ _ hm
  obtain ⟨a1, n1, cap1, rfl⟩ := okWide_slice Try.underlying22 (hval 1 22 v1 rfl rfl)
  obtain ⟨L1, rfl, s1⟩ := open_sp h1
  have k2 := h2
  have lt2 : ∀ x ∈ p2, x.block < W.heap.size := by obtain ⟨m, hm⟩ := k2; exact DataW.trod_lt m _ _ _ hm
  obtain ⟨z2, rfl, rfl, rfl, wf2⟩ := open_int Try.underlying3 (hval 2 3 v2 rfl rfl) h2
  clear hA0 hval0
  refine (walk a0 cap0 L0 a1 cap1 L1 z2 W s0 s1 ).mono fun e W' ⟨he, bel⟩ => ?_
  subst he
  exact ⟨_, rfl, _, _, _, [], _, [], hW', trodAll_mk1 (shut_bool Try.underlying4 _), (trodAll_cons_mk (Below.trod laidOut (by kernel_rfl) (of_decide_eq_true (by kernel_rfl)) k0 bel lt0) (trodAll_cons_mk (Below.trod laidOut (by kernel_rfl) (of_decide_eq_true (by kernel_rfl)) k1 bel lt1) (trodAll_cons_mk (Below.trod laidOut (by kernel_rfl) (of_decide_eq_true (by kernel_rfl)) k2 bel lt2) trodAll_mk0))), rfl, bel.frame _, fun h => by cases h⟩

theorem over : Rows.spansDaysRow.holds Try.pinned (OpenSpec.ofChange Rows.spansDaysSpec) :=
  OpenClaim.holds_of_wide 6 Try.f6 rfl rfl rfl rfl rfl rfl rfl ⟨rfl, rfl, rfl, rfl, rfl⟩ rfl rfl rfl rfl rfl (by kernel_rfl) Try.func6 (by kernel_rfl)
    (of_decide_eq_true (by kernel_rfl)) (by unfold Func.isWrapper; first | (rw [if_pos (by decide +kernel)]; kernel_rfl) | (rw [if_neg (by decide +kernel)]; exact ⟨rfl, rfl⟩))
    (fun os started H enc _ => lifted os started H enc)
end spansDays
theorem spansDays_holds : Rows.SpansDaysSaid := spansDays.over
#print axioms spansDays_holds
end Go.Proofs.Ytinkifhbpbkhpaa
