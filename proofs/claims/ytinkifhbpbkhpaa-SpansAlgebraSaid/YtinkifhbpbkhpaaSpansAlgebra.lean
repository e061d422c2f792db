/- SpansAlgebra: for every three lists of spans the law returns true and leaves its arguments as they were. No condition. -/
import Derived.Test.YtinkifhbpbkhpaaSane
import Derived.Test.YtinkifhbpbkhpaaRchk
import Derived.Test.YtinkifhbpbkhpaaOpen
import Derived.Test.YtinkifhbpbkhpaaAlg
namespace Go.Proofs.Ytinkifhbpbkhpaa
open Go.ChangeShapes Go.WideShapes Go.ChangeAt Go.RowKit
set_option linter.unusedVariables false

namespace spansAlgebra

set_option maxRecDepth 100000 in
set_option maxHeartbeats 20000000 in
theorem walk (a0 : Option Addr) (cap0 : Nat) (L0 : SL) (a1 : Option Addr) (cap1 : Nat) (L1 : SL) (a2 : Option Addr) (cap2 : Nat) (L2 : SL) (w : World) (s0 : Sp w a0 L0) (s1 : Sp w a1 L1) (s2 : Sp w a2 L2) :
    Calls Try.prog 7 #[.slice a0 L0.length cap0, .slice a1 L1.length cap1, .slice a2 L2.length cap2] w fun e w' => e = .returned (.bool true) ∧ Below w.heap.size w w' := by
  have S_l0 := Lib.hid s0
  clear s0
  have S_l1 := Lib.hid s1
  clear s1
  have S_l2 := Lib.hid s2
  clear s2
  by_cases hl0 : L0.length ≤ 40
  case neg =>
    have hq0 : decide (L0.length ≤ 40) = false := by simpa using hl0
    go_enter Try.func7, Try.ntmps7
    go_wp2_with fail
    refine (sane_any _).mono ?_
    rintro e w1 ⟨rfl, hb1⟩
    go_wp2_with fail
    refine (few_any _ _ _ _).mono ?_
    rintro e w2 ⟨rfl, rfl⟩
    go_wp2
    go_ret
    exact ⟨rfl, hb1⟩
  have hq0 : decide (L0.length ≤ 40) = true := by simpa using hl0
  by_cases hl1 : L1.length ≤ 40
  case neg =>
    have hq1 : decide (L1.length ≤ 40) = false := by simpa using hl1
    go_enter Try.func7, Try.ntmps7
    go_wp2_with fail
    refine (sane_any _).mono ?_
    rintro e w1 ⟨rfl, hb1⟩
    go_wp2_with fail
    refine (few_any _ _ _ _).mono ?_
    rintro e w2 ⟨rfl, rfl⟩
    go_wp2_with fail
    refine (few_any _ _ _ _).mono ?_
    rintro e w2 ⟨rfl, rfl⟩
    go_wp2
    go_ret
    exact ⟨rfl, hb1⟩
  have hq1 : decide (L1.length ≤ 40) = true := by simpa using hl1
  by_cases hl2 : L2.length ≤ 40
  case neg =>
    have hq2 : decide (L2.length ≤ 40) = false := by simpa using hl2
    go_enter Try.func7, Try.ntmps7
    go_wp2_with fail
    refine (sane_any _).mono ?_
    rintro e w1 ⟨rfl, hb1⟩
    go_wp2_with fail
    refine (few_any _ _ _ _).mono ?_
    rintro e w2 ⟨rfl, rfl⟩
    go_wp2_with fail
    refine (few_any _ _ _ _).mono ?_
    rintro e w2 ⟨rfl, rfl⟩
    go_wp2_with fail
    refine (few_any _ _ _ _).mono ?_
    rintro e w2 ⟨rfl, rfl⟩
    go_wp2
    go_ret
    exact ⟨rfl, hb1⟩
  have hq2 : decide (L2.length ≤ 40) = true := by simpa using hl2
  go_enter Try.func7, Try.ntmps7
  go_wp2_with fail
  refine (sane_any _).mono ?_
  rintro e w1 ⟨rfl, hb1⟩
  replace S_l0 := Lib.hid (S_l0.out.below hb1)
  replace S_l1 := Lib.hid (S_l1.out.below hb1)
  replace S_l2 := Lib.hid (S_l2.out.below hb1)
  have HB1 := Lib.hid hb1
  have hs1 := hb1.size
  clear hb1
  go_wp2_with fail
  refine (few_any _ _ _ _).mono ?_
  rintro e w9 ⟨rfl, rfl⟩
  go_wp2_with fail
  refine (few_any _ _ _ _).mono ?_
  rintro e w9 ⟨rfl, rfl⟩
  go_wp2_with fail
  refine (few_any _ _ _ _).mono ?_
  rintro e w9 ⟨rfl, rfl⟩
  obtain ⟨x1, hx⟩ : ∃ x : SL, runsL (fun d => dayF L0 d) = x := ⟨_, rfl⟩
  have E_n := Lib.hid hx
  have hX := Lib.hid (show runsL (dayF L0) = x1 from ((runsL_congr fun i hi => by rfl).trans hx))
  clear hx
  go_wp2_with fail
  refine (normal_to _ _ L0 hX.out _ S_l0.out (few_of hl0)).mono ?_
  rintro e w2 ⟨⟨a2, c2, rfl, h2⟩, hb2⟩
  replace S_l0 := Lib.hid (S_l0.out.below hb2)
  replace S_l1 := Lib.hid (S_l1.out.below hb2)
  replace S_l2 := Lib.hid (S_l2.out.below hb2)
  have HB2 := Lib.hid (HB1.out.trans (hb2.mono hs1))
  have hs2 := HB2.out.size
  clear hb2
  clear HB1 hs1
  clear hX
  have S_n := Lib.hid h2
  clear h2
  obtain ⟨x2, hx⟩ : ∃ x : SL, runsL (fun d => (dayF L0 d || dayF L1 d)) = x := ⟨_, rfl⟩
  have E_x := Lib.hid hx
  have hX := Lib.hid (show runsL (fun d => (dayF L0 d || dayF L1 d)) = x2 from ((runsL_congr fun i hi => by rfl).trans hx))
  clear hx
  go_wp2_with fail
  refine (union_to _ _ _ _ L0 L1 hX.out _ S_l0.out S_l1.out (few_of hl0) (few_of hl1)).mono ?_
  rintro e w3 ⟨⟨a3, c3, rfl, h3⟩, hb3⟩
  replace S_l0 := Lib.hid (S_l0.out.below hb3)
  replace S_l1 := Lib.hid (S_l1.out.below hb3)
  replace S_l2 := Lib.hid (S_l2.out.below hb3)
  replace S_n := Lib.hid (S_n.out.below hb3)
  have HB3 := Lib.hid (HB2.out.trans (hb3.mono hs2))
  have hs3 := HB3.out.size
  clear hb3
  clear HB2 hs2
  clear hX
  have S_x := Lib.hid h3
  clear h3
  obtain ⟨x3, hx⟩ : ∃ x : SL, runsL (fun d => (dayF L1 d || dayF L0 d)) = x := ⟨_, rfl⟩
  have E_y := Lib.hid hx
  have hX := Lib.hid (show runsL (fun d => (dayF L1 d || dayF L0 d)) = x3 from ((runsL_congr fun i hi => by rfl).trans hx))
  clear hx
  go_wp2_with fail
  refine (union_to _ _ _ _ L1 L0 hX.out _ S_l1.out S_l0.out (few_of hl1) (few_of hl0)).mono ?_
  rintro e w4 ⟨⟨a4, c4, rfl, h4⟩, hb4⟩
  replace S_l0 := Lib.hid (S_l0.out.below hb4)
  replace S_l1 := Lib.hid (S_l1.out.below hb4)
  replace S_l2 := Lib.hid (S_l2.out.below hb4)
  replace S_n := Lib.hid (S_n.out.below hb4)
  replace S_x := Lib.hid (S_x.out.below hb4)
  have HB4 := Lib.hid (HB3.out.trans (hb4.mono hs3))
  have hs4 := HB4.out.size
  clear hb4
  clear HB3 hs3
  clear hX
  have S_y := Lib.hid h4
  clear h4
  go_wp2_with fail
  refine (same_to _ _ _ _ _ _ (E_x.out.symm.trans ((runsL_congr fun i hi => by cases dayF L0 i <;> cases dayF L1 i <;> cases dayF L2 i <;> rfl).trans E_y.out)) _ S_x.out S_y.out (len_of E_x.out)).mono ?_
  rintro e w5 ⟨rfl, hb5⟩
  replace S_l0 := Lib.hid (S_l0.out.below hb5)
  replace S_l1 := Lib.hid (S_l1.out.below hb5)
  replace S_l2 := Lib.hid (S_l2.out.below hb5)
  replace S_n := Lib.hid (S_n.out.below hb5)
  replace S_x := Lib.hid (S_x.out.below hb5)
  replace S_y := Lib.hid (S_y.out.below hb5)
  have HB5 := Lib.hid (HB4.out.trans (hb5.mono hs4))
  have hs5 := HB5.out.size
  clear hb5
  clear HB4 hs4
  clear S_x E_x
  clear S_y E_y
  obtain ⟨x4, hx⟩ : ∃ x : SL, runsL (fun d => (dayF L0 d && dayF L1 d)) = x := ⟨_, rfl⟩
  have E_x := Lib.hid hx
  have hX := Lib.hid (show runsL (fun d => (dayF L0 d && dayF L1 d)) = x4 from ((runsL_congr fun i hi => by rfl).trans hx))
  clear hx
  go_wp2_with fail
  refine (meet_to _ _ _ _ L0 L1 hX.out _ S_l0.out S_l1.out (few_of hl0) (few_of hl1)).mono ?_
  rintro e w6 ⟨⟨a6, c6, rfl, h6⟩, hb6⟩
  replace S_l0 := Lib.hid (S_l0.out.below hb6)
  replace S_l1 := Lib.hid (S_l1.out.below hb6)
  replace S_l2 := Lib.hid (S_l2.out.below hb6)
  replace S_n := Lib.hid (S_n.out.below hb6)
  have HB6 := Lib.hid (HB5.out.trans (hb6.mono hs5))
  have hs6 := HB6.out.size
  clear hb6
  clear HB5 hs5
  clear hX
  have S_x := Lib.hid h6
  clear h6
  obtain ⟨x5, hx⟩ : ∃ x : SL, runsL (fun d => (dayF L1 d && dayF L0 d)) = x := ⟨_, rfl⟩
  have E_y := Lib.hid hx
  have hX := Lib.hid (show runsL (fun d => (dayF L1 d && dayF L0 d)) = x5 from ((runsL_congr fun i hi => by rfl).trans hx))
  clear hx
  go_wp2_with fail
  refine (meet_to _ _ _ _ L1 L0 hX.out _ S_l1.out S_l0.out (few_of hl1) (few_of hl0)).mono ?_
  rintro e w7 ⟨⟨a7, c7, rfl, h7⟩, hb7⟩
  replace S_l0 := Lib.hid (S_l0.out.below hb7)
  replace S_l1 := Lib.hid (S_l1.out.below hb7)
  replace S_l2 := Lib.hid (S_l2.out.below hb7)
  replace S_n := Lib.hid (S_n.out.below hb7)
  replace S_x := Lib.hid (S_x.out.below hb7)
  have HB7 := Lib.hid (HB6.out.trans (hb7.mono hs6))
  have hs7 := HB7.out.size
  clear hb7
  clear HB6 hs6
  clear hX
  have S_y := Lib.hid h7
  clear h7
  go_wp2_with fail
  refine (same_to _ _ _ _ _ _ (E_x.out.symm.trans ((runsL_congr fun i hi => by cases dayF L0 i <;> cases dayF L1 i <;> cases dayF L2 i <;> rfl).trans E_y.out)) _ S_x.out S_y.out (len_of E_x.out)).mono ?_
  rintro e w8 ⟨rfl, hb8⟩
  replace S_l0 := Lib.hid (S_l0.out.below hb8)
  replace S_l1 := Lib.hid (S_l1.out.below hb8)
  replace S_l2 := Lib.hid (S_l2.out.below hb8)
  replace S_n := Lib.hid (S_n.out.below hb8)
  replace S_x := Lib.hid (S_x.out.below hb8)
  replace S_y := Lib.hid (S_y.out.below hb8)
  have HB8 := Lib.hid (HB7.out.trans (hb8.mono hs7))
  have hs8 := HB8.out.size
  clear hb8
  clear HB7 hs7
  clear S_x E_x
  clear S_y E_y
  obtain ⟨x6, hx⟩ : ∃ x : SL, runsL (fun d => (dayF L0 d || dayF L1 d)) = x := ⟨_, rfl⟩
  have E_x := Lib.hid hx
  have hX := Lib.hid (show runsL (fun d => (dayF L0 d || dayF L1 d)) = x6 from ((runsL_congr fun i hi => by rfl).trans hx))
  clear hx
  go_wp2_with fail
  refine (union_to _ _ _ _ L0 L1 hX.out _ S_l0.out S_l1.out (few_of hl0) (few_of hl1)).mono ?_
  rintro e w9 ⟨⟨a9, c9, rfl, h9⟩, hb9⟩
  replace S_l0 := Lib.hid (S_l0.out.below hb9)
  replace S_l1 := Lib.hid (S_l1.out.below hb9)
  replace S_l2 := Lib.hid (S_l2.out.below hb9)
  replace S_n := Lib.hid (S_n.out.below hb9)
  have HB9 := Lib.hid (HB8.out.trans (hb9.mono hs8))
  have hs9 := HB9.out.size
  clear hb9
  clear HB8 hs8
  clear hX
  have S_x := Lib.hid h9
  clear h9
  obtain ⟨x7, hx⟩ : ∃ x : SL, runsL (fun d => ((dayF L0 d || dayF L1 d) || dayF L2 d)) = x := ⟨_, rfl⟩
  have E_y := Lib.hid hx
  have hX := Lib.hid (show runsL (fun d => (dayF x6 d || dayF L2 d)) = x7 from ((runsL_congr fun i hi => by simp only [dayF_of E_x.out hi]).trans hx))
  clear hx
  go_wp2_with fail
  refine (union_to _ _ _ _ x6 L2 hX.out _ S_x.out S_l2.out (len_of E_x.out) (few_of hl2)).mono ?_
  rintro e w10 ⟨⟨a10, c10, rfl, h10⟩, hb10⟩
  replace S_l0 := Lib.hid (S_l0.out.below hb10)
  replace S_l1 := Lib.hid (S_l1.out.below hb10)
  replace S_l2 := Lib.hid (S_l2.out.below hb10)
  replace S_n := Lib.hid (S_n.out.below hb10)
  replace S_x := Lib.hid (S_x.out.below hb10)
  have HB10 := Lib.hid (HB9.out.trans (hb10.mono hs9))
  have hs10 := HB10.out.size
  clear hb10
  clear HB9 hs9
  clear hX
  have S_y := Lib.hid h10
  clear h10
  obtain ⟨x8, hx⟩ : ∃ x : SL, runsL (fun d => (dayF L1 d || dayF L2 d)) = x := ⟨_, rfl⟩
  have E_z := Lib.hid hx
  have hX := Lib.hid (show runsL (fun d => (dayF L1 d || dayF L2 d)) = x8 from ((runsL_congr fun i hi => by rfl).trans hx))
  clear hx
  go_wp2_with fail
  refine (union_to _ _ _ _ L1 L2 hX.out _ S_l1.out S_l2.out (few_of hl1) (few_of hl2)).mono ?_
  rintro e w11 ⟨⟨a11, c11, rfl, h11⟩, hb11⟩
  replace S_l0 := Lib.hid (S_l0.out.below hb11)
  replace S_l1 := Lib.hid (S_l1.out.below hb11)
  replace S_l2 := Lib.hid (S_l2.out.below hb11)
  replace S_n := Lib.hid (S_n.out.below hb11)
  replace S_x := Lib.hid (S_x.out.below hb11)
  replace S_y := Lib.hid (S_y.out.below hb11)
  have HB11 := Lib.hid (HB10.out.trans (hb11.mono hs10))
  have hs11 := HB11.out.size
  clear hb11
  clear HB10 hs10
  clear hX
  have S_z := Lib.hid h11
  clear h11
  obtain ⟨x9, hx⟩ : ∃ x : SL, runsL (fun d => (dayF L0 d || (dayF L1 d || dayF L2 d))) = x := ⟨_, rfl⟩
  have E_u := Lib.hid hx
  have hX := Lib.hid (show runsL (fun d => (dayF L0 d || dayF x8 d)) = x9 from ((runsL_congr fun i hi => by simp only [dayF_of E_z.out hi]).trans hx))
  clear hx
  go_wp2_with fail
  refine (union_to _ _ _ _ L0 x8 hX.out _ S_l0.out S_z.out (few_of hl0) (len_of E_z.out)).mono ?_
  rintro e w12 ⟨⟨a12, c12, rfl, h12⟩, hb12⟩
  replace S_l0 := Lib.hid (S_l0.out.below hb12)
  replace S_l1 := Lib.hid (S_l1.out.below hb12)
  replace S_l2 := Lib.hid (S_l2.out.below hb12)
  replace S_n := Lib.hid (S_n.out.below hb12)
  replace S_x := Lib.hid (S_x.out.below hb12)
  replace S_y := Lib.hid (S_y.out.below hb12)
  replace S_z := Lib.hid (S_z.out.below hb12)
  have HB12 := Lib.hid (HB11.out.trans (hb12.mono hs11))
  have hs12 := HB12.out.size
  clear hb12
  clear HB11 hs11
  clear hX
  have S_u := Lib.hid h12
  clear h12
  go_wp2_with fail
  refine (same_to _ _ _ _ _ _ (E_y.out.symm.trans ((runsL_congr fun i hi => by cases dayF L0 i <;> cases dayF L1 i <;> cases dayF L2 i <;> rfl).trans E_u.out)) _ S_y.out S_u.out (len_of E_y.out)).mono ?_
  rintro e w13 ⟨rfl, hb13⟩
  replace S_l0 := Lib.hid (S_l0.out.below hb13)
  replace S_l1 := Lib.hid (S_l1.out.below hb13)
  replace S_l2 := Lib.hid (S_l2.out.below hb13)
  replace S_n := Lib.hid (S_n.out.below hb13)
  replace S_x := Lib.hid (S_x.out.below hb13)
  replace S_y := Lib.hid (S_y.out.below hb13)
  replace S_z := Lib.hid (S_z.out.below hb13)
  replace S_u := Lib.hid (S_u.out.below hb13)
  have HB13 := Lib.hid (HB12.out.trans (hb13.mono hs12))
  have hs13 := HB13.out.size
  clear hb13
  clear HB12 hs12
  clear S_x E_x
  clear S_y E_y
  clear S_z E_z
  clear S_u E_u
  obtain ⟨x10, hx⟩ : ∃ x : SL, runsL (fun d => (dayF L0 d && dayF L1 d)) = x := ⟨_, rfl⟩
  have E_x := Lib.hid hx
  have hX := Lib.hid (show runsL (fun d => (dayF L0 d && dayF L1 d)) = x10 from ((runsL_congr fun i hi => by rfl).trans hx))
  clear hx
  go_wp2_with fail
  refine (meet_to _ _ _ _ L0 L1 hX.out _ S_l0.out S_l1.out (few_of hl0) (few_of hl1)).mono ?_
  rintro e w14 ⟨⟨a14, c14, rfl, h14⟩, hb14⟩
  replace S_l0 := Lib.hid (S_l0.out.below hb14)
  replace S_l1 := Lib.hid (S_l1.out.below hb14)
  replace S_l2 := Lib.hid (S_l2.out.below hb14)
  replace S_n := Lib.hid (S_n.out.below hb14)
  have HB14 := Lib.hid (HB13.out.trans (hb14.mono hs13))
  have hs14 := HB14.out.size
  clear hb14
  clear HB13 hs13
  clear hX
  have S_x := Lib.hid h14
  clear h14
  obtain ⟨x11, hx⟩ : ∃ x : SL, runsL (fun d => ((dayF L0 d && dayF L1 d) && dayF L2 d)) = x := ⟨_, rfl⟩
  have E_y := Lib.hid hx
  have hX := Lib.hid (show runsL (fun d => (dayF x10 d && dayF L2 d)) = x11 from ((runsL_congr fun i hi => by simp only [dayF_of E_x.out hi]).trans hx))
  clear hx
  go_wp2_with fail
  refine (meet_to _ _ _ _ x10 L2 hX.out _ S_x.out S_l2.out (len_of E_x.out) (few_of hl2)).mono ?_
  rintro e w15 ⟨⟨a15, c15, rfl, h15⟩, hb15⟩
  replace S_l0 := Lib.hid (S_l0.out.below hb15)
  replace S_l1 := Lib.hid (S_l1.out.below hb15)
  replace S_l2 := Lib.hid (S_l2.out.below hb15)
  replace S_n := Lib.hid (S_n.out.below hb15)
  replace S_x := Lib.hid (S_x.out.below hb15)
  have HB15 := Lib.hid (HB14.out.trans (hb15.mono hs14))
  have hs15 := HB15.out.size
  clear hb15
  clear HB14 hs14
  clear hX
  have S_y := Lib.hid h15
  clear h15
  obtain ⟨x12, hx⟩ : ∃ x : SL, runsL (fun d => (dayF L1 d && dayF L2 d)) = x := ⟨_, rfl⟩
  have E_z := Lib.hid hx
  have hX := Lib.hid (show runsL (fun d => (dayF L1 d && dayF L2 d)) = x12 from ((runsL_congr fun i hi => by rfl).trans hx))
  clear hx
  go_wp2_with fail
  refine (meet_to _ _ _ _ L1 L2 hX.out _ S_l1.out S_l2.out (few_of hl1) (few_of hl2)).mono ?_
  rintro e w16 ⟨⟨a16, c16, rfl, h16⟩, hb16⟩
  replace S_l0 := Lib.hid (S_l0.out.below hb16)
  replace S_l1 := Lib.hid (S_l1.out.below hb16)
  replace S_l2 := Lib.hid (S_l2.out.below hb16)
  replace S_n := Lib.hid (S_n.out.below hb16)
  replace S_x := Lib.hid (S_x.out.below hb16)
  replace S_y := Lib.hid (S_y.out.below hb16)
  have HB16 := Lib.hid (HB15.out.trans (hb16.mono hs15))
  have hs16 := HB16.out.size
  clear hb16
  clear HB15 hs15
  clear hX
  have S_z := Lib.hid h16
  clear h16
  obtain ⟨x13, hx⟩ : ∃ x : SL, runsL (fun d => (dayF L0 d && (dayF L1 d && dayF L2 d))) = x := ⟨_, rfl⟩
  have E_u := Lib.hid hx
  have hX := Lib.hid (show runsL (fun d => (dayF L0 d && dayF x12 d)) = x13 from ((runsL_congr fun i hi => by simp only [dayF_of E_z.out hi]).trans hx))
  clear hx
  go_wp2_with fail
  refine (meet_to _ _ _ _ L0 x12 hX.out _ S_l0.out S_z.out (few_of hl0) (len_of E_z.out)).mono ?_
  rintro e w17 ⟨⟨a17, c17, rfl, h17⟩, hb17⟩
  replace S_l0 := Lib.hid (S_l0.out.below hb17)
  replace S_l1 := Lib.hid (S_l1.out.below hb17)
  replace S_l2 := Lib.hid (S_l2.out.below hb17)
  replace S_n := Lib.hid (S_n.out.below hb17)
  replace S_x := Lib.hid (S_x.out.below hb17)
  replace S_y := Lib.hid (S_y.out.below hb17)
  replace S_z := Lib.hid (S_z.out.below hb17)
  have HB17 := Lib.hid (HB16.out.trans (hb17.mono hs16))
  have hs17 := HB17.out.size
  clear hb17
  clear HB16 hs16
  clear hX
  have S_u := Lib.hid h17
  clear h17
  go_wp2_with fail
  refine (same_to _ _ _ _ _ _ (E_y.out.symm.trans ((runsL_congr fun i hi => by cases dayF L0 i <;> cases dayF L1 i <;> cases dayF L2 i <;> rfl).trans E_u.out)) _ S_y.out S_u.out (len_of E_y.out)).mono ?_
  rintro e w18 ⟨rfl, hb18⟩
  replace S_l0 := Lib.hid (S_l0.out.below hb18)
  replace S_l1 := Lib.hid (S_l1.out.below hb18)
  replace S_l2 := Lib.hid (S_l2.out.below hb18)
  replace S_n := Lib.hid (S_n.out.below hb18)
  replace S_x := Lib.hid (S_x.out.below hb18)
  replace S_y := Lib.hid (S_y.out.below hb18)
  replace S_z := Lib.hid (S_z.out.below hb18)
  replace S_u := Lib.hid (S_u.out.below hb18)
  have HB18 := Lib.hid (HB17.out.trans (hb18.mono hs17))
  have hs18 := HB18.out.size
  clear hb18
  clear HB17 hs17
  clear S_x E_x
  clear S_y E_y
  clear S_z E_z
  clear S_u E_u
  obtain ⟨x14, hx⟩ : ∃ x : SL, runsL (fun d => (dayF L1 d || dayF L2 d)) = x := ⟨_, rfl⟩
  have E_x := Lib.hid hx
  have hX := Lib.hid (show runsL (fun d => (dayF L1 d || dayF L2 d)) = x14 from ((runsL_congr fun i hi => by rfl).trans hx))
  clear hx
  go_wp2_with fail
  refine (union_to _ _ _ _ L1 L2 hX.out _ S_l1.out S_l2.out (few_of hl1) (few_of hl2)).mono ?_
  rintro e w19 ⟨⟨a19, c19, rfl, h19⟩, hb19⟩
  replace S_l0 := Lib.hid (S_l0.out.below hb19)
  replace S_l1 := Lib.hid (S_l1.out.below hb19)
  replace S_l2 := Lib.hid (S_l2.out.below hb19)
  replace S_n := Lib.hid (S_n.out.below hb19)
  have HB19 := Lib.hid (HB18.out.trans (hb19.mono hs18))
  have hs19 := HB19.out.size
  clear hb19
  clear HB18 hs18
  clear hX
  have S_x := Lib.hid h19
  clear h19
  obtain ⟨x15, hx⟩ : ∃ x : SL, runsL (fun d => (dayF L0 d && (dayF L1 d || dayF L2 d))) = x := ⟨_, rfl⟩
  have E_y := Lib.hid hx
  have hX := Lib.hid (show runsL (fun d => (dayF L0 d && dayF x14 d)) = x15 from ((runsL_congr fun i hi => by simp only [dayF_of E_x.out hi]).trans hx))
  clear hx
  go_wp2_with fail
  refine (meet_to _ _ _ _ L0 x14 hX.out _ S_l0.out S_x.out (few_of hl0) (len_of E_x.out)).mono ?_
  rintro e w20 ⟨⟨a20, c20, rfl, h20⟩, hb20⟩
  replace S_l0 := Lib.hid (S_l0.out.below hb20)
  replace S_l1 := Lib.hid (S_l1.out.below hb20)
  replace S_l2 := Lib.hid (S_l2.out.below hb20)
  replace S_n := Lib.hid (S_n.out.below hb20)
  replace S_x := Lib.hid (S_x.out.below hb20)
  have HB20 := Lib.hid (HB19.out.trans (hb20.mono hs19))
  have hs20 := HB20.out.size
  clear hb20
  clear HB19 hs19
  clear hX
  have S_y := Lib.hid h20
  clear h20
  obtain ⟨x16, hx⟩ : ∃ x : SL, runsL (fun d => (dayF L0 d && dayF L1 d)) = x := ⟨_, rfl⟩
  have E_z := Lib.hid hx
  have hX := Lib.hid (show runsL (fun d => (dayF L0 d && dayF L1 d)) = x16 from ((runsL_congr fun i hi => by rfl).trans hx))
  clear hx
  go_wp2_with fail
  refine (meet_to _ _ _ _ L0 L1 hX.out _ S_l0.out S_l1.out (few_of hl0) (few_of hl1)).mono ?_
  rintro e w21 ⟨⟨a21, c21, rfl, h21⟩, hb21⟩
  replace S_l0 := Lib.hid (S_l0.out.below hb21)
  replace S_l1 := Lib.hid (S_l1.out.below hb21)
  replace S_l2 := Lib.hid (S_l2.out.below hb21)
  replace S_n := Lib.hid (S_n.out.below hb21)
  replace S_x := Lib.hid (S_x.out.below hb21)
  replace S_y := Lib.hid (S_y.out.below hb21)
  have HB21 := Lib.hid (HB20.out.trans (hb21.mono hs20))
  have hs21 := HB21.out.size
  clear hb21
  clear HB20 hs20
  clear hX
  have S_z := Lib.hid h21
  clear h21
  obtain ⟨x17, hx⟩ : ∃ x : SL, runsL (fun d => (dayF L0 d && dayF L2 d)) = x := ⟨_, rfl⟩
  have E_u := Lib.hid hx
  have hX := Lib.hid (show runsL (fun d => (dayF L0 d && dayF L2 d)) = x17 from ((runsL_congr fun i hi => by rfl).trans hx))
  clear hx
  go_wp2_with fail
  refine (meet_to _ _ _ _ L0 L2 hX.out _ S_l0.out S_l2.out (few_of hl0) (few_of hl2)).mono ?_
  rintro e w22 ⟨⟨a22, c22, rfl, h22⟩, hb22⟩
  replace S_l0 := Lib.hid (S_l0.out.below hb22)
  replace S_l1 := Lib.hid (S_l1.out.below hb22)
  replace S_l2 := Lib.hid (S_l2.out.below hb22)
  replace S_n := Lib.hid (S_n.out.below hb22)
  replace S_x := Lib.hid (S_x.out.below hb22)
  replace S_y := Lib.hid (S_y.out.below hb22)
  replace S_z := Lib.hid (S_z.out.below hb22)
  have HB22 := Lib.hid (HB21.out.trans (hb22.mono hs21))
  have hs22 := HB22.out.size
  clear hb22
  clear HB21 hs21
  clear hX
  have S_u := Lib.hid h22
  clear h22
  obtain ⟨x18, hx⟩ : ∃ x : SL, runsL (fun d => ((dayF L0 d && dayF L1 d) || (dayF L0 d && dayF L2 d))) = x := ⟨_, rfl⟩
  have E_v := Lib.hid hx
  have hX := Lib.hid (show runsL (fun d => (dayF x16 d || dayF x17 d)) = x18 from ((runsL_congr fun i hi => by simp only [dayF_of E_z.out hi, dayF_of E_u.out hi]).trans hx))
  clear hx
  go_wp2_with fail
  refine (union_to _ _ _ _ x16 x17 hX.out _ S_z.out S_u.out (len_of E_z.out) (len_of E_u.out)).mono ?_
  rintro e w23 ⟨⟨a23, c23, rfl, h23⟩, hb23⟩
  replace S_l0 := Lib.hid (S_l0.out.below hb23)
  replace S_l1 := Lib.hid (S_l1.out.below hb23)
  replace S_l2 := Lib.hid (S_l2.out.below hb23)
  replace S_n := Lib.hid (S_n.out.below hb23)
  replace S_x := Lib.hid (S_x.out.below hb23)
  replace S_y := Lib.hid (S_y.out.below hb23)
  replace S_z := Lib.hid (S_z.out.below hb23)
  replace S_u := Lib.hid (S_u.out.below hb23)
  have HB23 := Lib.hid (HB22.out.trans (hb23.mono hs22))
  have hs23 := HB23.out.size
  clear hb23
  clear HB22 hs22
  clear hX
  have S_v := Lib.hid h23
  clear h23
  go_wp2_with fail
  refine (same_to _ _ _ _ _ _ (E_y.out.symm.trans ((runsL_congr fun i hi => by cases dayF L0 i <;> cases dayF L1 i <;> cases dayF L2 i <;> rfl).trans E_v.out)) _ S_y.out S_v.out (len_of E_y.out)).mono ?_
  rintro e w24 ⟨rfl, hb24⟩
  replace S_l0 := Lib.hid (S_l0.out.below hb24)
  replace S_l1 := Lib.hid (S_l1.out.below hb24)
  replace S_l2 := Lib.hid (S_l2.out.below hb24)
  replace S_n := Lib.hid (S_n.out.below hb24)
  replace S_x := Lib.hid (S_x.out.below hb24)
  replace S_y := Lib.hid (S_y.out.below hb24)
  replace S_z := Lib.hid (S_z.out.below hb24)
  replace S_u := Lib.hid (S_u.out.below hb24)
  replace S_v := Lib.hid (S_v.out.below hb24)
  have HB24 := Lib.hid (HB23.out.trans (hb24.mono hs23))
  have hs24 := HB24.out.size
  clear hb24
  clear HB23 hs23
  clear S_x E_x
  clear S_y E_y
  clear S_z E_z
  clear S_u E_u
  clear S_v E_v
  obtain ⟨x19, hx⟩ : ∃ x : SL, runsL (fun d => (dayF L0 d || dayF L0 d)) = x := ⟨_, rfl⟩
  have E_x := Lib.hid hx
  have hX := Lib.hid (show runsL (fun d => (dayF L0 d || dayF L0 d)) = x19 from ((runsL_congr fun i hi => by rfl).trans hx))
  clear hx
  go_wp2_with fail
  refine (union_to _ _ _ _ L0 L0 hX.out _ S_l0.out S_l0.out (few_of hl0) (few_of hl0)).mono ?_
  rintro e w25 ⟨⟨a25, c25, rfl, h25⟩, hb25⟩
  replace S_l0 := Lib.hid (S_l0.out.below hb25)
  replace S_l1 := Lib.hid (S_l1.out.below hb25)
  replace S_l2 := Lib.hid (S_l2.out.below hb25)
  replace S_n := Lib.hid (S_n.out.below hb25)
  have HB25 := Lib.hid (HB24.out.trans (hb25.mono hs24))
  have hs25 := HB25.out.size
  clear hb25
  clear HB24 hs24
  clear hX
  have S_x := Lib.hid h25
  clear h25
  go_wp2_with fail
  refine (same_to _ _ _ _ _ _ (E_x.out.symm.trans ((runsL_congr fun i hi => by cases dayF L0 i <;> cases dayF L1 i <;> cases dayF L2 i <;> rfl).trans E_n.out)) _ S_x.out S_n.out (len_of E_x.out)).mono ?_
  rintro e w26 ⟨rfl, hb26⟩
  replace S_l0 := Lib.hid (S_l0.out.below hb26)
  replace S_l1 := Lib.hid (S_l1.out.below hb26)
  replace S_l2 := Lib.hid (S_l2.out.below hb26)
  replace S_n := Lib.hid (S_n.out.below hb26)
  replace S_x := Lib.hid (S_x.out.below hb26)
  have HB26 := Lib.hid (HB25.out.trans (hb26.mono hs25))
  have hs26 := HB26.out.size
  clear hb26
  clear HB25 hs25
  clear S_x E_x
  obtain ⟨x20, hx⟩ : ∃ x : SL, runsL (fun d => (dayF L0 d && dayF L0 d)) = x := ⟨_, rfl⟩
  have E_x := Lib.hid hx
  have hX := Lib.hid (show runsL (fun d => (dayF L0 d && dayF L0 d)) = x20 from ((runsL_congr fun i hi => by rfl).trans hx))
  clear hx
  go_wp2_with fail
  refine (meet_to _ _ _ _ L0 L0 hX.out _ S_l0.out S_l0.out (few_of hl0) (few_of hl0)).mono ?_
  rintro e w27 ⟨⟨a27, c27, rfl, h27⟩, hb27⟩
  replace S_l0 := Lib.hid (S_l0.out.below hb27)
  replace S_l1 := Lib.hid (S_l1.out.below hb27)
  replace S_l2 := Lib.hid (S_l2.out.below hb27)
  replace S_n := Lib.hid (S_n.out.below hb27)
  have HB27 := Lib.hid (HB26.out.trans (hb27.mono hs26))
  have hs27 := HB27.out.size
  clear hb27
  clear HB26 hs26
  clear hX
  have S_x := Lib.hid h27
  clear h27
  go_wp2_with fail
  refine (same_to _ _ _ _ _ _ (E_x.out.symm.trans ((runsL_congr fun i hi => by cases dayF L0 i <;> cases dayF L1 i <;> cases dayF L2 i <;> rfl).trans E_n.out)) _ S_x.out S_n.out (len_of E_x.out)).mono ?_
  rintro e w28 ⟨rfl, hb28⟩
  replace S_l0 := Lib.hid (S_l0.out.below hb28)
  replace S_l1 := Lib.hid (S_l1.out.below hb28)
  replace S_l2 := Lib.hid (S_l2.out.below hb28)
  replace S_n := Lib.hid (S_n.out.below hb28)
  replace S_x := Lib.hid (S_x.out.below hb28)
  have HB28 := Lib.hid (HB27.out.trans (hb28.mono hs27))
  have hs28 := HB28.out.size
  clear hb28
  clear HB27 hs27
  clear S_x E_x
  obtain ⟨x21, hx⟩ : ∃ x : SL, runsL (fun d => dayF L0 d) = x := ⟨_, rfl⟩
  have E_x := Lib.hid hx
  have hX := Lib.hid (show runsL (dayF x1) = x21 from ((runsL_congr fun i hi => by rw [dayF_of E_n.out hi]).trans hx))
  clear hx
  go_wp2_with fail
  refine (normal_to _ _ x1 hX.out _ S_n.out (len_of E_n.out)).mono ?_
  rintro e w29 ⟨⟨a29, c29, rfl, h29⟩, hb29⟩
  replace S_l0 := Lib.hid (S_l0.out.below hb29)
  replace S_l1 := Lib.hid (S_l1.out.below hb29)
  replace S_l2 := Lib.hid (S_l2.out.below hb29)
  replace S_n := Lib.hid (S_n.out.below hb29)
  have HB29 := Lib.hid (HB28.out.trans (hb29.mono hs28))
  have hs29 := HB29.out.size
  clear hb29
  clear HB28 hs28
  clear hX
  have S_x := Lib.hid h29
  clear h29
  go_wp2_with fail
  refine (same_to _ _ _ _ _ _ (E_x.out.symm.trans ((runsL_congr fun i hi => by cases dayF L0 i <;> cases dayF L1 i <;> cases dayF L2 i <;> rfl).trans E_n.out)) _ S_x.out S_n.out (len_of E_x.out)).mono ?_
  rintro e w30 ⟨rfl, hb30⟩
  replace S_l0 := Lib.hid (S_l0.out.below hb30)
  replace S_l1 := Lib.hid (S_l1.out.below hb30)
  replace S_l2 := Lib.hid (S_l2.out.below hb30)
  replace S_n := Lib.hid (S_n.out.below hb30)
  replace S_x := Lib.hid (S_x.out.below hb30)
  have HB30 := Lib.hid (HB29.out.trans (hb30.mono hs29))
  have hs30 := HB30.out.size
  clear hb30
  clear HB29 hs29
  clear S_x E_x
  obtain ⟨x22, hx⟩ : ∃ x : SL, runsL (fun d => (dayF L1 d || dayF L2 d)) = x := ⟨_, rfl⟩
  have E_x := Lib.hid hx
  have hX := Lib.hid (show runsL (fun d => (dayF L1 d || dayF L2 d)) = x22 from ((runsL_congr fun i hi => by rfl).trans hx))
  clear hx
  go_wp2_with fail
  refine (union_to _ _ _ _ L1 L2 hX.out _ S_l1.out S_l2.out (few_of hl1) (few_of hl2)).mono ?_
  rintro e w31 ⟨⟨a31, c31, rfl, h31⟩, hb31⟩
  replace S_l0 := Lib.hid (S_l0.out.below hb31)
  replace S_l1 := Lib.hid (S_l1.out.below hb31)
  replace S_l2 := Lib.hid (S_l2.out.below hb31)
  replace S_n := Lib.hid (S_n.out.below hb31)
  have HB31 := Lib.hid (HB30.out.trans (hb31.mono hs30))
  have hs31 := HB31.out.size
  clear hb31
  clear HB30 hs30
  clear hX
  have S_x := Lib.hid h31
  clear h31
  obtain ⟨x23, hx⟩ : ∃ x : SL, runsL (fun d => (dayF L0 d && !(dayF L1 d || dayF L2 d))) = x := ⟨_, rfl⟩
  have E_y := Lib.hid hx
  have hX := Lib.hid (show runsL (fun d => (dayF L0 d && !dayF x22 d)) = x23 from ((runsL_congr fun i hi => by simp only [dayF_of E_x.out hi]).trans hx))
  clear hx
  go_wp2_with fail
  refine (minus_to _ _ _ _ L0 x22 hX.out _ S_l0.out S_x.out (few_of hl0) (len_of E_x.out)).mono ?_
  rintro e w32 ⟨⟨a32, c32, rfl, h32⟩, hb32⟩
  replace S_l0 := Lib.hid (S_l0.out.below hb32)
  replace S_l1 := Lib.hid (S_l1.out.below hb32)
  replace S_l2 := Lib.hid (S_l2.out.below hb32)
  replace S_n := Lib.hid (S_n.out.below hb32)
  replace S_x := Lib.hid (S_x.out.below hb32)
  have HB32 := Lib.hid (HB31.out.trans (hb32.mono hs31))
  have hs32 := HB32.out.size
  clear hb32
  clear HB31 hs31
  clear hX
  have S_y := Lib.hid h32
  clear h32
  obtain ⟨x24, hx⟩ : ∃ x : SL, runsL (fun d => (dayF L0 d && !dayF L1 d)) = x := ⟨_, rfl⟩
  have E_z := Lib.hid hx
  have hX := Lib.hid (show runsL (fun d => (dayF L0 d && !dayF L1 d)) = x24 from ((runsL_congr fun i hi => by rfl).trans hx))
  clear hx
  go_wp2_with fail
  refine (minus_to _ _ _ _ L0 L1 hX.out _ S_l0.out S_l1.out (few_of hl0) (few_of hl1)).mono ?_
  rintro e w33 ⟨⟨a33, c33, rfl, h33⟩, hb33⟩
  replace S_l0 := Lib.hid (S_l0.out.below hb33)
  replace S_l1 := Lib.hid (S_l1.out.below hb33)
  replace S_l2 := Lib.hid (S_l2.out.below hb33)
  replace S_n := Lib.hid (S_n.out.below hb33)
  replace S_x := Lib.hid (S_x.out.below hb33)
  replace S_y := Lib.hid (S_y.out.below hb33)
  have HB33 := Lib.hid (HB32.out.trans (hb33.mono hs32))
  have hs33 := HB33.out.size
  clear hb33
  clear HB32 hs32
  clear hX
  have S_z := Lib.hid h33
  clear h33
  obtain ⟨x25, hx⟩ : ∃ x : SL, runsL (fun d => ((dayF L0 d && !dayF L1 d) && !dayF L2 d)) = x := ⟨_, rfl⟩
  have E_u := Lib.hid hx
  have hX := Lib.hid (show runsL (fun d => (dayF x24 d && !dayF L2 d)) = x25 from ((runsL_congr fun i hi => by simp only [dayF_of E_z.out hi]).trans hx))
  clear hx
  go_wp2_with fail
  refine (minus_to _ _ _ _ x24 L2 hX.out _ S_z.out S_l2.out (len_of E_z.out) (few_of hl2)).mono ?_
  rintro e w34 ⟨⟨a34, c34, rfl, h34⟩, hb34⟩
  replace S_l0 := Lib.hid (S_l0.out.below hb34)
  replace S_l1 := Lib.hid (S_l1.out.below hb34)
  replace S_l2 := Lib.hid (S_l2.out.below hb34)
  replace S_n := Lib.hid (S_n.out.below hb34)
  replace S_x := Lib.hid (S_x.out.below hb34)
  replace S_y := Lib.hid (S_y.out.below hb34)
  replace S_z := Lib.hid (S_z.out.below hb34)
  have HB34 := Lib.hid (HB33.out.trans (hb34.mono hs33))
  have hs34 := HB34.out.size
  clear hb34
  clear HB33 hs33
  clear hX
  have S_u := Lib.hid h34
  clear h34
  go_wp2_with fail
  refine (same_to _ _ _ _ _ _ (E_y.out.symm.trans ((runsL_congr fun i hi => by cases dayF L0 i <;> cases dayF L1 i <;> cases dayF L2 i <;> rfl).trans E_u.out)) _ S_y.out S_u.out (len_of E_y.out)).mono ?_
  rintro e w35 ⟨rfl, hb35⟩
  replace S_l0 := Lib.hid (S_l0.out.below hb35)
  replace S_l1 := Lib.hid (S_l1.out.below hb35)
  replace S_l2 := Lib.hid (S_l2.out.below hb35)
  replace S_n := Lib.hid (S_n.out.below hb35)
  replace S_x := Lib.hid (S_x.out.below hb35)
  replace S_y := Lib.hid (S_y.out.below hb35)
  replace S_z := Lib.hid (S_z.out.below hb35)
  replace S_u := Lib.hid (S_u.out.below hb35)
  have HB35 := Lib.hid (HB34.out.trans (hb35.mono hs34))
  have hs35 := HB35.out.size
  clear hb35
  clear HB34 hs34
  clear S_x E_x
  clear S_y E_y
  clear S_z E_z
  clear S_u E_u
  go_wp2_with fail
  refine (minus_to _ _ _ _ L0 L0 (runsTo_nil fun i hi => by cases dayF L0 i <;> rfl) _ S_l0.out S_l0.out (few_of hl0) (few_of hl0)).mono ?_
  rintro e w36 ⟨⟨a36, c36, rfl, h36⟩, hb36⟩
  replace S_l0 := Lib.hid (S_l0.out.below hb36)
  replace S_l1 := Lib.hid (S_l1.out.below hb36)
  replace S_l2 := Lib.hid (S_l2.out.below hb36)
  replace S_n := Lib.hid (S_n.out.below hb36)
  have HB36 := Lib.hid (HB35.out.trans (hb36.mono hs35))
  have hs36 := HB36.out.size
  clear hb36
  clear HB35 hs35
  clear h36
  go_wp2
  go_ret
  exact ⟨rfl, HB36.out⟩

set_option maxRecDepth 100000 in
theorem lifted (os : Os) (started : os.Started) (H : Type) (enc : TypeId × Value → H) :
    ReturnsInHanded {} Try.checked os 7 .any (Rows.spansAlgebraSpec.pre6 enc Try.prog Try.f7 Rows.spansAlgebraRow.domain false) (Rows.spansAlgebraSpec.post enc Try.prog Try.f7 false true false false) := by
  refine returnsInHanded_of_change (C := Try.checked) own started (by kernel_rfl) Try.func7
    (ChangeSpec.witness6 (enc := enc) (C := Try.checked) false ⟨#[], #[.slice none 0 0, .slice none 0 0, .slice none 0 0], []⟩ 8 (by kernel_rfl) (by kernel_rfl) (by kernel_rfl) (by kernel_rfl)) ?_
  intro W base args ds gs before hval0 hW hcnd _
  have hval : ∀ (j : Nat) t v, Try.f7.params[j]? = some t → args[j]? = some v → Value.okWide Try.prog W .any base t v := hval0
  have hW' := hW
  obtain ⟨p, q, hA0, hV, rfl, hfz, hnd⟩ := hW
  have hA : DataW.TrodAll enc Try.prog W 0 (fun _ => true) true Try.f7.params.toList args.toList ds p := hA0
  rw [Try.params7] at hA hval
  obtain ⟨v0, vs0, d0, ds0, p0, q0, hargs, rfl, rfl, h0, r0⟩ := trodAll_cons hA
  obtain ⟨v1, vs1, d1, ds1, p1, q1, rfl, rfl, rfl, h1, r1⟩ := trodAll_cons r0
  obtain ⟨v2, vs2, d2, ds2, p2, q2, rfl, rfl, rfl, h2, r2⟩ := trodAll_cons r1
  obtain ⟨rfl, rfl, rfl⟩ := trodAll_nil r2
  obtain rfl : args = #[v0, v1, v2] := by cases args; simp_all
  obtain ⟨rfl, rfl⟩ := trodVars_none hV
  have k0 := h0
  have lt0 : ∀ x ∈ p0, x.block < W.heap.size := by obtain ⟨m, hm⟩ := k0; exact DataW.trod_lt m _ _ _ hm
  obtain ⟨a0, n0, cap0, rfl⟩ := okWide_slice Try.underlying22 (hval 0 22 v0 rfl rfl)
  obtain ⟨L0, rfl, s0⟩ := open_sp h0
  have k1 := h1
  have lt1 : ∀ x ∈ p1, x.block < W.heap.size := by obtain ⟨m, hm⟩ := k1; exact DataW.trod_lt m _ _ _ hm
  obtain ⟨a1, n1, cap1, rfl⟩ := okWide_slice Try.underlying22 (hval 1 22 v1 rfl rfl)
  obtain ⟨L1, rfl, s1⟩ := open_sp h1
  have k2 := h2
  have lt2 : ∀ x ∈ p2, x.block < W.heap.size := by obtain ⟨m, hm⟩ := k2; exact DataW.trod_lt m _ _ _ hm
  obtain ⟨a2, n2, cap2, rfl⟩ := okWide_slice Try.underlying22 (hval 2 22 v2 rfl rfl)
  obtain ⟨L2, rfl, s2⟩ := open_sp h2
  clear hA0 hval0
  refine (walk a0 cap0 L0 a1 cap1 L1 a2 cap2 L2 W s0 s1 s2).mono fun e W' ⟨he, bel⟩ => ?_
  subst he
  exact ⟨_, rfl, _, _, _, [], _, [], hW', trodAll_mk1 (shut_bool Try.underlying4 _), (trodAll_cons_mk (Below.trod laidOut (by kernel_rfl) (of_decide_eq_true (by kernel_rfl)) k0 bel lt0) (trodAll_cons_mk (Below.trod laidOut (by kernel_rfl) (of_decide_eq_true (by kernel_rfl)) k1 bel lt1) (trodAll_cons_mk (Below.trod laidOut (by kernel_rfl) (of_decide_eq_true (by kernel_rfl)) k2 bel lt2) trodAll_mk0))), rfl, bel.frame _, fun h => by cases h⟩

theorem over : Rows.spansAlgebraRow.holds Try.pinned (OpenSpec.ofChange Rows.spansAlgebraSpec) :=
  OpenClaim.holds_of_wide 7 Try.f7 rfl rfl rfl rfl rfl rfl rfl ⟨rfl, rfl, rfl, rfl, rfl⟩ rfl rfl rfl rfl rfl (by kernel_rfl) Try.func7 (by kernel_rfl)
    (of_decide_eq_true (by kernel_rfl)) (by unfold Func.isWrapper; first | (rw [if_pos (by decide +kernel)]; kernel_rfl) | (rw [if_neg (by decide +kernel)]; exact ⟨rfl, rfl⟩))
    (fun os started H enc _ => lifted os started H enc)
end spansAlgebra
theorem spansAlgebra_holds : Rows.SpansAlgebraSaid := spansAlgebra.over
#print axioms spansAlgebra_holds
end Go.Proofs.Ytinkifhbpbkhpaa
