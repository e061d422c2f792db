import Derived.Test.YtinkifhbpbkhpaaSets
import Derived.Test.YtinkifhbpbkhpaaSame
import Derived.Test.YtinkifhbpbkhpaaCov
import Derived.Test.YtinkifhbpbkhpaaList
namespace Go.Proofs.Ytinkifhbpbkhpaa
open Go.RowKit

theorem SpanR.to {L M : SL} (h : L = M) {e : Ending} {w : World} (hs : SpanR L e w) : SpanR M e w := h ▸ hs
theorem list2 (x y : Int) (w : World) : Calls Try.prog 27 #[.slice (some ⟨w.heap.size, 0, none⟩) 2 2] (w.alloc (.cells #[.int .i64 x, .int .i64 y] 3)) fun e w' => SpanR [(x, y)] e w' ∧ Below w.heap.size w w' := by
  have hb := Blk.new w #[.int .i64 x, .int .i64 y] 3
  refine (list_any w.heap.size 2 [x, y] _ hb.lt (fun i hi => ?_) (by simp)).mono fun e w' h => ⟨SpanR.to (by simp [pairsK, List.range_succ]) h.1, ((Below.refl _ _).alloc (Nat.le_refl _) _).trans (h.2.mono (by simp))⟩
  rw [hb.cell]
  match i, hi with
  | 0, _ => rfl
  | 1, _ => rfl
theorem list4 (x y z u : Int) (w : World) : Calls Try.prog 27 #[.slice (some ⟨w.heap.size, 0, none⟩) 4 4] (w.alloc (.cells #[.int .i64 x, .int .i64 y, .int .i64 z, .int .i64 u] 3)) fun e w' => SpanR [(x, y), (z, u)] e w' ∧ Below w.heap.size w w' := by
  have hb := Blk.new w #[.int .i64 x, .int .i64 y, .int .i64 z, .int .i64 u] 3
  refine (list_any w.heap.size 4 [x, y, z, u] _ hb.lt (fun i hi => ?_) (by simp)).mono fun e w' h => ⟨SpanR.to (by simp [pairsK, List.range_succ]) h.1, ((Below.refl _ _).alloc (Nat.le_refl _) _).trans (h.2.mono (by simp))⟩
  rw [hb.cell]
  match i, hi with
  | 0, _ => rfl
  | 1, _ => rfl
  | 2, _ => rfl
  | 3, _ => rfl
theorem same_eq (a a' : Option Addr) (cap cap' : Nat) (L : SL) (w : World) (hsp : Sp w a L) (hsp' : Sp w a' L) (hl : L.length ≤ 100000) :
    Calls Try.prog 14 #[.slice a L.length cap, .slice a' L.length cap'] w fun e w' => e = .returned (.bool true) ∧ Below w.heap.size w w' :=
  (same_any a a' cap cap' L L w hsp hsp' hl hl).mono fun e w' h => ⟨h.1.trans (ret_bool (by simp)), h.2⟩

theorem normal_to (a : Option Addr) (cap : Nat) (L : SL) {M : SL} (h : runsL (dayF L) = M) (w : World) (hsp : Sp w a L) (hl : L.length ≤ 100000) :
    Calls Try.prog 15 #[.slice a L.length cap] w fun e w' => SpanR M e w' ∧ Below w.heap.size w w' := h ▸ normal_any a cap L w hsp hl
theorem union_to (a a' : Option Addr) (cap cap' : Nat) (L M : SL) {N : SL} (h : runsL (fun d => dayF L d || dayF M d) = N) (w : World) (hsp : Sp w a L) (hsp' : Sp w a' M) (hl : L.length ≤ 100000) (hl' : M.length ≤ 100000) :
    Calls Try.prog 17 #[.slice a L.length cap, .slice a' M.length cap'] w fun e w' => SpanR N e w' ∧ Below w.heap.size w w' := h ▸ union_any a a' cap cap' L M w hsp hsp' hl hl'
theorem meet_to (a a' : Option Addr) (cap cap' : Nat) (L M : SL) {N : SL} (h : runsL (fun d => dayF L d && dayF M d) = N) (w : World) (hsp : Sp w a L) (hsp' : Sp w a' M) (hl : L.length ≤ 100000) (hl' : M.length ≤ 100000) :
    Calls Try.prog 19 #[.slice a L.length cap, .slice a' M.length cap'] w fun e w' => SpanR N e w' ∧ Below w.heap.size w w' := h ▸ meet_any a a' cap cap' L M w hsp hsp' hl hl'
theorem minus_to (a a' : Option Addr) (cap cap' : Nat) (L M : SL) {N : SL} (h : runsL (fun d => dayF L d && !(dayF M d)) = N) (w : World) (hsp : Sp w a L) (hsp' : Sp w a' M) (hl : L.length ≤ 100000) (hl' : M.length ≤ 100000) :
    Calls Try.prog 21 #[.slice a L.length cap, .slice a' M.length cap'] w fun e w' => SpanR N e w' ∧ Below w.heap.size w w' := h ▸ minus_any a a' cap cap' L M w hsp hsp' hl hl'
theorem covers_to (a : Option Addr) (cap : Nat) (L : SL) (f t : Int) {r : Bool} (h : covB (dayF L) f t = r) (w : World) (hsp : Sp w a L) (hl : L.length ≤ 100000) :
    Calls Try.prog 25 #[.slice a L.length cap, .agg #[.int .i64 f, .int .i64 t]] w fun e w' => e = .returned (.bool r) ∧ Below w.heap.size w w' := h ▸ covers_any a cap L f t w hsp hl
theorem has_to (a : Option Addr) (cap : Nat) (L : SL) (d : Int) {r : Bool} (h : hasB L d = r) (w : World) (hsp : Sp w a L) (hl : L.length ≤ 100000) :
    Calls Try.prog 23 #[.slice a L.length cap, .int .i64 d] w fun e w' => e = .returned (.bool r) ∧ Below w.heap.size w w' := h ▸ has_any a cap L d w hsp hl
theorem check_to (a : Option Addr) (cap : Nat) (L : SL) {r : Int} (h : chkE L = r) (w : World) (hsp : Sp w a L) (hl : L.length ≤ 100000) :
    Calls Try.prog 12 #[.slice a L.length cap] w fun e w' => e = .returned (.int .i64 r) ∧ Below w.heap.size w w' := h ▸ check_any a cap L w hsp hl

theorem f_n3 : runsL (dayF [(10, 20), (15, 30)]) = [(10, 30)] := by decide +kernel
theorem f_n7 : runsL (dayF [(-5, 2000)]) = [(0, 1024)] := by decide +kernel
theorem f_n10 : runsL (dayF [(5, 5)]) = [] := by decide +kernel
theorem f_s12 : runsL (fun d => dayF [(0, 1024)] d && !(dayF [(0, 10)] d)) = [(10, 1024)] := by decide +kernel
theorem f_s17 : runsL (fun d => dayF [(3, 4)] d || dayF [(4, 5)] d) = [(3, 5)] := by decide +kernel
theorem f_s22 : runsL (fun d => dayF [(3, 9)] d && dayF [(5, 12)] d) = [(5, 9)] := by decide +kernel
theorem f_c26 : covB (dayF [(0, 10), (10, 20)]) 5 15 = true := by decide +kernel
theorem f_c27 : covB (dayF []) 7 7 = true := by decide +kernel
theorem f_c28 : covB (dayF [(0, 1024)]) 1023 1025 = false := by decide +kernel
theorem f_h29 : hasB [(0, 1024)] 1023 = true := by decide +kernel
theorem f_h30 : hasB [(0, 1024)] 1024 = false := by decide +kernel
theorem f_k32 : chkE [(0, 0)] = 30 := by decide +kernel
theorem f_k33 : chkE [(0, 1024)] = 0 := by decide +kernel

set_option maxRecDepth 100000 in
set_option maxHeartbeats 20000000 in
theorem sane_any (w : World) : Calls Try.prog 10 #[] w fun e w' => e = .returned (.bool true) ∧ Below w.heap.size w w' := by
  go_enter Try.func10, Try.ntmps10
  go_wp2_with fail
  refine (list2 (0) (1024) _).mono ?_
  rintro e w1 ⟨⟨a1, c1, rfl, h1⟩, hb1⟩
  have HB1 := Lib.hid (hb1)
  have hs1 := hb1.size
  clear hb1
  have S_all := Lib.hid h1
  clear h1
  go_wp2_with fail
  refine (list4 (10) (20) (15) (30) _).mono ?_
  rintro e w2 ⟨⟨a2, c2, rfl, h2⟩, hb2⟩
  replace S_all := Lib.hid (S_all.out.below hb2)
  have HB2 := Lib.hid (HB1.out.trans (hb2.mono hs1))
  have hs2 := HB2.out.size
  clear hb2
  clear HB1 hs1
  have S_x := Lib.hid h2
  clear h2
  go_wp2_with fail
  refine (normal_to _ _ [(10, 20), (15, 30)] f_n3 _ S_x.out (by decide)).mono ?_
  rintro e w3 ⟨⟨a3, c3, rfl, h3⟩, hb3⟩
  replace S_all := Lib.hid (S_all.out.below hb3)
  replace S_x := Lib.hid (S_x.out.below hb3)
  have HB3 := Lib.hid (HB2.out.trans (hb3.mono hs2))
  have hs3 := HB3.out.size
  clear hb3
  clear HB2 hs2
  have S_y := Lib.hid h3
  clear h3
  go_wp2_with fail
  refine (list2 (10) (30) _).mono ?_
  rintro e w4 ⟨⟨a4, c4, rfl, h4⟩, hb4⟩
  replace S_all := Lib.hid (S_all.out.below hb4)
  replace S_x := Lib.hid (S_x.out.below hb4)
  replace S_y := Lib.hid (S_y.out.below hb4)
  have HB4 := Lib.hid (HB3.out.trans (hb4.mono hs3))
  have hs4 := HB4.out.size
  clear hb4
  clear HB3 hs3
  have S_z := Lib.hid h4
  clear h4
  go_wp2_with fail
  refine (same_eq _ _ _ _ [(10, 30)] _ S_y.out S_z.out (by decide)).mono ?_
  rintro e w5 ⟨rfl, hb5⟩
  replace S_all := Lib.hid (S_all.out.below hb5)
  replace S_x := Lib.hid (S_x.out.below hb5)
  replace S_y := Lib.hid (S_y.out.below hb5)
  replace S_z := Lib.hid (S_z.out.below hb5)
  have HB5 := Lib.hid (HB4.out.trans (hb5.mono hs4))
  have hs5 := HB5.out.size
  clear hb5
  clear HB4 hs4
  clear S_x
  clear S_y
  clear S_z
  go_wp2_with fail
  refine (list2 (-5) (2000) _).mono ?_
  rintro e w6 ⟨⟨a6, c6, rfl, h6⟩, hb6⟩
  replace S_all := Lib.hid (S_all.out.below hb6)
  have HB6 := Lib.hid (HB5.out.trans (hb6.mono hs5))
  have hs6 := HB6.out.size
  clear hb6
  clear HB5 hs5
  have S_x := Lib.hid h6
  clear h6
  go_wp2_with fail
  refine (normal_to _ _ [(-5, 2000)] f_n7 _ S_x.out (by decide)).mono ?_
  rintro e w7 ⟨⟨a7, c7, rfl, h7⟩, hb7⟩
  replace S_all := Lib.hid (S_all.out.below hb7)
  replace S_x := Lib.hid (S_x.out.below hb7)
  have HB7 := Lib.hid (HB6.out.trans (hb7.mono hs6))
  have hs7 := HB7.out.size
  clear hb7
  clear HB6 hs6
  have S_y := Lib.hid h7
  clear h7
  go_wp2_with fail
  refine (same_eq _ _ _ _ [(0, 1024)] _ S_y.out S_all.out (by decide)).mono ?_
  rintro e w8 ⟨rfl, hb8⟩
  replace S_all := Lib.hid (S_all.out.below hb8)
  replace S_x := Lib.hid (S_x.out.below hb8)
  replace S_y := Lib.hid (S_y.out.below hb8)
  have HB8 := Lib.hid (HB7.out.trans (hb8.mono hs7))
  have hs8 := HB8.out.size
  clear hb8
  clear HB7 hs7
  clear S_x
  clear S_y
  go_wp2_with fail
  refine (list2 (5) (5) _).mono ?_
  rintro e w9 ⟨⟨a9, c9, rfl, h9⟩, hb9⟩
  replace S_all := Lib.hid (S_all.out.below hb9)
  have HB9 := Lib.hid (HB8.out.trans (hb9.mono hs8))
  have hs9 := HB9.out.size
  clear hb9
  clear HB8 hs8
  have S_x := Lib.hid h9
  clear h9
  go_wp2_with fail
  refine (normal_to _ _ [(5, 5)] f_n10 _ S_x.out (by decide)).mono ?_
  rintro e w10 ⟨⟨a10, c10, rfl, h10⟩, hb10⟩
  replace S_all := Lib.hid (S_all.out.below hb10)
  replace S_x := Lib.hid (S_x.out.below hb10)
  have HB10 := Lib.hid (HB9.out.trans (hb10.mono hs9))
  have hs10 := HB10.out.size
  clear hb10
  clear HB9 hs9
  have S_y := Lib.hid h10
  clear h10
  clear S_x
  clear S_y
  go_wp2_with fail
  refine (list2 (0) (10) _).mono ?_
  rintro e w11 ⟨⟨a11, c11, rfl, h11⟩, hb11⟩
  replace S_all := Lib.hid (S_all.out.below hb11)
  have HB11 := Lib.hid (HB10.out.trans (hb11.mono hs10))
  have hs11 := HB11.out.size
  clear hb11
  clear HB10 hs10
  have S_x := Lib.hid h11
  clear h11
  go_wp2_with fail
  refine (minus_to _ _ _ _ [(0, 1024)] [(0, 10)] f_s12 _ S_all.out S_x.out (by decide) (by decide)).mono ?_
  rintro e w12 ⟨⟨a12, c12, rfl, h12⟩, hb12⟩
  replace S_all := Lib.hid (S_all.out.below hb12)
  replace S_x := Lib.hid (S_x.out.below hb12)
  have HB12 := Lib.hid (HB11.out.trans (hb12.mono hs11))
  have hs12 := HB12.out.size
  clear hb12
  clear HB11 hs11
  have S_y := Lib.hid h12
  clear h12
  go_wp2_with fail
  refine (list2 (10) (1024) _).mono ?_
  rintro e w13 ⟨⟨a13, c13, rfl, h13⟩, hb13⟩
  replace S_all := Lib.hid (S_all.out.below hb13)
  replace S_x := Lib.hid (S_x.out.below hb13)
  replace S_y := Lib.hid (S_y.out.below hb13)
  have HB13 := Lib.hid (HB12.out.trans (hb13.mono hs12))
  have hs13 := HB13.out.size
  clear hb13
  clear HB12 hs12
  have S_z := Lib.hid h13
  clear h13
  go_wp2_with fail
  refine (same_eq _ _ _ _ [(10, 1024)] _ S_y.out S_z.out (by decide)).mono ?_
  rintro e w14 ⟨rfl, hb14⟩
  replace S_all := Lib.hid (S_all.out.below hb14)
  replace S_x := Lib.hid (S_x.out.below hb14)
  replace S_y := Lib.hid (S_y.out.below hb14)
  replace S_z := Lib.hid (S_z.out.below hb14)
  have HB14 := Lib.hid (HB13.out.trans (hb14.mono hs13))
  have hs14 := HB14.out.size
  clear hb14
  clear HB13 hs13
  clear S_x
  clear S_y
  clear S_z
  go_wp2_with fail
  refine (list2 (3) (4) _).mono ?_
  rintro e w15 ⟨⟨a15, c15, rfl, h15⟩, hb15⟩
  replace S_all := Lib.hid (S_all.out.below hb15)
  have HB15 := Lib.hid (HB14.out.trans (hb15.mono hs14))
  have hs15 := HB15.out.size
  clear hb15
  clear HB14 hs14
  have S_x := Lib.hid h15
  clear h15
  go_wp2_with fail
  refine (list2 (4) (5) _).mono ?_
  rintro e w16 ⟨⟨a16, c16, rfl, h16⟩, hb16⟩
  replace S_all := Lib.hid (S_all.out.below hb16)
  replace S_x := Lib.hid (S_x.out.below hb16)
  have HB16 := Lib.hid (HB15.out.trans (hb16.mono hs15))
  have hs16 := HB16.out.size
  clear hb16
  clear HB15 hs15
  have S_u := Lib.hid h16
  clear h16
  go_wp2_with fail
  refine (union_to _ _ _ _ [(3, 4)] [(4, 5)] f_s17 _ S_x.out S_u.out (by decide) (by decide)).mono ?_
  rintro e w17 ⟨⟨a17, c17, rfl, h17⟩, hb17⟩
  replace S_all := Lib.hid (S_all.out.below hb17)
  replace S_x := Lib.hid (S_x.out.below hb17)
  replace S_u := Lib.hid (S_u.out.below hb17)
  have HB17 := Lib.hid (HB16.out.trans (hb17.mono hs16))
  have hs17 := HB17.out.size
  clear hb17
  clear HB16 hs16
  have S_y := Lib.hid h17
  clear h17
  go_wp2_with fail
  refine (list2 (3) (5) _).mono ?_
  rintro e w18 ⟨⟨a18, c18, rfl, h18⟩, hb18⟩
  replace S_all := Lib.hid (S_all.out.below hb18)
  replace S_x := Lib.hid (S_x.out.below hb18)
  replace S_u := Lib.hid (S_u.out.below hb18)
  replace S_y := Lib.hid (S_y.out.below hb18)
  have HB18 := Lib.hid (HB17.out.trans (hb18.mono hs17))
  have hs18 := HB18.out.size
  clear hb18
  clear HB17 hs17
  have S_z := Lib.hid h18
  clear h18
  go_wp2_with fail
  refine (same_eq _ _ _ _ [(3, 5)] _ S_y.out S_z.out (by decide)).mono ?_
  rintro e w19 ⟨rfl, hb19⟩
  replace S_all := Lib.hid (S_all.out.below hb19)
  replace S_x := Lib.hid (S_x.out.below hb19)
  replace S_u := Lib.hid (S_u.out.below hb19)
  replace S_y := Lib.hid (S_y.out.below hb19)
  replace S_z := Lib.hid (S_z.out.below hb19)
  have HB19 := Lib.hid (HB18.out.trans (hb19.mono hs18))
  have hs19 := HB19.out.size
  clear hb19
  clear HB18 hs18
  clear S_x
  clear S_y
  clear S_z
  clear S_u
  go_wp2_with fail
  refine (list2 (3) (9) _).mono ?_
  rintro e w20 ⟨⟨a20, c20, rfl, h20⟩, hb20⟩
  replace S_all := Lib.hid (S_all.out.below hb20)
  have HB20 := Lib.hid (HB19.out.trans (hb20.mono hs19))
  have hs20 := HB20.out.size
  clear hb20
  clear HB19 hs19
  have S_x := Lib.hid h20
  clear h20
  go_wp2_with fail
  refine (list2 (5) (12) _).mono ?_
  rintro e w21 ⟨⟨a21, c21, rfl, h21⟩, hb21⟩
  replace S_all := Lib.hid (S_all.out.below hb21)
  replace S_x := Lib.hid (S_x.out.below hb21)
  have HB21 := Lib.hid (HB20.out.trans (hb21.mono hs20))
  have hs21 := HB21.out.size
  clear hb21
  clear HB20 hs20
  have S_u := Lib.hid h21
  clear h21
  go_wp2_with fail
  refine (meet_to _ _ _ _ [(3, 9)] [(5, 12)] f_s22 _ S_x.out S_u.out (by decide) (by decide)).mono ?_
  rintro e w22 ⟨⟨a22, c22, rfl, h22⟩, hb22⟩
  replace S_all := Lib.hid (S_all.out.below hb22)
  replace S_x := Lib.hid (S_x.out.below hb22)
  replace S_u := Lib.hid (S_u.out.below hb22)
  have HB22 := Lib.hid (HB21.out.trans (hb22.mono hs21))
  have hs22 := HB22.out.size
  clear hb22
  clear HB21 hs21
  have S_y := Lib.hid h22
  clear h22
  go_wp2_with fail
  refine (list2 (5) (9) _).mono ?_
  rintro e w23 ⟨⟨a23, c23, rfl, h23⟩, hb23⟩
  replace S_all := Lib.hid (S_all.out.below hb23)
  replace S_x := Lib.hid (S_x.out.below hb23)
  replace S_u := Lib.hid (S_u.out.below hb23)
  replace S_y := Lib.hid (S_y.out.below hb23)
  have HB23 := Lib.hid (HB22.out.trans (hb23.mono hs22))
  have hs23 := HB23.out.size
  clear hb23
  clear HB22 hs22
  have S_z := Lib.hid h23
  clear h23
  go_wp2_with fail
  refine (same_eq _ _ _ _ [(5, 9)] _ S_y.out S_z.out (by decide)).mono ?_
  rintro e w24 ⟨rfl, hb24⟩
  replace S_all := Lib.hid (S_all.out.below hb24)
  replace S_x := Lib.hid (S_x.out.below hb24)
  replace S_u := Lib.hid (S_u.out.below hb24)
  replace S_y := Lib.hid (S_y.out.below hb24)
  replace S_z := Lib.hid (S_z.out.below hb24)
  have HB24 := Lib.hid (HB23.out.trans (hb24.mono hs23))
  have hs24 := HB24.out.size
  clear hb24
  clear HB23 hs23
  clear S_x
  clear S_y
  clear S_z
  clear S_u
  go_wp2_with fail
  refine (list4 (0) (10) (10) (20) _).mono ?_
  rintro e w25 ⟨⟨a25, c25, rfl, h25⟩, hb25⟩
  replace S_all := Lib.hid (S_all.out.below hb25)
  have HB25 := Lib.hid (HB24.out.trans (hb25.mono hs24))
  have hs25 := HB25.out.size
  clear hb25
  clear HB24 hs24
  have S_x := Lib.hid h25
  clear h25
  go_wp2_with fail
  refine (covers_to _ _ [(0, 10), (10, 20)] 5 15 f_c26 _ S_x.out (by decide)).mono ?_
  rintro e w26 ⟨rfl, hb26⟩
  replace S_all := Lib.hid (S_all.out.below hb26)
  replace S_x := Lib.hid (S_x.out.below hb26)
  have HB26 := Lib.hid (HB25.out.trans (hb26.mono hs25))
  have hs26 := HB26.out.size
  clear hb26
  clear HB25 hs25
  clear S_x
  go_wp2_with fail
  refine (covers_to none 0 [] 7 7 f_c27 _ (fun i hi => by simp at hi) (by decide)).mono ?_
  rintro e w27 ⟨rfl, hb27⟩
  replace S_all := Lib.hid (S_all.out.below hb27)
  have HB27 := Lib.hid (HB26.out.trans (hb27.mono hs26))
  have hs27 := HB27.out.size
  clear hb27
  clear HB26 hs26
  go_wp2_with fail
  refine (covers_to _ _ [(0, 1024)] 1023 1025 f_c28 _ S_all.out (by decide)).mono ?_
  rintro e w28 ⟨rfl, hb28⟩
  replace S_all := Lib.hid (S_all.out.below hb28)
  have HB28 := Lib.hid (HB27.out.trans (hb28.mono hs27))
  have hs28 := HB28.out.size
  clear hb28
  clear HB27 hs27
  go_wp2_with fail
  refine (has_to _ _ [(0, 1024)] 1023 f_h29 _ S_all.out (by decide)).mono ?_
  rintro e w29 ⟨rfl, hb29⟩
  replace S_all := Lib.hid (S_all.out.below hb29)
  have HB29 := Lib.hid (HB28.out.trans (hb29.mono hs28))
  have hs29 := HB29.out.size
  clear hb29
  clear HB28 hs28
  go_wp2_with fail
  refine (has_to _ _ [(0, 1024)] 1024 f_h30 _ S_all.out (by decide)).mono ?_
  rintro e w30 ⟨rfl, hb30⟩
  replace S_all := Lib.hid (S_all.out.below hb30)
  have HB30 := Lib.hid (HB29.out.trans (hb30.mono hs29))
  have hs30 := HB30.out.size
  clear hb30
  clear HB29 hs29
  go_wp2_with fail
  refine (list2 (0) (0) _).mono ?_
  rintro e w31 ⟨⟨a31, c31, rfl, h31⟩, hb31⟩
  replace S_all := Lib.hid (S_all.out.below hb31)
  have HB31 := Lib.hid (HB30.out.trans (hb31.mono hs30))
  have hs31 := HB31.out.size
  clear hb31
  clear HB30 hs30
  have S_x := Lib.hid h31
  clear h31
  go_wp2_with fail
  refine (check_to _ _ [(0, 0)] f_k32 _ S_x.out (by decide)).mono ?_
  rintro e w32 ⟨rfl, hb32⟩
  replace S_all := Lib.hid (S_all.out.below hb32)
  replace S_x := Lib.hid (S_x.out.below hb32)
  have HB32 := Lib.hid (HB31.out.trans (hb32.mono hs31))
  have hs32 := HB32.out.size
  clear hb32
  clear HB31 hs31
  clear S_x
  go_wp2_with fail
  refine (check_to _ _ [(0, 1024)] f_k33 _ S_all.out (by decide)).mono ?_
  rintro e w33 ⟨rfl, hb33⟩
  replace S_all := Lib.hid (S_all.out.below hb33)
  have HB33 := Lib.hid (HB32.out.trans (hb33.mono hs32))
  have hs33 := HB33.out.size
  clear hb33
  clear HB32 hs32
  go_wp2
  go_ret
  exact ⟨rfl, HB33.out⟩

end Go.Proofs.Ytinkifhbpbkhpaa
