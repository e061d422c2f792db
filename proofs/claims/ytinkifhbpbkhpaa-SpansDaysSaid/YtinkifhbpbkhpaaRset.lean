import Derived.Test.YtinkifhbpbkhpaaSpans
import Derived.Test.YtinkifhbpbkhpaaDays
namespace Go.Proofs.Ytinkifhbpbkhpaa
open Go.RowKit

theorem SpanR.congr {f g : Nat → Bool} (h : ∀ i, i < 1024 → f i = g i) {e : Ending} {w : World} (hs : SpanR (runsL f) e w) : SpanR (runsL g) e w := by rw [← runsL_congr h]; exact hs

set_option maxHeartbeats 400000 in
theorem rnormal_any (a : Option Addr) (cap : Nat) (L : SL) (w : World) (hsp : Sp w a L) (hl : L.length ≤ 100000) :
    Calls Try.prog 16 #[.slice a L.length cap] w fun e w' => SpanR (runsL (dayF L)) e w' ∧ Below w.heap.size w w' := by
  go_enter Try.func16, Try.ntmps16
  go_wp2_with fail
  refine (days_any a cap L _ hsp hl).mono ?_
  rintro e w1 ⟨⟨D, rfl, hD, hBD⟩, hb1⟩
  clear hsp
  have HD := Lib.hid hBD
  have HB1 := Lib.hid hb1
  have hs1 := hb1.size
  clear hBD hb1
  go_wp2_with fail
  refine (spans_any D 1024 (dayF L) _ HD.out).mono ?_
  rintro e w2 ⟨⟨a2, c2, rfl, hs2⟩, hb2⟩
  have HS := Lib.hid hs2
  have HB2 := Lib.hid hb2
  clear hs2 hb2
  go_wp2
  go_ret
  exact ⟨⟨a2, c2, rfl, HS.out⟩, HB1.out.trans (HB2.out.mono hs1)⟩

/-- x so far -/
def mixF (op : Bool → Bool → Bool) (f g : Nat → Bool) (m : Nat) : Nat → Bool := fun d => if d < m then op (f d) (g d) else f d
theorem mix_set {op : Bool → Bool → Bool} {f g : Nat → Bool} {m : Nat} {v : Bool} (hv : v = op (f m) (g m)) {w : World} {b : Nat} {T : TypeId} (hb : Blk w b (dz (mixF op f g m)) T) :
    Blk (w.setCell ⟨b, m, none⟩ (.bool v)) b (dz (mixF op f g (m + 1))) T := by
  have h := hb.set m (.bool v)
  rw [dz_set] at h
  have : dz (fun j => if j = m then v else mixF op f g m j) = dz (mixF op f g (m + 1)) := by
    refine dz_congr fun i hi => ?_
    unfold mixF
    by_cases e : i = m
    · subst e; simp [hv]
    · by_cases h : i < m
      · simp [e, h, show i < m + 1 by omega]
      · simp [e, h, show ¬ i < m + 1 by omega]
  rw [this] at h
  exact h

set_option maxRecDepth 100000 in
set_option maxHeartbeats 400000 in
theorem runion_any (a a' : Option Addr) (cap cap' : Nat) (L M : SL) (w : World) (hsp : Sp w a L) (hsp' : Sp w a' M) (hl : L.length ≤ 100000) (hl' : M.length ≤ 100000) :
    Calls Try.prog 18 #[.slice a L.length cap, .slice a' M.length cap'] w fun e w' => SpanR (runsL fun d => dayF L d || dayF M d) e w' ∧ Below w.heap.size w w' := by
  go_enter Try.func18, Try.ntmps18
  go_wp2_with fail
  refine (days_any a cap L _ hsp hl).mono ?_
  rintro e w1 ⟨⟨D, rfl, hD, hBD⟩, hb1⟩
  have hsp2 := hsp'.below hb1
  clear hsp hsp'
  have HD := Lib.hid hBD
  have HB1 := Lib.hid hb1
  have hs1 := hb1.size
  clear hBD hb1
  go_wp2_with fail
  refine (days_any a' cap' M _ hsp2 hl').mono ?_
  rintro e w2 ⟨⟨D', rfl, hD', hBD'⟩, hb2⟩
  have HD2 := Lib.hid (HD.out.below hb2 HD.out.lt)
  have HD' := Lib.hid hBD'
  have hne : D < D' := Nat.lt_of_lt_of_le HD.out.lt hD'
  have hne2 : D' ≠ D := by omega
  have HB2 := Lib.hid (HB1.out.trans (hb2.mono hs1))
  have hs2 := hb2.size
  clear hsp2 hBD' hb2 HD
  go_wp2
  generalize hfa : dayF L = fa at *
  generalize hfb : dayF M = fb at *
  have HFA := Lib.hid hfa
  have HFB := Lib.hid hfb
  clear hfa hfb
  go_loopw [7] (fun m wr => ∃ k : Nat, k ≤ 1024 ∧ m = .int .i64 k ∧ Hid (Blk wr D (dz (mixF (fun x y => x || y) fa fb k)) 4) ∧ Hid (Blk wr D' (dz fb) 4) ∧ Below w.heap.size w wr) (fun m _ => 1024 - (intOf m).toNat)
  case atStart => exact ⟨0, by omega, rfl, HD2.out, HD'.out, HB2.out⟩
  case round =>
    obtain ⟨k, hk, rfl, Hx, Hy, hbw⟩ := hrel
    have hsz := hbw.size
    by_cases hlt : k < 1024
    · have c0 := Hx.out.cell k
      have c1 := Hy.out.cell k
      have fz := Hx.out.frozen k
      rw [dz_get _ _ hlt] at c0 c1
      simp only [mixF, Nat.lt_irrefl, if_false] at c0
      generalize hx : fa k = x at *
      generalize hy : fb k = y at *
      have HX := Lib.hid hx
      have HY := Lib.hid hy
      clear hx hy
      have fin : ∀ v, v = (fun x y => x || y) x y → Blk (wr.setCell ⟨D, k, none⟩ (.bool v)) D (dz (mixF (fun x y => x || y) fa fb (k + 1))) 4 := fun v hv => mix_set (by rw [HX.out, HY.out]; exact hv) Hx.out
      have Fin := Lib.hid fin
      clear fin
      cases x <;> cases y
      all_goals
        go_wp2
        go_roundw
        case rel => exact ⟨k + 1, by omega, by go_num, Fin.out _ rfl, Hy.out.keep hne2 _, hbw.setCell hD _⟩
        case measure => simp [intOf]; omega
    · obtain rfl : k = 1024 := by omega
      go_wp2_with fail
      refine (spans_any D 1024 _ _ Hx.out).mono ?_
      rintro e w3 ⟨⟨a3, c3, rfl, hs3⟩, hb3⟩
      have HS := Lib.hid hs3
      have HB3 := Lib.hid hb3
      clear hs3 hb3
      go_wp2
      go_ret
      refine ⟨SpanR.congr (fun i hi => ?_) ⟨a3, c3, rfl, HS.out⟩, hbw.trans (HB3.out.mono hsz)⟩
      simp only [mixF, hi, if_true, HFA.out, HFB.out]

set_option maxRecDepth 100000 in
set_option maxHeartbeats 400000 in
theorem rmeet_any (a a' : Option Addr) (cap cap' : Nat) (L M : SL) (w : World) (hsp : Sp w a L) (hsp' : Sp w a' M) (hl : L.length ≤ 100000) (hl' : M.length ≤ 100000) :
    Calls Try.prog 20 #[.slice a L.length cap, .slice a' M.length cap'] w fun e w' => SpanR (runsL fun d => dayF L d && dayF M d) e w' ∧ Below w.heap.size w w' := by
  go_enter Try.func20, Try.ntmps20
  go_wp2_with fail
  refine (days_any a cap L _ hsp hl).mono ?_
  rintro e w1 ⟨⟨D, rfl, hD, hBD⟩, hb1⟩
  have hsp2 := hsp'.below hb1
  clear hsp hsp'
  have HD := Lib.hid hBD
  have HB1 := Lib.hid hb1
  have hs1 := hb1.size
  clear hBD hb1
  go_wp2_with fail
  refine (days_any a' cap' M _ hsp2 hl').mono ?_
  rintro e w2 ⟨⟨D', rfl, hD', hBD'⟩, hb2⟩
  have HD2 := Lib.hid (HD.out.below hb2 HD.out.lt)
  have HD' := Lib.hid hBD'
  have hne : D < D' := Nat.lt_of_lt_of_le HD.out.lt hD'
  have hne2 : D' ≠ D := by omega
  have HB2 := Lib.hid (HB1.out.trans (hb2.mono hs1))
  have hs2 := hb2.size
  clear hsp2 hBD' hb2 HD
  go_wp2
  generalize hfa : dayF L = fa at *
  generalize hfb : dayF M = fb at *
  have HFA := Lib.hid hfa
  have HFB := Lib.hid hfb
  clear hfa hfb
  go_loopw [7] (fun m wr => ∃ k : Nat, k ≤ 1024 ∧ m = .int .i64 k ∧ Hid (Blk wr D (dz (mixF (fun x y => x && y) fa fb k)) 4) ∧ Hid (Blk wr D' (dz fb) 4) ∧ Below w.heap.size w wr) (fun m _ => 1024 - (intOf m).toNat)
  case atStart => exact ⟨0, by omega, rfl, HD2.out, HD'.out, HB2.out⟩
  case round =>
    obtain ⟨k, hk, rfl, Hx, Hy, hbw⟩ := hrel
    have hsz := hbw.size
    by_cases hlt : k < 1024
    · have c0 := Hx.out.cell k
      have c1 := Hy.out.cell k
      have fz := Hx.out.frozen k
      rw [dz_get _ _ hlt] at c0 c1
      simp only [mixF, Nat.lt_irrefl, if_false] at c0
      generalize hx : fa k = x at *
      generalize hy : fb k = y at *
      have HX := Lib.hid hx
      have HY := Lib.hid hy
      clear hx hy
      have fin : ∀ v, v = (fun x y => x && y) x y → Blk (wr.setCell ⟨D, k, none⟩ (.bool v)) D (dz (mixF (fun x y => x && y) fa fb (k + 1))) 4 := fun v hv => mix_set (by rw [HX.out, HY.out]; exact hv) Hx.out
      have Fin := Lib.hid fin
      clear fin
      cases x <;> cases y
      all_goals
        go_wp2
        go_roundw
        case rel => exact ⟨k + 1, by omega, by go_num, Fin.out _ rfl, Hy.out.keep hne2 _, hbw.setCell hD _⟩
        case measure => simp [intOf]; omega
    · obtain rfl : k = 1024 := by omega
      go_wp2_with fail
      refine (spans_any D 1024 _ _ Hx.out).mono ?_
      rintro e w3 ⟨⟨a3, c3, rfl, hs3⟩, hb3⟩
      have HS := Lib.hid hs3
      have HB3 := Lib.hid hb3
      clear hs3 hb3
      go_wp2
      go_ret
      refine ⟨SpanR.congr (fun i hi => ?_) ⟨a3, c3, rfl, HS.out⟩, hbw.trans (HB3.out.mono hsz)⟩
      simp only [mixF, hi, if_true, HFA.out, HFB.out]

set_option maxRecDepth 100000 in
set_option maxHeartbeats 400000 in
theorem rminus_any (a a' : Option Addr) (cap cap' : Nat) (L M : SL) (w : World) (hsp : Sp w a L) (hsp' : Sp w a' M) (hl : L.length ≤ 100000) (hl' : M.length ≤ 100000) :
    Calls Try.prog 22 #[.slice a L.length cap, .slice a' M.length cap'] w fun e w' => SpanR (runsL fun d => dayF L d && !(dayF M d)) e w' ∧ Below w.heap.size w w' := by
  go_enter Try.func22, Try.ntmps22
  go_wp2_with fail
  refine (days_any a cap L _ hsp hl).mono ?_
  rintro e w1 ⟨⟨D, rfl, hD, hBD⟩, hb1⟩
  have hsp2 := hsp'.below hb1
  clear hsp hsp'
  have HD := Lib.hid hBD
  have HB1 := Lib.hid hb1
  have hs1 := hb1.size
  clear hBD hb1
  go_wp2_with fail
  refine (days_any a' cap' M _ hsp2 hl').mono ?_
  rintro e w2 ⟨⟨D', rfl, hD', hBD'⟩, hb2⟩
  have HD2 := Lib.hid (HD.out.below hb2 HD.out.lt)
  have HD' := Lib.hid hBD'
  have hne : D < D' := Nat.lt_of_lt_of_le HD.out.lt hD'
  have hne2 : D' ≠ D := by omega
  have HB2 := Lib.hid (HB1.out.trans (hb2.mono hs1))
  have hs2 := hb2.size
  clear hsp2 hBD' hb2 HD
  go_wp2
  generalize hfa : dayF L = fa at *
  generalize hfb : dayF M = fb at *
  have HFA := Lib.hid hfa
  have HFB := Lib.hid hfb
  clear hfa hfb
  go_loopw [7] (fun m wr => ∃ k : Nat, k ≤ 1024 ∧ m = .int .i64 k ∧ Hid (Blk wr D (dz (mixF (fun x y => x && !y) fa fb k)) 4) ∧ Hid (Blk wr D' (dz fb) 4) ∧ Below w.heap.size w wr) (fun m _ => 1024 - (intOf m).toNat)
  case atStart => exact ⟨0, by omega, rfl, HD2.out, HD'.out, HB2.out⟩
  case round =>
    obtain ⟨k, hk, rfl, Hx, Hy, hbw⟩ := hrel
    have hsz := hbw.size
    by_cases hlt : k < 1024
    · have c0 := Hx.out.cell k
      have c1 := Hy.out.cell k
      have fz := Hx.out.frozen k
      rw [dz_get _ _ hlt] at c0 c1
      simp only [mixF, Nat.lt_irrefl, if_false] at c0
      generalize hx : fa k = x at *
      generalize hy : fb k = y at *
      have HX := Lib.hid hx
      have HY := Lib.hid hy
      clear hx hy
      have fin : ∀ v, v = (fun x y => x && !y) x y → Blk (wr.setCell ⟨D, k, none⟩ (.bool v)) D (dz (mixF (fun x y => x && !y) fa fb (k + 1))) 4 := fun v hv => mix_set (by rw [HX.out, HY.out]; exact hv) Hx.out
      have Fin := Lib.hid fin
      clear fin
      cases x <;> cases y
      all_goals
        go_wp2
        go_roundw
        case rel => exact ⟨k + 1, by omega, by go_num, Fin.out _ rfl, Hy.out.keep hne2 _, hbw.setCell hD _⟩
        case measure => simp [intOf]; omega
    · obtain rfl : k = 1024 := by omega
      go_wp2_with fail
      refine (spans_any D 1024 _ _ Hx.out).mono ?_
      rintro e w3 ⟨⟨a3, c3, rfl, hs3⟩, hb3⟩
      have HS := Lib.hid hs3
      have HB3 := Lib.hid hb3
      clear hs3 hb3
      go_wp2
      go_ret
      refine ⟨SpanR.congr (fun i hi => ?_) ⟨a3, c3, rfl, HS.out⟩, hbw.trans (HB3.out.mono hsz)⟩
      simp only [mixF, hi, if_true, HFA.out, HFB.out]

end Go.Proofs.Ytinkifhbpbkhpaa
