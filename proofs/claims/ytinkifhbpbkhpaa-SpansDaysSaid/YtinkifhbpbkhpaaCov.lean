import Derived.Test.YtinkifhbpbkhpaaDays
namespace Go.Proofs.Ytinkifhbpbkhpaa
open Go.RowKit

/-- all days from f to t - 1 are of the list -/
def CovP (g : Nat → Bool) (f n : Int) : Prop := ∀ d : Nat, f ≤ (d : Int) → (d : Int) < n → g d = true
def covB (g : Nat → Bool) (f t : Int) : Bool := decide (t ≤ f) || (decide (0 ≤ f) && decide (t ≤ 1024) && (List.range t.toNat).all fun d => decide ((d : Int) < f) || g d)
theorem covB_iff {g : Nat → Bool} {f t : Int} : covB g f t = true ↔ (t ≤ f ∨ (0 ≤ f ∧ t ≤ 1024 ∧ CovP g f t)) := by
  unfold covB CovP
  simp only [Bool.or_eq_true, Bool.and_eq_true, decide_eq_true_eq, List.all_eq_true, List.mem_range]
  constructor
  · rintro (h | ⟨⟨h1, h2⟩, h3⟩)
    · exact Or.inl h
    · refine Or.inr ⟨h1, h2, fun d h4 h5 => ?_⟩
      rcases h3 d (by omega) with h | h
      · omega
      · exact h
  · rintro (h | ⟨h1, h2, h3⟩)
    · exact Or.inl h
    · refine Or.inr ⟨⟨h1, h2⟩, fun d h4 => ?_⟩
      by_cases h : (d : Int) < f
      · exact Or.inl h
      · exact Or.inr (h3 d (by omega) (by omega))
theorem covB_triv {g : Nat → Bool} {f t : Int} (h : t ≤ f) : covB g f t = true := covB_iff.2 (Or.inl h)
theorem covB_out {g : Nat → Bool} {f t : Int} (h : f < t) (h' : f < 0 ∨ 1024 < t) : covB g f t = false := by
  rw [Bool.eq_false_iff]; intro q; have := covB_iff.1 q; omega
theorem covB_yes {g : Nat → Bool} {f t : Int} (h0 : 0 ≤ f) (h1 : t ≤ 1024) (h : CovP g f t) : covB g f t = true := covB_iff.2 (Or.inr ⟨h0, h1, h⟩)
theorem covB_no {g : Nat → Bool} {f t n : Int} (hf : f ≤ n) (hn : n < t) (h0 : 0 ≤ n) (h : g n.toNat = false) : covB g f t = false := by
  rw [Bool.eq_false_iff]; intro q
  rcases covB_iff.1 q with q | ⟨_, _, q⟩
  · omega
  · have := q n.toNat (by omega) (by omega)
    rw [h] at this; cases this
theorem CovP.succ {g : Nat → Bool} {f n : Int} (h : CovP g f n) (h0 : 0 ≤ n) (hn : g n.toNat = true) : CovP g f (n + 1) := by
  intro d h1 h2
  by_cases e : (d : Int) = n
  · have : d = n.toNat := by omega
    rw [this]; exact hn
  · exact h d h1 (by omega)

set_option maxHeartbeats 400000 in
theorem covers_any (a : Option Addr) (cap : Nat) (L : SL) (f t : Int) (w : World) (hsp : Sp w a L) (hl : L.length ≤ 100000) :
    Calls Try.prog 25 #[.slice a L.length cap, .agg #[.int .i64 f, .int .i64 t]] w fun e w' => e = .returned (.bool (covB (dayF L) f t)) ∧ Below w.heap.size w w' := by
  by_cases h1 : t ≤ f
  · go_enter Try.func25, Try.ntmps25
    go_wp2
    go_ret
    exact ⟨ret_bool (covB_triv h1).symm, (Below.refl _ _).alloc (Nat.le_refl _) _⟩
  by_cases h2 : f < 0
  · have d2 : decide (f < 0) = true := by simpa using h2
    go_enter Try.func25, Try.ntmps25
    go_wp2
    go_ret
    exact ⟨ret_bool (covB_out (by omega) (by omega)).symm, (Below.refl _ _).alloc (Nat.le_refl _) _⟩
  have d2 : decide (f < 0) = false := by simpa using h2
  by_cases h3 : 1024 < t
  · go_enter Try.func25, Try.ntmps25
    go_wp2
    go_ret
    exact ⟨ret_bool (covB_out (by omega) (by omega)).symm, (Below.refl _ _).alloc (Nat.le_refl _) _⟩
  have hz := zero48
  have hsp1 : Sp (w.alloc (.cells #[.int .i64 f, .int .i64 t] 31)) a L := hsp.below ((Below.refl _ _).alloc (Nat.le_refl _) _)
  have Hsp := Lib.hid hsp1
  clear hsp hsp1
  go_enter Try.func25, Try.ntmps25
  go_wp2_with fail
  refine (mark_any a cap L _ Hsp.out hl).mono ?_
  rintro e w1 ⟨rfl, hb1⟩
  have hBox := (Blk.new w #[.int .i64 f, .int .i64 t] 31).below hb1 (by simp)
  have HBox := Lib.hid hBox
  have hs1 := hb1.size
  simp only [World.size_alloc] at hs1
  have hs2 : w.heap.size < w1.heap.size := by omega
  have hbw1 : Below w.heap.size w w1 := ((Below.refl _ _).alloc (Nat.le_refl _) _).trans (hb1.mono (by simp))
  have HB1 := Lib.hid hbw1
  clear hb1 hBox hbw1
  have x0 := HBox.out.cell 0
  have x1 := HBox.out.cell 1
  simp at x0 x1
  go_wp2_with (refine wpList_store_row rfl 48 _ _ rfl _ _ rfl rfl 48 _ (heap_alloc_new w1 _) (size48 _) (by rw [dz_size]; exact dz_size _) (dz_one _) ?_; rw [World.setRow_alloc_new])
  clear hz
  go_loopw [6] (fun m wi => ∃ n : Int, f ≤ n ∧ n ≤ t ∧ m = .int .i64 n ∧ Hid (CovP (dayF L) f n) ∧ wi = w1.alloc (.cells (dz (dayF L)) 48)) (fun m _ => (t - intOf m).toNat)
  case atStart => exact ⟨f, by omega, by omega, rfl, (fun d h h' => by omega), rfl⟩
  case round =>
    obtain ⟨n, hn1, hn2, rfl, Hc, rfl⟩ := hrel
    have B1 := (HBox.out.alloc (.cells (dz (dayF L)) 48))
    have y0 := B1.cell 0
    have y1 := B1.cell 1
    have hb : Below w.heap.size w (w1.alloc (.cells (dz (dayF L)) 48)) := HB1.out.alloc (by omega) _
    have HB := Lib.hid hb
    clear hb B1
    simp at y0 y1
    by_cases hlt : n < t
    · have c2 := (Blk.new w1 (dz (dayF L)) 48).cell n.toNat
      rw [dz_get _ _ (by omega)] at c2
      by_cases hg : dayF L n.toNat = true
      · rw [hg] at c2
        have Hg := Lib.hid hg
        clear hg
        go_wp2
        go_roundw
        case rel => exact ⟨n + 1, by omega, by omega, rfl, Hc.out.succ (by omega) Hg.out, (by first | trivial | rfl)⟩
        case measure => simp [intOf]; omega
      · have hg : dayF L n.toNat = false := by simpa using hg
        rw [hg] at c2
        have Hg := Lib.hid hg
        clear hg
        go_wp2
        go_ret
        exact ⟨ret_bool (covB_no hn1 hlt (by omega) Hg.out).symm, HB.out⟩
    · have hnt : n = t := by omega
      subst hnt
      go_wp2
      go_ret
      exact ⟨ret_bool (covB_yes (by omega) (by omega) Hc.out).symm, HB.out⟩
set_option maxHeartbeats 400000 in
theorem rcovers_any (a : Option Addr) (cap : Nat) (L : SL) (f t : Int) (w : World) (hsp : Sp w a L) (hl : L.length ≤ 100000) :
    Calls Try.prog 26 #[.slice a L.length cap, .agg #[.int .i64 f, .int .i64 t]] w fun e w' => e = .returned (.bool (covB (dayF L) f t)) ∧ Below w.heap.size w w' := by
  by_cases h1 : t ≤ f
  · go_enter Try.func26, Try.ntmps26
    go_wp2
    go_ret
    exact ⟨ret_bool (covB_triv h1).symm, (Below.refl _ _).alloc (Nat.le_refl _) _⟩
  by_cases h2 : f < 0
  · have d2 : decide (f < 0) = true := by simpa using h2
    go_enter Try.func26, Try.ntmps26
    go_wp2
    go_ret
    exact ⟨ret_bool (covB_out (by omega) (by omega)).symm, (Below.refl _ _).alloc (Nat.le_refl _) _⟩
  have d2 : decide (f < 0) = false := by simpa using h2
  by_cases h3 : 1024 < t
  · go_enter Try.func26, Try.ntmps26
    go_wp2
    go_ret
    exact ⟨ret_bool (covB_out (by omega) (by omega)).symm, (Below.refl _ _).alloc (Nat.le_refl _) _⟩
  have hsp1 : Sp (w.alloc (.cells #[.int .i64 f, .int .i64 t] 31)) a L := hsp.below ((Below.refl _ _).alloc (Nat.le_refl _) _)
  have Hsp := Lib.hid hsp1
  clear hsp hsp1
  go_enter Try.func26, Try.ntmps26
  go_wp2_with fail
  refine (days_any a cap L _ Hsp.out hl).mono ?_
  rintro e w1 ⟨⟨D, rfl, hD, hBD⟩, hb1⟩
  have HD := Lib.hid hBD
  have hBox := (Blk.new w #[.int .i64 f, .int .i64 t] 31).below hb1 (by simp)
  have HBox := Lib.hid hBox
  have hs1 := hb1.size
  simp only [World.size_alloc] at hs1 hD
  have hbw1 : Below w.heap.size w w1 := ((Below.refl _ _).alloc (Nat.le_refl _) _).trans (hb1.mono (by simp))
  have HB1 := Lib.hid hbw1
  clear hb1 hBox hbw1 hBD
  have x0 := HBox.out.cell 0
  have x1 := HBox.out.cell 1
  simp at x0 x1
  go_wp2
  go_loop [6] (fun m => ∃ n : Int, f ≤ n ∧ n ≤ t ∧ m = .int .i64 n ∧ Hid (CovP (dayF L) f n)) (fun m => (t - intOf m).toNat)
  case atStart => exact ⟨f, by omega, by omega, rfl, (fun d h h' => by omega)⟩
  case round =>
    obtain ⟨n, hn1, hn2, rfl, Hc⟩ := hrel
    by_cases hlt : n < t
    · have c2 := HD.out.cell n.toNat
      rw [dz_get _ _ (by omega)] at c2
      by_cases hg : dayF L n.toNat = true
      · rw [hg] at c2
        have Hg := Lib.hid hg
        clear hg
        go_wp2
        go_round
        case rel => exact ⟨n + 1, by omega, by omega, rfl, Hc.out.succ (by omega) Hg.out⟩
        case measure => simp [intOf]; omega
      · have hg : dayF L n.toNat = false := by simpa using hg
        rw [hg] at c2
        have Hg := Lib.hid hg
        clear hg
        go_wp2
        go_ret
        exact ⟨ret_bool (covB_no hn1 hlt (by omega) Hg.out).symm, HB1.out⟩
    · have hnt : n = t := by omega
      subst hnt
      go_wp2
      go_ret
      exact ⟨ret_bool (covB_yes (by omega) (by omega) Hc.out).symm, HB1.out⟩

end Go.Proofs.Ytinkifhbpbkhpaa
