import Derived.Test.YtinkifhbpbkhpaaBase
namespace Go.Proofs.Ytinkifhbpbkhpaa
open Go.RowKit

theorem mark_start {w : World} {b : Nat} {g : Nat → Bool} {f n : Int} (h : n = max f 0) (hb : Blk w b (dz g) 48) : Hid (Blk w b (dz (fun d => g d || (decide (f ≤ (d : Int)) && decide ((d : Int) < n)))) 48) := by
  have : dz g = dz (fun d => g d || (decide (f ≤ (d : Int)) && decide ((d : Int) < n))) := by
    refine dz_congr fun i hi => ?_
    have : (decide (f ≤ (i : Int)) && decide ((i : Int) < n)) = false := by
      rw [Bool.and_eq_false_iff]; simp; omega
    rw [this, Bool.or_false]
  rw [this] at hb
  exact hb

theorem mark_set {w : World} {b : Nat} {g : Nat → Bool} {f n : Int} (h0 : 0 ≤ n) (h1 : n < 1024) (hf : f ≤ n) (hb : Blk w b (dz (fun d => g d || (decide (f ≤ (d : Int)) && decide ((d : Int) < n)))) 48) :
    Blk (w.setCell ⟨b, n.toNat, none⟩ (.bool true)) b (dz (fun d => g d || (decide (f ≤ (d : Int)) && decide ((d : Int) < n + 1)))) 48 := by
  have h := hb.set n.toNat (.bool true)
  rw [dz_set] at h
  have : dz (fun j => if j = n.toNat then true else (g j || (decide (f ≤ (j : Int)) && decide ((j : Int) < n)))) = dz (fun d => g d || (decide (f ≤ (d : Int)) && decide ((d : Int) < n + 1))) := by
    refine dz_congr fun i hi => ?_
    by_cases e : i = n.toNat
    · have h1 : decide (f ≤ (i : Int)) = true := by simp; omega
      have h2 : decide ((i : Int) < n + 1) = true := by simp; omega
      rw [if_pos e, h1, h2]; simp
    · have : decide ((i : Int) < n + 1) = decide ((i : Int) < n) := by
        rw [Bool.eq_iff_iff]; simp; omega
      simp [e, this]
  rw [this] at h
  exact h
theorem mark_end {w : World} {b k : Nat} {L : SL} {n : Int} (hk : k < L.length) (hf : L[k].1 ≤ n) (hn : n ≤ L[k].2 ∨ n ≤ L[k].1 ∨ n ≤ 0) (ht : L[k].2 ≤ n ∨ 1024 ≤ n) (hb : Blk w b (dz (fun d => dayF (L.take k) d || (decide (L[k].1 ≤ (d : Int)) && decide ((d : Int) < n)))) 48) :
    Blk w b (dz (dayF (L.take (k + 1)))) 48 := by
  have : dz (fun d => dayF (L.take k) d || (decide (L[k].1 ≤ (d : Int)) && decide ((d : Int) < n))) = dz (dayF (L.take (k + 1))) := by
    refine dz_congr fun i hi => ?_
    simp only [dayF]
    rw [anyB_take hk]
    congr 1
    rw [Bool.eq_iff_iff]
    simp only [Bool.and_eq_true, decide_eq_true_eq]
    omega
  rw [this] at hb
  exact hb

set_option maxHeartbeats 400000 in
theorem mark_any (a : Option Addr) (cap : Nat) (L : SL) (w : World) (hsp : Sp w a L) (hl : L.length ≤ 100000) :
    Calls Try.prog 35 #[.slice a L.length cap] w fun e w' => e = .returned (.agg (dz (dayF L))) ∧ Below w.heap.size w w' := by
  have hz := zero48
  have Hsp := Lib.hid hsp
  clear hsp
  go_enter Try.func35, Try.ntmps35
  go_wp2
  go_loopw [8] (fun i wr => ∃ k : Nat, k ≤ L.length ∧ i = .int .i64 k ∧ Hid (Blk wr w.heap.size (dz (dayF (L.take k))) 48) ∧ Below w.heap.size w wr) (fun i _ => L.length - (intOf i).toNat)
  case atStart => exact ⟨0, Nat.zero_le _, rfl, Blk.new w _ _, (Below.refl _ _).alloc (Nat.le_refl _) _⟩
  case round =>
    obtain ⟨k, hk, rfl, hB, hbw⟩ := hrel
    clear hz
    have hsz := hbw.size
    by_cases hlt : k < L.length
    · obtain ⟨b, off, rfl, hb, c0, c1⟩ := Hsp.out k hlt
      rw [← hbw.cell (p := ⟨b, _, none⟩) hb] at c0 c1
      generalize hf : L[k].1 = f at *
      generalize ht : L[k].2 = t at *
      have Hf := Lib.hid hf
      have Ht := Lib.hid ht
      clear hf ht
      obtain ⟨wo, rfl⟩ : ∃ wo : World, wo = wr := ⟨_, rfl⟩
      have hlo : w.heap.size < wo.heap.size := hB.out.lt
      go_wp2
      all_goals
        go_loopw [5] (fun m wi => ∃ n : Int, 0 ≤ n ∧ f ≤ n ∧ (n ≤ t ∨ n ≤ f ∨ n ≤ 0) ∧ m = .int .i64 n ∧ Hid (Blk wi w.heap.size (dz (fun d => dayF (L.take k) d || (decide (f ≤ (d : Int)) && decide ((d : Int) < n)))) 48) ∧ Hid (Blk wi wo.heap.size #[.int .i64 f, .int .i64 t] 31) ∧ Below w.heap.size w wi) (fun m _ => (1024 - intOf m).toNat)
        case atStart =>
          exact ⟨_, (by first | exact Int.le_refl _ | omega), (by omega), (by omega), rfl, mark_start (f := f) (by omega) (hB.out.alloc _), Blk.new _ _ _, hbw.alloc hsz _⟩
        case round =>
          obtain ⟨n, hn0, hnf, hnt, rfl, hBi, hSi, hbi⟩ := hrel
          have s0 := hSi.out.cell 0
          have s1 := hSi.out.cell 1
          simp at s0 s1
          by_cases hin : n < t ∧ n < 1024
          · obtain ⟨hin1, hin2⟩ := hin
            have c2 := hBi.out.cell n.toNat
            rw [dz_get _ _ (by omega)] at c2
            have c3 := hBi.out.frozen n.toNat
            go_wp2
            go_roundw
            case rel => exact ⟨n + 1, by omega, by omega, by omega, rfl, mark_set hn0 hin2 hnf hBi.out, hSi.out.keep (Nat.ne_of_gt hlo) _, hbi.setCell (Nat.le_refl _) _⟩
            case measure => simp [intOf]; omega
          · go_wp2
            go_roundw
            case rel => exact ⟨k + 1, by omega, by go_num, mark_end hlt (by rw [Hf.out]; exact hnf) (by rw [Hf.out, Ht.out]; exact hnt) (by rw [Ht.out]; by_cases h : 1024 < t <;> simp only [h, if_true, if_false] at * <;> omega) (by rw [Hf.out]; exact hBi.out), hbi⟩
            case measure => simp [intOf]; omega
    · have hkl : L.length ≤ k := by omega
      have e1 : dayF (L.take k) = dayF L := by rw [List.take_of_length_le hkl]
      rw [e1] at hB
      go_wp2_with (first | (refine wpList_load_row rfl 48 _ rfl _ rfl 48 _ (0,0) _ hB.out Try.underlying48 rfl (size48 _) ?_) | (refine wpList_store_row rfl 48 _ _ rfl _ _ rfl rfl 48 _ hB.out (size48 _) rfl (dz_one _) ?_; rw [setRow_self _ _ _ _ _ hB.out]))
      exact bodyPost_ret (results_cell_row rfl _ _ _ 48 _ (0, 0) _ rfl hB.out Try.underlying48 rfl (size48 _)) rfl ⟨rfl, hbw⟩
end Go.Proofs.Ytinkifhbpbkhpaa
