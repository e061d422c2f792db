import Derived.Test.YtinkifhbpbkhpaaMark
import Derived.Test.YtinkifhbpbkhpaaScan
namespace Go.Proofs.Ytinkifhbpbkhpaa
open Go.RowKit

theorem info4 : (Try.prog.info? 4).map (fun i => (i.zero, i.size, i.bytes)) = some (some (.bool false), 1, 1) := by kernel_rfl
theorem made4 : madeCells #[.bool false] 1024 = zd := by
  apply Array.toList_inj.1
  rw [toList_madeCells_one]
  unfold zd dz
  rw [List.map_const']
  simp
theorem mk45 (w : World) : (Instr.makeSlice 45 (.int .i64 1024) (.int .i64 1024)).run Try.prog w = .ok (.slice (some ⟨w.heap.size, 0, none⟩) 1024 1024) (w.alloc (.cells zd 4)) := by
  obtain ⟨i0, hi, hz0, hz1, hz2⟩ := info_parts info4
  have := run_makeSlice (P := Try.prog) w 45 4 i0 (.bool false) Try.underlying45 hi hz0 .i64 .i64 1024 1024 (by omega) (by omega) (by rw [hz1]; decide) (by rw [hz2]; decide) (by omega)
  rw [this, hz1]
  rw [show (1024 : Int).toNat * 1 = 1024 from rfl, show Value.cells (.bool false) = #[.bool false] from rfl, made4]
  rfl

theorem mark_start4 {w : World} {b : Nat} {T : TypeId} {g : Nat → Bool} {f n : Int} (h : n = max f 0) (hb : Blk w b (dz g) T) : Hid (Blk w b (dz (fun d => g d || (decide (f ≤ (d : Int)) && decide ((d : Int) < n)))) T) := by
  have : dz g = dz (fun d => g d || (decide (f ≤ (d : Int)) && decide ((d : Int) < n))) := by
    refine dz_congr fun i hi => ?_
    have : (decide (f ≤ (i : Int)) && decide ((i : Int) < n)) = false := by
      rw [Bool.and_eq_false_iff]; simp; omega
    rw [this, Bool.or_false]
  rw [this] at hb
  exact hb
theorem mark_set4 {w : World} {b : Nat} {T : TypeId} {g : Nat → Bool} {f n : Int} (h0 : 0 ≤ n) (h1 : n < 1024) (hf : f ≤ n) (hb : Blk w b (dz (fun d => g d || (decide (f ≤ (d : Int)) && decide ((d : Int) < n)))) T) :
    Blk (w.setCell ⟨b, n.toNat, none⟩ (.bool true)) b (dz (fun d => g d || (decide (f ≤ (d : Int)) && decide ((d : Int) < n + 1)))) T := by
  have h := hb.set n.toNat (.bool true)
  rw [dz_set] at h
  have : dz (fun j => if j = n.toNat then true else (g j || (decide (f ≤ (j : Int)) && decide ((j : Int) < n)))) = dz (fun d => g d || (decide (f ≤ (d : Int)) && decide ((d : Int) < n + 1))) := by
    refine dz_congr fun i hi => ?_
    by_cases e : i = n.toNat
    · have h1 : decide (f ≤ (i : Int)) = true := by simp; omega
      have h2 : decide ((i : Int) < n + 1) = true := by simp; omega
      rw [if_pos e, h1, h2]; simp
    · have : decide ((i : Int) < n + 1) = decide ((i : Int) < n) := by
        rw [Bool.eq_iff_iff]; simp; omega
      simp [e, this]
  rw [this] at h
  exact h
theorem mark_end4 {w : World} {b k : Nat} {T : TypeId} {L : SL} {n : Int} (hk : k < L.length) (hf : L[k].1 ≤ n) (hn : n ≤ L[k].2 ∨ n ≤ L[k].1 ∨ n ≤ 0) (ht : L[k].2 ≤ n ∨ 1024 ≤ n) (hb : Blk w b (dz (fun d => dayF (L.take k) d || (decide (L[k].1 ≤ (d : Int)) && decide ((d : Int) < n)))) T) :
    Blk w b (dz (dayF (L.take (k + 1)))) T := by
  have : dz (fun d => dayF (L.take k) d || (decide (L[k].1 ≤ (d : Int)) && decide ((d : Int) < n))) = dz (dayF (L.take (k + 1))) := by
    refine dz_congr fun i hi => ?_
    simp only [dayF]
    rw [anyB_take hk]
    congr 1
    rw [Bool.eq_iff_iff]
    simp only [Bool.and_eq_true, decide_eq_true_eq]
    omega
  rw [this] at hb
  exact hb

/-- what Days gives back: a new slice of 1024 truth values -/
def DayS (B : Nat) (f : Nat → Bool) (e : Ending) (w' : World) : Prop := ∃ D, e = .returned (.slice (some ⟨D, 0, none⟩) 1024 1024) ∧ B ≤ D ∧ Blk w' D (dz f) 4

set_option maxHeartbeats 400000 in
theorem days_any (a : Option Addr) (cap : Nat) (L : SL) (w : World) (hsp : Sp w a L) (hl : L.length ≤ 100000) :
    Calls Try.prog 31 #[.slice a L.length cap] w fun e w' => DayS w.heap.size (dayF L) e w' ∧ Below w.heap.size w w' := by
  have hmk := mk45
  have Hsp := Lib.hid hsp
  clear hsp
  go_enter Try.func31, Try.ntmps31
  go_wp2
  go_loopw [4] (fun i wr => ∃ k : Nat, k ≤ L.length ∧ i = .int .i64 k ∧ Hid (Blk wr w.heap.size (dz (dayF (L.take k))) 4) ∧ Below w.heap.size w wr) (fun i _ => L.length - (intOf i).toNat)
  case atStart => exact ⟨0, Nat.zero_le _, rfl, Blk.new w _ _, (Below.refl _ _).alloc (Nat.le_refl _) _⟩
  case round =>
    obtain ⟨k, hk, rfl, hB, hbw⟩ := hrel
    clear hmk
    have hsz := hbw.size
    by_cases hlt : k < L.length
    · obtain ⟨b, off, rfl, hb, c0, c1⟩ := Hsp.out k hlt
      generalize hf : L[k].1 = f at *
      generalize ht : L[k].2 = t at *
      have Hf := Lib.hid hf
      have Ht := Lib.hid ht
      clear hf ht
      have C0 := Lib.hid c0
      have C1 := Lib.hid c1
      rw [← hbw.cell (p := ⟨b, _, none⟩) hb] at c0 c1
      obtain ⟨wo, rfl⟩ : ∃ wo : World, wo = wr := ⟨_, rfl⟩
      have hlo : w.heap.size < wo.heap.size := hB.out.lt
      go_wp2
      all_goals
        clear c0 c1
        go_loopw [5] (fun m wi => ∃ n : Int, 0 ≤ n ∧ f ≤ n ∧ (n ≤ t ∨ n ≤ f ∨ n ≤ 0) ∧ m = .int .i64 n ∧ Hid (Blk wi w.heap.size (dz (fun d => dayF (L.take k) d || (decide (f ≤ (d : Int)) && decide ((d : Int) < n)))) 4) ∧ Below w.heap.size w wi) (fun m _ => (1024 - intOf m).toNat)
        case atStart =>
          exact ⟨_, (by first | exact Int.le_refl _ | omega), (by omega), (by omega), rfl, mark_start4 (f := f) (by omega) hB.out, hbw⟩
        case round =>
          obtain ⟨n, hn0, hnf, hnt, rfl, hBi, hbi⟩ := hrel
          have c0 := C0.out
          have c1 := C1.out
          rw [← hbi.cell (p := ⟨b, _, none⟩) hb] at c0 c1
          by_cases hin : n < t ∧ n < 1024
          · obtain ⟨hin1, hin2⟩ := hin
            have c2 := hBi.out.cell n.toNat
            rw [dz_get _ _ (by omega)] at c2
            have c3 := hBi.out.frozen n.toNat
            go_wp2
            go_roundw
            case rel => exact ⟨n + 1, by omega, by omega, by omega, rfl, mark_set4 hn0 hin2 hnf hBi.out, hbi.setCell (Nat.le_refl _) _⟩
            case measure => simp [intOf]; omega
          · go_wp2
            go_roundw
            case rel => exact ⟨k + 1, by omega, by go_num, mark_end4 hlt (by rw [Hf.out]; exact hnf) (by rw [Hf.out, Ht.out]; exact hnt) (by rw [Ht.out]; by_cases h : 1024 < t <;> simp only [h, if_true, if_false] at * <;> omega) (by rw [Hf.out]; exact hBi.out), hbi⟩
            case measure => simp [intOf]; omega
    · have hkl : L.length ≤ k := by omega
      have e1 : dayF (L.take k) = dayF L := by rw [List.take_of_length_le hkl]
      rw [e1] at hB
      clear e1
      go_wp2
      go_ret
      exact ⟨⟨_, rfl, Nat.le_refl _, hB.out⟩, hbw⟩
end Go.Proofs.Ytinkifhbpbkhpaa
