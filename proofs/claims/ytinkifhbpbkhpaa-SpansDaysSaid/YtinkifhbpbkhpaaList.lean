import Derived.Test.YtinkifhbpbkhpaaSpans
import Derived.Deep.RegionHeld3
import Derived.Deep.AppendLies
namespace Go.Proofs.Ytinkifhbpbkhpaa
open Go.RowKit

/-- the pairs of a list of numbers -/
def pairsK (Z : List Int) (k : Nat) : SL := (List.range k).map fun j => (Z.getD (2 * j) 0, Z.getD (2 * j + 1) 0)
theorem pairsK_succ (Z : List Int) (k : Nat) : pairsK Z (k + 1) = pairsK Z k ++ [(Z.getD (2 * k) 0, Z.getD (2 * k + 1) 0)] := by simp [pairsK, List.range_succ]
theorem pairsK_len (Z : List Int) (k : Nat) : (pairsK Z k).length = k := by simp [pairsK]

set_option maxRecDepth 100000 in
set_option maxHeartbeats 2000000 in
theorem list_any (b cap : Nat) (Z : List Int) (w : World) (hb : b < w.heap.size) (hz : ∀ i (h : i < Z.length), w.cell? ⟨b, i, none⟩ = some (.int .i64 Z[i])) (hl : Z.length ≤ 100) :
    Calls Try.prog 27 #[.slice (some ⟨b, 0, none⟩) Z.length cap] w fun e w' => SpanR (pairsK Z (Z.length / 2)) e w' ∧ Below w.heap.size w w' := by
  obtain ⟨i0, hi, hz0, hz1, hz2⟩ := info_parts info31
  have Hz := Lib.hid hz
  clear hz
  go_enter Try.func27, Try.ntmps27
  go_wp2
  go_loopw [2, 3] (fun l i wr => ∃ k : Nat, 2 * k ≤ Z.length ∧ i = .int .i64 (2 * k : Nat) ∧ Hid (wr.ownsRow w.heap.size 31 2 l k (encS (pairsK Z k))) ∧ Below w.heap.size w wr) (fun _ i _ => Z.length - (intOf i).toNat)
  case atStart => exact ⟨0, by omega, rfl, World.ownsRow_nil _ _ _ _, Below.refl _ _⟩
  case round =>
    obtain ⟨k, hk, rfl, Ho, hbw⟩ := hrel
    have hsz := hbw.size
    by_cases hlt : 2 * k + 1 < Z.length
    · have c0 := Hz.out (2 * k) (by omega)
      have c1 := Hz.out (2 * k + 1) hlt
      rw [← hbw.cell (p := ⟨b, _, none⟩) hb] at c0 c1
      have e0 : Z[2 * k] = Z.getD (2 * k) 0 := by rw [List.getD, List.getElem?_eq_getElem (by omega)]; rfl
      have e1 : Z[2 * k + 1] = Z.getD (2 * k + 1) 0 := by rw [List.getD, List.getElem?_eq_getElem (by omega)]; rfl
      rw [e0] at c0
      rw [e1] at c1
      have P1 := Lib.hid (pairsK_succ Z k)
      generalize Z.getD (2 * k) 0 = z0 at *
      generalize Z.getD (2 * k + 1) 0 = z1 at *
      clear e0 e1
      have hlt' : ((2 * k : Nat) : Int) + 1 < (Z.length : Int) := by omega
      generalize hk2 : 2 * k = k2 at *
      have HK2 := Lib.hid hk2
      have q0 : (0 : Int) ≤ (k2 : Int) := Int.natCast_nonneg _
      have q1 : (k2 : Int) < (Z.length : Int) := by omega
      have q2 : (0 : Int) ≤ (k2 : Int) + 1 := by omega
      have hmax : k + 1 ≤ maxLen := by unfold maxLen; omega
      have hmax2 : (k + 1) * 16 ≤ 140737488355328 := by omega
      clear hk2
      have hbr : b < wr.heap.size := by omega
      have hne : u2.ownBlock ≠ some b := fun e => by
        have := (Ho.out.lt b e).1
        omega
      go_wp2_with fail
      have r1 : IntKind.i64.wrap ((k2 : Int) + 1) = (k2 : Int) + 1 := IntWalk.i64_in _ (by omega)
      have r2 : ((k2 : Int) + 1).toNat = k2 + 1 := by omega
      go_region_held3 (fun w' => w'.cell? ⟨b, k2, none⟩ = some (.int .i64 z0) ∧ w'.cell? ⟨b, k2 + 1, none⟩ = some (.int .i64 z1))
        (first
          | go_keep
          | (go_split_ands
             refine ⟨?_, ?_⟩
             · (rw [hgrow.cell_far _ (by simp; omega) (Ne.symm hne)]; assumption)
             · (rw [hgrow.cell_far _ (by simp; omega) (Ne.symm hne)]; assumption)))
        ((refine step_append_lies _ (by rfl) _ _ _ (by rfl) w.heap.size 31 i0 _ 2 16 Try.underlying22 hi hz0 hz1 hz2 rfl (by omega) u2 k _ (by rfl) ((Ho.out.alloc _).drew)
            ⟨wr.heap.size, 0, none⟩ 1 1 [.int .i64 z0, .int .i64 z1] (by rfl) (by rfl) (World.news_of_block (cs := #[.int .i64 z0, .int .i64 z1]) (t := 31) (fr := (0, 0)) (heap_alloc_new wr _)) (by simp [Value.oneCell'])
            (by omega) hmax hmax2 (by simp; omega) (wr.heap.size + 1) (by simp) ?_; intro gg cap1 w1 hown1 hgrow hat hlt9))
      clear r1 r2
      have hkm : k2 + 2 ≤ 100 + 2 := by omega
      have Hown := Lib.hid hown1
      have hbl : Below w.heap.size w w1 := ((hbw.alloc hsz _).drew).grown hgrow (by simp; omega) (fun j e => by
        rcases hat with h | h
        · exact (Ho.out.lt j e).1
        · exact (Ho.out.lt j e).1)
      clear hown1 hgrow hat
      go_wp2
      go_roundw
      case rel => exact ⟨k + 1, by have := HK2.out; omega, by rw [show ((2 * (k + 1) : Nat) : Int) = (k2 : Int) + 2 by have := HK2.out; omega], by rw [P1.out, encS_snoc]; exact Hown.out, hbl⟩
      case measure => simp [intOf]; omega
    · have hge : Z.length ≤ 2 * k + 1 := by omega
      go_wp2
      go_ret
      have e1 : Z.length / 2 = k := by omega
      rw [e1]
      have h1 := Ho.out
      rw [← pairsK_len Z k] at h1
      obtain ⟨a9, c9, rfl, s9⟩ := sp_of_row (L := pairsK Z k) (by simpa [pairsK_len] using h1)
      exact ⟨⟨a9, c9, rfl, s9⟩, hbw⟩
end Go.Proofs.Ytinkifhbpbkhpaa
