import Derived.Test.YtinkifhbpbkhpaaOwn
namespace Go.Proofs.Ytinkifhbpbkhpaa
open Go.RowKit

/-- a slice of spans is given back -/
def SpanR (L : SL) (e : Ending) (w' : World) : Prop := ∃ a cap, e = .returned (.slice a L.length cap) ∧ Sp w' a L

theorem own_ext {w : World} {B g cap : Nat} {M : SL} {s : Int × Int} {f : Nat → Bool} {k : Nat} (hf : f k = true) (hL : runsTo f k = M ++ [s]) (he : s.2 = (k : Int)) (h : OwnS w B (.slice (some ⟨g, 0, none⟩) (M.length + 1) cap) (M ++ [s])) :
    OwnS (w.setCell ⟨g, M.length * 2 + 1, none⟩ (.int .i64 ((k : Int) + 1))) B (.slice (some ⟨g, 0, none⟩) (M.length + 1) cap) (runsTo f (k + 1)) := by
  have : runsTo f (k + 1) = M ++ [(s.1, (k : Int) + 1)] := by simp only [runsTo]; rw [if_pos hf, hL, addD_snoc, if_pos he]
  rw [this]; exact h.setEnd _
theorem own_app {w : World} {B : Nat} {v : Value} {M : SL} {s : Int × Int} {f : Nat → Bool} {k : Nat} (hf : f k = true) (hL : runsTo f k = M ++ [s]) (he : ¬ s.2 = (k : Int))
    (h : w.ownsRow B 31 2 v ((M ++ [s]).length + 1) (encS (M ++ [s]) ++ [.int .i64 k, .int .i64 (k + 1)])) (hv : v ≠ .slice none 0 0) : OwnS w B v (runsTo f (k + 1)) := by
  have : runsTo f (k + 1) = (M ++ [s]) ++ [((k : Int), (k : Int) + 1)] := by simp only [runsTo]; rw [if_pos hf, hL, addD_snoc, if_neg he]
  rw [this]; exact ⟨by rw [encS_snoc (M ++ [s])]; simpa using h, hv⟩
theorem own_first {w : World} {B : Nat} {v : Value} {f : Nat → Bool} {k : Nat} (hf : f k = true) (hL : runsTo f k = [])
    (h : w.ownsRow B 31 2 v (([] : SL).length + 1) (encS [] ++ [.int .i64 k, .int .i64 (k + 1)])) (hv : v ≠ .slice none 0 0) : OwnS w B v (runsTo f (k + 1)) := by
  have : runsTo f (k + 1) = [((k : Int), (k : Int) + 1)] := by simp only [runsTo]; rw [if_pos hf, hL, addD_nil]
  rw [this]; exact ⟨by simpa [encS] using h, hv⟩

set_option maxRecDepth 100000 in
set_option maxHeartbeats 400000 in
theorem spans_any (D c : Nat) (f : Nat → Bool) (w : World) (hD : Blk w D (dz f) 4) :
    Calls Try.prog 30 #[.slice (some ⟨D, 0, none⟩) 1024 c] w fun e w' => SpanR (runsL f) e w' ∧ Below w.heap.size w w' := by
  obtain ⟨i0, hi, hz0, hz1, hz2⟩ := info_parts info31
  have hDl := hD.lt
  have HD := Lib.hid hD
  clear hD
  go_enter Try.func30, Try.ntmps30
  go_wp2
  go_loopw [3, 4, 5] (fun out m _n wr => ∃ k : Nat, k ≤ 1024 ∧ m = .int .i64 k ∧ Hid (OwnS wr w.heap.size out (runsTo f k)) ∧ Below w.heap.size w wr) (fun _ m _ _ => 1024 - (intOf m).toNat)
  case atStart => exact ⟨0, by omega, rfl, ⟨World.ownsRow_lit w #[] 0 (Nat.le_refl _) (by decide) rfl, fun e => by cases e⟩, (Below.refl _ _).alloc (Nat.le_refl _) _⟩
  case round =>
    obtain ⟨k, hk, rfl, Ho, hbw⟩ := hrel
    have hsz := hbw.size
    by_cases hlt : k < 1024
    · have c0 := HD.out.cell k
      rw [dz_get _ _ hlt, ← hbw.cell (p := ⟨D, _, none⟩) hDl] at c0
      by_cases hf : f k = true
      · rw [hf] at c0
        have Hf := Lib.hid hf
        clear hf
        have hlen := runsTo_len f k
        rcases cases_snoc (runsTo f k) with hL | ⟨M, s, hL⟩
        · rw [hL] at Ho
          obtain ⟨g, cap, cur, hv, hg, hh, hn, hs, hc⟩ := Ho.out.form
          subst hv
          have HL := Lib.hid hL
          clear hc hh hL
          have hmax : 0 + 1 ≤ maxLen := by unfold maxLen; omega
          go_wp2_with (at_builtin; refine wpList_append_own _ rfl _ _ 22 rfl w.heap.size 31 i0 (.agg #[.int .i64 0, .int .i64 0]) 2 16 Try.underlying22 hi hz0 hz1 hz2 rfl (by decide) _ _ _ rfl (Ho.out.row.alloc _) ⟨wr.heap.size, 0, none⟩ 1 1 [.int .i64 k, .int .i64 (k + 1)] rfl rfl (cell_two_new _ _ _ _) (by simp [Value.oneCell']) (by simpa using hmax) (by simp) (by simp; omega) ?_; intro v' w1 hown' hgrow hnil)
          go_roundw
          case rel => exact ⟨k + 1, by omega, by go_num, own_first Hf.out HL.out hown' (fun e => by have := (hnil.1 e).1; cases this), (hbw.alloc hsz _).grown hgrow (by simp; omega) (fun j e => by cases e; exact hg)⟩
          case measure => simp [intOf]; omega
        · rw [hL] at Ho hlen
          simp only [List.length_append, List.length_singleton] at hlen
          obtain ⟨g, cap, cur, hv, hg, hh, hn, hs, hc⟩ := Ho.out.form
          simp only [List.length_append, List.length_singleton] at hv
          subst hv
          obtain ⟨_, c1⟩ := hc M.length (by simp)
          rw [← hh.cell] at c1
          simp only [List.getElem_append_right (Nat.le_refl _), Nat.sub_self, List.getElem_cons_zero] at c1
          have fz := hh.frozen (M.length * 2 + 1)
          have Hh := Lib.hid hh
          have HL := Lib.hid hL
          clear hc hh hL
          by_cases he : s.2 = (k : Int)
          · rw [he] at c1
            have He := Lib.hid he
            clear he
            go_wp2
            go_roundw
            case rel => exact ⟨k + 1, by omega, by go_num, own_ext Hf.out HL.out He.out Ho.out, hbw.setCell hg _⟩
            case measure => simp [intOf]; omega
          · have hq : (s.2 == (k : Int)) = false := by simpa using he
            have He := Lib.hid he
            clear he
            have hmax : M.length + 1 + 1 ≤ maxLen := by unfold maxLen; omega
            go_wp2_with (at_builtin; refine wpList_append_own _ rfl _ _ 22 rfl w.heap.size 31 i0 (.agg #[.int .i64 0, .int .i64 0]) 2 16 Try.underlying22 hi hz0 hz1 hz2 rfl (by decide) _ _ _ rfl (Ho.out.row.alloc _) ⟨wr.heap.size, 0, none⟩ 1 1 [.int .i64 k, .int .i64 (k + 1)] rfl rfl (cell_two_new _ _ _ _) (by simp [Value.oneCell']) (by simpa using hmax) (by simp; omega) (by simp; omega) ?_; intro v' w1 hown' hgrow hnil)
            go_roundw
            case rel => exact ⟨k + 1, by omega, by go_num, own_app Hf.out HL.out He.out hown' (fun e => by have := (hnil.1 e).1; cases this), (hbw.alloc hsz _).grown hgrow (by simp; omega) (fun j e => by cases e; exact hg)⟩
            case measure => simp [intOf]; omega
      · have hf' : f k = false := by simpa using hf
        rw [hf'] at c0
        have Hf := Lib.hid hf'
        clear hf hf'
        go_wp2
        go_roundw
        case rel => exact ⟨k + 1, by omega, by go_num, by rw [runsTo_off Hf.out]; exact Ho, hbw⟩
        case measure => simp [intOf]; omega
    · obtain rfl : k = 1024 := by omega
      obtain ⟨a, cap, hv, hsp⟩ := sp_of_row Ho.out.row
      subst hv
      have Hsp := Lib.hid hsp
      clear hsp
      go_wp2
      go_ret
      exact ⟨⟨a, cap, rfl, Hsp.out⟩, hbw⟩
end Go.Proofs.Ytinkifhbpbkhpaa
