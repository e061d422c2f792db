import Derived.Test.YtinkifhbpbkhpaaSpans
import Derived.RangeFuncNested
import Derived.RangeFuncLeaves
import Derived.RangeFuncBound
import Derived.Shelf.Abstract
import Derived.OwnWalkIn
import Derived.TacticsInMore
import Derived.LoopNIn
import Derived.LoopIn
import Derived.BigGuardIn
namespace Go.Proofs.Ytinkifhbpbkhpaa
open Go.RowKit Go.Shelf
attribute [local go_sem] Oper.semAt_some

/-- what a round must keep: the iterator's two blocks -/
def KpB (Bp Bn : Nat) (W W' : World) : Prop := W'.heap[Bp]? = W.heap[Bp]? ∧ W'.heap[Bn]? = W.heap[Bn]?
theorem KpB.refl (Bp Bn : Nat) (W : World) : KpB Bp Bn W W := ⟨rfl, rfl⟩
theorem KpB.trans {Bp Bn : Nat} {A B C : World} (h : KpB Bp Bn A B) (k : KpB Bp Bn B C) : KpB Bp Bn A C := ⟨k.1.trans h.1, k.2.trans h.2⟩
theorem KpB.put {Bp Bn : Nat} {w : World} (h1 : Bp < w.heap.size) (h2 : Bn < w.heap.size) (W : World) (l : Nat) (o o' : Obj) (hl : w.heap.size ≤ l) (_ : W.heap[l]? = some o) (_ : o.isCells = false) (_ : o.isWalk = false) : KpB Bp Bn W (W.putObj l o') :=
  ⟨World.putObj_heap_other (by omega), World.putObj_heap_other (by omega)⟩

def encs2 (s : Int × Int) : Array Value := #[.agg #[.int .i64 s.1, .int .i64 s.2]]
/-- the days of the calendar alone -/
def cal (f : Nat → Bool) : Nat → Bool := fun d => decide (d < 1024) && f d

set_option maxRecDepth 100000 in
set_option maxHeartbeats 1000000 in
theorem runs1_in (F : Fence) (n : Nat) (h37 : F.fn 37) (hro : F.round = none) (hn : 1 ≤ n) (l Bn Bp : Nat) (f : Nat → Bool) (J Jx : List (Int × Int) → World → Prop) (W : World) (hJa : AbidesFrom W.heap.size J)
    (hY : ∀ pre x W1, J pre W1 → pre.length < 1024 → YieldAt F (n - 1) Try.prog l (encs2 x) W1 fun e W' =>
      (e = .returned (.bool true) ∧ J (pre ++ [x]) W' ∧ KpB Bp Bn W1 W') ∨ (e = .returned (.bool false) ∧ Jx (pre ++ [x]) W'))
    (hBn : Blk W Bn #[.pointer (some ⟨Bp, 0, none⟩)] 53) (hBp : Blk W Bp (dz f) 48) (h0 : J [] W) :
    CallsIn F n Try.prog 37 #[.func (.yield l) #[] #[], .pointer (some ⟨Bn, 0, none⟩)] W fun e W' => (∃ v, e = .returned v) ∧
      ((∃ ys, ys = runsL (cal f) ∧ J ys W') ∨ (∃ pre, True ∧ Jx pre W')) := by
  refine callsIn_of_wp Try.func37 rfl h37 ?_ hro
  simp only [Try.ntmps37, List.size_toArray, List.length_cons, List.length_nil, Nat.reduceAdd, Nat.reduceSub, Array.replicate_succ, Array.replicate_zero, List.push_toArray, List.append_toArray, List.nil_append, List.cons_append]
  gi_wp2
  gi_loopw [3] (fun m wr => ∃ k : Nat, k ≤ 1025 ∧ m = .int .i64 k ∧ Hid (∀ s ∈ runsTo (cal f) k, s.2 < (k : Int)) ∧ Hid (J (runsTo (cal f) k) wr) ∧ Hid (Blk wr Bn #[.pointer (some ⟨Bp, 0, none⟩)] 53) ∧ Hid (Blk wr Bp (dz f) 48)) (fun m _ => 1025 - (intOf m).toNat)
  case atStart => exact ⟨0, by omega, rfl, (fun s hs => by simp [runsTo] at hs), h0, hBn, hBp⟩
  case round =>
    obtain ⟨k, hk, rfl, Hl, HJ, Hn, Hp⟩ := hrel
    by_cases hlt : k < 1024
    · have hlt' : (k : Int) < 1024 := by omega
      have c0 := Hn.out.cell 0
      have c1 := Hp.out.cell k
      rw [dz_get _ _ hlt] at c1
      simp at c0
      by_cases hf : f k = true
      · rw [hf] at c1
        have Hf := Lib.hid hf
        clear hf
        obtain ⟨wo, rfl⟩ : ∃ wo : World, wo = wr := ⟨_, rfl⟩
        have D0 := Hn.out.alloc (.cells #[.int .i64 k, .int .i64 0] 31)
        have DP := Hp.out.alloc (.cells #[.int .i64 k, .int .i64 0] 31)
        have s0 := Blk.new wo #[.int .i64 k, .int .i64 0] 31
        have D0 := Lib.hid D0
        have DP := Lib.hid DP
        have s0 := Lib.hid s0
        gi_wp2
        clear c0 c1
        generalize hW1 : wo.alloc (.cells #[.int .i64 k, .int .i64 0] 31) = W1 at *
        have HW1 := Lib.hid hW1
        clear hW1
        have d0 := D0.out.cell 0
        simp at d0
        have s1 := s0.out.cell 1
        have s2 := s0.out.frozen 1
        have s3 := s0.out.cell 0
        simp at s1 s3
        gi_loop [3] (fun m => ∃ j : Nat, k ≤ j ∧ j ≤ 1024 ∧ m = .int .i64 j ∧ Hid (∀ i, k ≤ i → i < j → f i = true)) (fun m => 1024 - (intOf m).toNat)
        case atStart => exact ⟨k, by omega, by omega, rfl, fun i h1 h2 => by omega⟩
        case round =>
          obtain ⟨j, hj1, hj2, rfl, Hj⟩ := hrel
          by_cases hjl : j < 1024
          · have hjl' : (j : Int) < 1024 := by omega
            have c1 := DP.out.cell j
            rw [dz_get _ _ hjl] at c1
            by_cases hf : f j = true
            · rw [hf] at c1
              have Hfj := Lib.hid hf
              clear hf
              gi_wp2
              go_round
              case rel => exact ⟨j + 1, by omega, by omega, by go_num, fun i h1 h2 => by
                by_cases e : i = j
                · subst e; exact Hfj.out
                · exact Hj.out i h1 (by omega)⟩
              case measure => simp [intOf]; omega
            · have hf' : f j = false := by simpa using hf
              rw [hf'] at c1
              have Hfj := Lib.hid hf'
              have hkj : k < j := by
                rcases Nat.lt_or_ge k j with h | h
                · exact h
                · obtain rfl : j = k := by omega
                  rw [Hf.out] at hf'; cases hf'
              clear hf hf'
              have hJ4 : J (runsTo (cal f) k) (W1.setCell ⟨wo.heap.size, 1, none⟩ (.int .i64 j)) := by
                rw [← HW1.out, World.setCell_alloc_new]
                exact hJa _ _ _ none HJ.out (World.grownBy_alloc _ _ none) (fun r e => by cases e)
              obtain ⟨fn, tmps, assign, body, hy, hR⟩ := hY (runsTo (cal f) k) ((k : Int), (j : Int)) _ hJ4 (by have := runsTo_len (cal f) k; omega)
              dsimp only [encs2] at hy
              clear hJ4
              gi_wp2
              refine hR.mono ?_
              clear hR hy
              rintro e W3 (⟨rfl, hJ3, hk3⟩ | ⟨rfl, hJx3⟩)
              · have e1 : runsTo (cal f) (j + 1) = runsTo (cal f) k ++ [((k : Int), (j : Int))] := by
                  rw [runsTo_off (by simp [cal, Hfj.out])]
                  exact runsTo_run Hl.out hkj (fun i h1 h2 => by simp only [cal]; rw [Hj.out i h1 h2]; simp; omega)
                have n3 : Blk W3 Bn #[.pointer (some ⟨Bp, 0, none⟩)] 53 := by
                  refine hk3.2.trans ?_
                  rw [← HW1.out, World.setCell_alloc_new]
                  exact Hn.out.alloc _
                have p3 : Blk W3 Bp (dz f) 48 := by
                  refine hk3.1.trans ?_
                  rw [← HW1.out, World.setCell_alloc_new]
                  exact Hp.out.alloc _
                have E1 := Lib.hid e1
                have N3 := Lib.hid n3
                have P3 := Lib.hid p3
                have J3 := Lib.hid hJ3
                clear e1 n3 p3 hJ3 hk3
                gi_wp2
                go_roundw
                case rel => exact ⟨j + 1, by omega, by go_num, (fun s hs => by
                    rw [E1.out] at hs
                    simp only [List.mem_append, List.mem_singleton] at hs
                    rcases hs with hs | rfl
                    · have := Hl.out s hs; omega
                    · show (j : Int) < ((j + 1 : Nat) : Int); omega), (by rw [E1.out]; exact J3), N3, P3⟩
                case measure => simp [intOf]; omega
              · gi_wp2
                refine bodyPost_ret (results_none rfl _ _ _) rfl ?_
                exact ⟨⟨_, rfl⟩, .inr ⟨_, trivial, hJx3⟩⟩
          · have hjl' : ¬ (j : Int) < 1024 := by omega
            have hjq : decide ((j : Int) < 1024) = false := by simpa using hjl'
            have Hfo := Lib.hid (show cal f j = false by simp [cal, hjl])
            have hkj : k < j := by omega
            clear hjl
            have hJ4 : J (runsTo (cal f) k) (W1.setCell ⟨wo.heap.size, 1, none⟩ (.int .i64 j)) := by
              rw [← HW1.out, World.setCell_alloc_new]
              exact hJa _ _ _ none HJ.out (World.grownBy_alloc _ _ none) (fun r e => by cases e)
            obtain ⟨fn, tmps, assign, body, hy, hR⟩ := hY (runsTo (cal f) k) ((k : Int), (j : Int)) _ hJ4 (by have := runsTo_len (cal f) k; omega)
            dsimp only [encs2] at hy
            clear hJ4
            gi_wp2
            refine hR.mono ?_
            clear hR hy
            rintro e W3 (⟨rfl, hJ3, hk3⟩ | ⟨rfl, hJx3⟩)
            · have e1 : runsTo (cal f) (j + 1) = runsTo (cal f) k ++ [((k : Int), (j : Int))] := by
                rw [runsTo_off (by exact Hfo.out)]
                exact runsTo_run Hl.out hkj (fun i h1 h2 => by simp only [cal]; rw [Hj.out i h1 h2]; simp; omega)
              have n3 : Blk W3 Bn #[.pointer (some ⟨Bp, 0, none⟩)] 53 := by
                refine hk3.2.trans ?_
                rw [← HW1.out, World.setCell_alloc_new]
                exact Hn.out.alloc _
              have p3 : Blk W3 Bp (dz f) 48 := by
                refine hk3.1.trans ?_
                rw [← HW1.out, World.setCell_alloc_new]
                exact Hp.out.alloc _
              have E1 := Lib.hid e1
              have N3 := Lib.hid n3
              have P3 := Lib.hid p3
              have J3 := Lib.hid hJ3
              clear e1 n3 p3 hJ3 hk3
              gi_wp2
              go_roundw
              case rel => exact ⟨j + 1, by omega, by go_num, (fun s hs => by
                  rw [E1.out] at hs
                  simp only [List.mem_append, List.mem_singleton] at hs
                  rcases hs with hs | rfl
                  · have := Hl.out s hs; omega
                  · show (j : Int) < ((j + 1 : Nat) : Int); omega), (by rw [E1.out]; exact J3), N3, P3⟩
              case measure => simp [intOf]; omega
            · gi_wp2
              refine bodyPost_ret (results_none rfl _ _ _) rfl ?_
              exact ⟨⟨_, rfl⟩, .inr ⟨_, trivial, hJx3⟩⟩
      · have hf' : f k = false := by simpa using hf
        rw [hf'] at c1
        have Hf := Lib.hid hf'
        clear hf hf'
        gi_wp2
        go_roundw
        case rel => exact ⟨k + 1, by omega, by go_num, (fun s hs => by rw [runsTo_off (by simp [cal, Hf.out])] at hs; have := Hl.out s hs; omega), (by rw [runsTo_off (by simp [cal, Hf.out])]; exact HJ), Hn, Hp⟩
        case measure => simp [intOf]; omega
    · gi_wp2
      go_end0
      exact ⟨⟨_, rfl⟩, .inl ⟨_, rfl, by
        have : runsTo (cal f) k = runsL (cal f) := by
          rcases (show k = 1024 ∨ k = 1025 by omega) with rfl | rfl
          · rfl
          · exact runsTo_off (by simp [cal])
        rw [← this]; exact HJ.out⟩⟩
end Go.Proofs.Ytinkifhbpbkhpaa
