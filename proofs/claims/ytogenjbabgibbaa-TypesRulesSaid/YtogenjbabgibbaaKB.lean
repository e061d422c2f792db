import Derived.Test.YtogenjbabgibbaaKA
import Derived.Test.YtogenjbabgibbaaMapMem
import Derived.BigQuiet
import Derived.Deep.QuietTactic
namespace Go.Proofs.Ytogenjbabgibbaa
open Go.RowKit

theorem keyS : Maps.Keyed Try.prog 9 := Maps.string_keyed Try.underlying9
theorem keyI : Maps.Keyed Try.prog 3 := Maps.int_keyed Try.underlying3
theorem zero4 (w : World) : (zeroValue 4).run Try.prog w = .ok (.bool false) w := by kernel_rfl
/-- the strings seen -/
def seenS (L : List ByteArray) (k : Nat) (l : Lit) : Option Lit := if (L.take k).any (fun s => l.sameKey (.string s.data.toList)) then some (.bool true) else none
theorem seenS_at {L : List ByteArray} {k : Nat} (s : ByteArray) : seenS L k (.string s.data.toList) = if s ∈ L.take k then some (.bool true) else none := by
  unfold seenS
  have hiff : (L.take k).any (fun x => (Lit.string s.data.toList).sameKey (.string x.data.toList)) = true ↔ s ∈ L.take k := by
   simp only [List.any_eq_true, Lit.sameKey]
   constructor
   · rintro ⟨x, hx, he⟩
     have : s = x := by
       obtain ⟨⟨s⟩⟩ := s
       obtain ⟨⟨x⟩⟩ := x
       simpa using he
     exact this ▸ hx
   · intro h
     exact ⟨s, h, by simp⟩
  by_cases h : s ∈ L.take k
  · rw [if_pos h, if_pos (hiff.2 h)]
  · rw [if_neg h, if_neg (fun h2 => h (hiff.1 h2))]
theorem seenS_succ {L : List ByteArray} {k : Nat} (hk : k < L.length) (l : Lit) : (if l.sameKey (.string L[k].data.toList) then some (.bool true) else seenS L k l) = seenS L (k + 1) l := by
  unfold seenS
  rw [take_succ' hk, List.any_append]
  simp only [List.any_cons, List.any_nil, Bool.or_false]
  cases l.sameKey (.string L[k].data.toList) <;> simp

set_option maxRecDepth 20000 in
set_option maxHeartbeats 2000000 in
theorem diffS_any (a : Option Addr) (cap : Nat) (L : List ByteArray) (w : World) (hs : Sl 1 RStr w a L) (hl : L.length ≤ 100000) :
    Calls Try.prog 83 #[.slice a L.length cap] w fun e w' => e = .returned (.bool (decide L.Nodup)) ∧ Below w.heap.size w w' := by
  have Hs := Lib.hid hs
  clear hs
  have hmm := @run_makeMap_hint Try.prog 129 9 4 Try.underlying129 .i64 L.length
  go_enter Try.func83, Try.ntmps83
  go_wp2
  go_loopw [11] (fun i wr => ∃ k : Nat, k ≤ L.length ∧ i = .int .i64 k ∧ GM Try.prog 9 4 wr w.heap.size k (seenS L k) ∧ Hid ((L.take k).Nodup) ∧ Below w.heap.size w wr) (fun i _ => L.length - (intOf i).toNat)
  case atStart => exact ⟨0, Nat.zero_le _, rfl, (GM.made ..).ext (fun l => by simp [seenS]), Lib.hid (by simp), (Below.refl _ _).alloc (Nat.le_refl _) _⟩
  case round =>
    obtain ⟨k, hk, rfl, hm, Hn, hbw⟩ := hrel
    have hsz := hbw.size
    by_cases hlt : k < L.length
    · obtain ⟨b, off, rfl, hb, hsl, c0⟩ := str_out Hs.out k hlt
      rw [← hbw.cell (p := ⟨b, _, none⟩) hb] at c0
      have hat := seenS_at (L := L) (k := k) L[k]
      have hsc := seenS_succ hlt
      generalize hf : L[k] = f at *
      have Hf := Lib.hid hf
      have Hsc := Lib.hid hsc
      have hkey := Lib.hid (WideMaps.keyOf_string_mk Try.underlying9 hsl)
      clear hsl
      by_cases hin : f ∈ L.take k
      · rw [if_pos hin] at hat
        have Hat := Lib.hid hat
        have Hin := Lib.hid hin
        clear hf hsc hat hin hmm
        go_wp2_with (first | (at_lookup; refine wpList_lookup_gm_bool _ rfl _ _ 129 rfl 9 4 keyS Try.underlying129 Try.underlying4 (zero4 _) _ k _ rfl hm _ _ rfl hkey.out true (by rw [Hat.out]) ?_) | go_in)
        go_ret
        exact ⟨ret_bool (by rw [← Hf.out] at Hin; simp [not_nodup_take hlt Hin.out]), hbw⟩
      · rw [if_neg hin] at hat
        have Hat := Lib.hid hat
        have Hin := Lib.hid hin
        clear hf hsc hat hin hmm
        go_wp2_with (first | (at_lookup; refine wpList_lookup_gm_bool _ rfl _ _ 129 rfl 9 4 keyS Try.underlying129 Try.underlying4 (zero4 _) _ k _ rfl hm _ _ rfl hkey.out false (by rw [Hat.out]) ?_) | (at_mapUpdate; refine wpList_mapUpdate_gm _ rfl _ _ _ 129 rfl 9 4 keyS Try.underlying129 _ k _ rfl hm (by unfold maxLen; omega) _ _ _ rfl rfl hkey.out trivial (.bool true) [] (plainElem_bool Try.underlying4 true) ?_; intro w1 hm1 hg1) | go_in)
        go_roundw
        case rel => exact ⟨k + 1, by omega, by go_num, hm1.ext Hsc.out, Lib.hid (take_nodup_succ hlt Hn.out (by rw [Hf.out]; exact Hin.out)), hbw.grown hg1 hsz (fun j hj => by cases hj; exact Nat.le_refl _)⟩
        case measure => simp [intOf]; omega
    · have hq : k = L.length := by omega
      subst hq
      go_wp2
      go_ret
      exact ⟨ret_bool (by have := Hn.out; simpa using this), hbw⟩
/-- the numbers seen -/
def seenI (L : List Int) (k : Nat) (l : Lit) : Option Lit := if (L.take k).any (fun s => l.sameKey (.int .i64 s)) then some (.bool true) else none
theorem seenI_at {L : List Int} {k : Nat} (s : Int) : seenI L k (.int .i64 s) = if s ∈ L.take k then some (.bool true) else none := by
  unfold seenI
  have hiff : (L.take k).any (fun x => (Lit.int .i64 s).sameKey (.int .i64 x)) = true ↔ s ∈ L.take k := by simp [Lit.sameKey]
  by_cases h : s ∈ L.take k
  · rw [if_pos h, if_pos (hiff.2 h)]
  · rw [if_neg h, if_neg (fun h2 => h (hiff.1 h2))]
theorem seenI_succ {L : List Int} {k : Nat} (hk : k < L.length) (l : Lit) : (if l.sameKey (.int .i64 L[k]) then some (.bool true) else seenI L k l) = seenI L (k + 1) l := by
  unfold seenI
  rw [take_succ' hk, List.any_append]
  simp only [List.any_cons, List.any_nil, Bool.or_false]
  cases l.sameKey (.int .i64 L[k]) <;> simp
set_option maxRecDepth 20000 in
set_option maxHeartbeats 2000000 in
theorem diffI_any (a : Option Addr) (cap : Nat) (L : List Int) (w : World) (hs : Sl 1 RInt w a L) (hl : L.length ≤ 100000) :
    Calls Try.prog 56 #[.slice a L.length cap] w fun e w' => e = .returned (.bool (decide L.Nodup)) ∧ Below w.heap.size w w' := by
  have Hs := Lib.hid hs
  clear hs
  have hmm := @run_makeMap_hint Try.prog 59 3 4 Try.underlying59 .i64 L.length
  go_enter Try.func56, Try.ntmps56
  go_wp2
  go_loopw [11] (fun i wr => ∃ k : Nat, k ≤ L.length ∧ i = .int .i64 k ∧ GM Try.prog 3 4 wr w.heap.size k (seenI L k) ∧ Hid ((L.take k).Nodup) ∧ Below w.heap.size w wr) (fun i _ => L.length - (intOf i).toNat)
  case atStart => exact ⟨0, Nat.zero_le _, rfl, (GM.made ..).ext (fun l => by simp [seenI]), Lib.hid (by simp), (Below.refl _ _).alloc (Nat.le_refl _) _⟩
  case round =>
    obtain ⟨k, hk, rfl, hm, Hn, hbw⟩ := hrel
    have hsz := hbw.size
    by_cases hlt : k < L.length
    · obtain ⟨b, off, rfl, hb, hsl, c0⟩ := int_out Hs.out k hlt
      rw [← hbw.cell (p := ⟨b, _, none⟩) hb] at c0
      have hat := seenI_at (L := L) (k := k) L[k]
      have hsc := seenI_succ hlt
      generalize hf : L[k] = f at *
      have Hf := Lib.hid hf
      have Hsc := Lib.hid hsc
      have hkey := Lib.hid (Maps.keyOf_int_mk Try.underlying3 hsl)
      clear hsl
      by_cases hin : f ∈ L.take k
      · rw [if_pos hin] at hat
        have Hat := Lib.hid hat
        have Hin := Lib.hid hin
        clear hf hsc hat hin hmm
        go_wp2_with (first | (at_lookup; refine wpList_lookup_gm_bool _ rfl _ _ 59 rfl 3 4 keyI Try.underlying59 Try.underlying4 (zero4 _) _ k _ rfl hm _ _ rfl hkey.out true (by rw [Hat.out]) ?_) | go_in)
        go_ret
        exact ⟨ret_bool (by rw [← Hf.out] at Hin; simp [not_nodup_take hlt Hin.out]), hbw⟩
      · rw [if_neg hin] at hat
        have Hat := Lib.hid hat
        have Hin := Lib.hid hin
        clear hf hsc hat hin hmm
        go_wp2_with (first | (at_lookup; refine wpList_lookup_gm_bool _ rfl _ _ 59 rfl 3 4 keyI Try.underlying59 Try.underlying4 (zero4 _) _ k _ rfl hm _ _ rfl hkey.out false (by rw [Hat.out]) ?_) | (at_mapUpdate; refine wpList_mapUpdate_gm _ rfl _ _ _ 59 rfl 3 4 keyI Try.underlying59 _ k _ rfl hm (by unfold maxLen; omega) _ _ _ rfl rfl hkey.out trivial (.bool true) [] (plainElem_bool Try.underlying4 true) ?_; intro w1 hm1 hg1) | go_in)
        go_roundw
        case rel => exact ⟨k + 1, by omega, by go_num, hm1.ext Hsc.out, Lib.hid (take_nodup_succ hlt Hn.out (by rw [Hf.out]; exact Hin.out)), hbw.grown hg1 hsz (fun j hj => by cases hj; exact Nat.le_refl _)⟩
        case measure => simp [intOf]; omega
    · have hq : k = L.length := by omega
      subst hq
      go_wp2
      go_ret
      exact ⟨ret_bool (by have := Hn.out; simpa using this), hbw⟩

def SameUpto {α : Type} (A B : List α) (k : Nat) : Prop := ∀ i, i < k → A[i]? = B[i]?
theorem SameUpto.succ {α : Type} {A B : List α} {k : Nat} (h : SameUpto A B k) (ha : k < A.length) (hb : k < B.length) (he : A[k] = B[k]) : SameUpto A B (k + 1) := fun i hi => by
  by_cases e : i = k
  · subst e; rw [List.getElem?_eq_getElem ha, List.getElem?_eq_getElem hb, he]
  · exact h i (by omega)
theorem SameUpto.all {α : Type} {A B : List α} {k : Nat} (h : SameUpto A B k) (ha : A.length ≤ k) (hb : B.length ≤ k) : A = B := List.ext_getElem? fun i => by
  by_cases e : i < k
  · exact h i e
  · rw [List.getElem?_eq_none (by omega), List.getElem?_eq_none (by omega)]
theorem not_same {α : Type} {A B : List α} {k : Nat} (ha : k < A.length) (hb : k < B.length) (he : A[k] ≠ B[k]) : A ≠ B := fun h => by subst h; exact he rfl

set_option maxRecDepth 20000 in
set_option maxHeartbeats 2000000 in
theorem equal_any (a b : Option Addr) (ca cb : Nat) (A B : List ByteArray) (w : World) (ha : Sl 1 RStr w a A) (hb : Sl 1 RStr w b B) (hl : A.length ≤ 100000) :
    Calls Try.prog 69 #[.slice a A.length ca, .slice b B.length cb] w fun e w' => e = .returned (.bool (decide (A = B))) ∧ Below w.heap.size w w' := by
  by_cases hlen : A.length = B.length
  case neg =>
    have hne := Lib.hid (show ¬ A = B from fun h => hlen (by rw [h]))
    clear ha hb
    go_enter Try.func69, Try.ntmps69
    go_wp2
    go_ret
    exact ⟨ret_bool (by simp [hne.out]), Below.refl _ _⟩
  have Ha := Lib.hid ha
  have Hb := Lib.hid hb
  clear ha hb
  go_enter Try.func69, Try.ntmps69
  go_wp2
  go_loopw [13] (fun i wr => ∃ k : Nat, k ≤ A.length ∧ i = .int .i64 k ∧ Hid (SameUpto A B k) ∧ Below w.heap.size w wr) (fun i _ => A.length - (intOf i).toNat)
  case atStart => exact ⟨0, Nat.zero_le _, rfl, Lib.hid (fun i hi => by omega), Below.refl _ _⟩
  case round =>
    obtain ⟨k, hk, rfl, Hn, hbw⟩ := hrel
    have hsz := hbw.size
    by_cases hlt : k < A.length
    · have hlt2 : k < B.length := by omega
      obtain ⟨ba, oa, rfl, hba, hsa, c0⟩ := str_out Ha.out k hlt
      obtain ⟨bb, ob, rfl, hbb, hsb, d0⟩ := str_out Hb.out k hlt2
      rw [← hbw.cell (p := ⟨ba, _, none⟩) hba] at c0
      rw [← hbw.cell (p := ⟨bb, _, none⟩) hbb] at d0
      generalize hf : A[k] = f at *
      generalize hg : B[k] = g at *
      have Hf := Lib.hid hf
      have Hg := Lib.hid hg
      have hw1 : IntKind.i64.wrap ((k : Int) + 1) = (k : Int) + 1 := IntWalk.i64_in _ (by omega)
      clear hf hg hsa hsb
      by_cases hfg : f = g
      · subst hfg
        go_wp2_with fail
        go_quiet (fail)
        go_wp2
        go_roundw
        case rel => exact ⟨k + 1, by omega, by go_num, Lib.hid (Hn.out.succ hlt hlt2 (Hf.out.trans Hg.out.symm)), below_drewN hbw _⟩
        case measure => simp [intOf]; omega
      · have hfl := bytes_ne hfg
        have Hfg := Lib.hid hfg
        clear hfg
        go_wp2_with fail
        go_quiet (fail)
        go_wp2
        go_ret
        exact ⟨ret_bool (by simp [not_same hlt hlt2 (by rw [Hf.out, Hg.out]; exact Hfg.out)]), below_drewN hbw _⟩
    · have hq : k = A.length := by omega
      subst hq
      go_wp2
      go_ret
      exact ⟨ret_bool (by simp [Hn.out.all (Nat.le_refl _) (by omega)]), hbw⟩
set_option maxRecDepth 20000 in
set_option maxHeartbeats 2000000 in
theorem same_any (a b : Option Addr) (ca cb : Nat) (A B : List ByteArray) (w : World) (ha : Sl 1 RStr w a A) (hb : Sl 1 RStr w b B) (hl : A.length ≤ 100000) :
    Calls Try.prog 70 #[.slice a A.length ca, .slice b B.length cb] w fun e w' => e = .returned (.bool (decide (A = B))) ∧ Below w.heap.size w w' := by
  by_cases hlen : A.length = B.length
  case neg =>
    have hne := Lib.hid (show ¬ A = B from fun h => hlen (by rw [h]))
    clear ha hb
    go_enter Try.func70, Try.ntmps70
    go_wp2
    go_ret
    exact ⟨ret_bool (by simp [hne.out]), Below.refl _ _⟩
  have Ha := Lib.hid ha
  have Hb := Lib.hid hb
  clear ha hb
  go_enter Try.func70, Try.ntmps70
  go_wp2
  go_loopw [5] (fun i wr => ∃ k : Nat, k ≤ A.length ∧ i = .int .i64 k ∧ Hid (SameUpto A B k) ∧ Below w.heap.size w wr) (fun i _ => A.length - (intOf i).toNat)
  case atStart => exact ⟨0, Nat.zero_le _, rfl, Lib.hid (fun i hi => by omega), Below.refl _ _⟩
  case round =>
    obtain ⟨k, hk, rfl, Hn, hbw⟩ := hrel
    have hsz := hbw.size
    by_cases hlt : k < A.length
    · have hlt2 : k < B.length := by omega
      obtain ⟨ba, oa, rfl, hba, hsa, c0⟩ := str_out Ha.out k hlt
      obtain ⟨bb, ob, rfl, hbb, hsb, d0⟩ := str_out Hb.out k hlt2
      rw [← hbw.cell (p := ⟨ba, _, none⟩) hba] at c0
      rw [← hbw.cell (p := ⟨bb, _, none⟩) hbb] at d0
      generalize hf : A[k] = f at *
      generalize hg : B[k] = g at *
      have Hf := Lib.hid hf
      have Hg := Lib.hid hg
      have hw1 : IntKind.i64.wrap ((k : Int) + 1) = (k : Int) + 1 := IntWalk.i64_in _ (by omega)
      clear hf hg hsa hsb
      by_cases hfg : f = g
      · subst hfg
        go_wp2_with fail
        go_quiet (fail)
        go_wp2
        go_roundw
        case rel => exact ⟨k + 1, by omega, by go_num, Lib.hid (Hn.out.succ hlt hlt2 (Hf.out.trans Hg.out.symm)), below_drewN hbw _⟩
        case measure => simp [intOf]; omega
      · have hfl := bytes_ne hfg
        have Hfg := Lib.hid hfg
        clear hfg
        go_wp2_with fail
        go_quiet (fail)
        go_wp2
        go_ret
        exact ⟨ret_bool (by simp [not_same hlt hlt2 (by rw [Hf.out, Hg.out]; exact Hfg.out)]), below_drewN hbw _⟩
    · have hq : k = A.length := by omega
      subst hq
      go_wp2
      go_ret
      exact ⟨ret_bool (by simp [Hn.out.all (Nat.le_refl _) (by omega)]), hbw⟩

set_option maxRecDepth 20000 in
set_option maxHeartbeats 2000000 in
theorem rdiff_any (a : Option Addr) (ca : Nat) (A : List ByteArray) (w : World) (ha : Sl 1 RStr w a A) (hl : A.length ≤ 100000) :
    Calls Try.prog 68 #[.slice a A.length ca] w fun e w' => e = .returned (.bool (decide A.Nodup)) ∧ Below w.heap.size w w' := by
  have Ha := Lib.hid ha
  clear ha
  go_enter Try.func68, Try.ntmps68
  go_wp2
  go_loopw [3] (fun i wr => ∃ k : Nat, k ≤ A.length ∧ i = .int .i64 k ∧ Hid ((A.take k).Nodup) ∧ Below w.heap.size w wr) (fun i _ => A.length - (intOf i).toNat)
  case atStart => exact ⟨0, Nat.zero_le _, rfl, Lib.hid (by simp), Below.refl _ _⟩
  case round =>
    obtain ⟨k, hk, rfl, Hn, hbw⟩ := hrel
    obtain ⟨wo, rfl⟩ : ∃ wo : World, wo = wr := ⟨_, rfl⟩
    by_cases hlt : k < A.length
    · go_wp2
      go_loopw [4] (fun i wr => ∃ j : Nat, j ≤ k ∧ i = .int .i64 j ∧ Hid (∀ x, x < j → A[x]? ≠ A[k]?) ∧ Below w.heap.size w wr) (fun i _ => k - (intOf i).toNat)
      case atStart => exact ⟨0, Nat.zero_le _, rfl, Lib.hid (fun x hx => by omega), hbw⟩
      case round =>
        obtain ⟨j, hj, rfl, Hm, hbr⟩ := hrel
        by_cases hlj : j < k
        · have hlt2 : j < A.length := by omega
          obtain ⟨ba, oa, rfl, hba, hsa, c0⟩ := str_out Ha.out j hlt2
          obtain ⟨bb, ob, hab, hbb, hsb, d0⟩ := str_out Ha.out k hlt
          simp only [Option.some.injEq, Addr.mk.injEq, and_true] at hab
          obtain ⟨rfl, rfl⟩ := hab
          rw [← hbr.cell (p := ⟨ba, _, none⟩) hba] at c0
          rw [← hbr.cell (p := ⟨ba, _, none⟩) hbb] at d0
          generalize hf : A[j] = f at *
          generalize hg : A[k] = g at *
          have Hf := Lib.hid hf
          have Hg := Lib.hid hg
          clear hf hg hsa hsb
          by_cases hfg : f = g
          · subst hfg
            go_wp2_with fail
            go_quiet (fail)
            go_wp2
            go_ret
            exact ⟨ret_bool (by
              have : ¬ A.Nodup := fun h => by
                have := (List.getElem_inj h (i := j) (j := k) (h₀ := hlt2) (h₁ := hlt)).1 (Hf.out.trans Hg.out.symm)
                omega
              simp [this]), below_drewN hbr _⟩
          · have hfl := bytes_ne hfg
            have Hfg := Lib.hid hfg
            clear hfg
            go_wp2_with fail
            go_quiet (fail)
            go_wp2
            go_roundw
            case rel => exact ⟨j + 1, by omega, by go_num, Lib.hid (fun x hx => by
              by_cases e : x = j
              · subst e
                rw [List.getElem?_eq_getElem hlt2, List.getElem?_eq_getElem hlt, Hf.out, Hg.out]
                simpa using Hfg.out
              · exact Hm.out x (by omega)), below_drewN hbr _⟩
            case measure => simp [intOf]; omega
        · have hq : j = k := by omega
          subst hq
          go_wp2
          go_roundw
          case rel => exact ⟨j + 1, by omega, by go_num, Lib.hid (take_nodup_succ hlt Hn.out (fun h => by
            obtain ⟨x, hx, he⟩ := List.getElem_of_mem h
            simp at hx he
            refine Hm.out x (by omega) ?_
            rw [List.getElem?_eq_getElem (by omega), List.getElem?_eq_getElem hlt, he])), hbr⟩
          case measure => simp [intOf]; omega
    · have hq : k = A.length := by omega
      subst hq
      go_wp2
      go_ret
      exact ⟨ret_bool (by have := Hn.out; simpa using this), hbw⟩
end Go.Proofs.Ytogenjbabgibbaa
