import Derived.Test.YtogenjbabgibbaaTR1
import Derived.Test.YtogenjbabgibbaaReps
import Derived.Test.YtogenjbabgibbaaMapSet
namespace Go.Proofs.Ytogenjbabgibbaa
open Go.RowKit
set_option maxRecDepth 20000 in
set_option maxHeartbeats 4000000 in
theorem value_cl (nf : Nat) (fa : Option Addr) (fk : Nat) (L : List (List Int)) (va : Option Addr) (vk : Nat) (br bv : Nat) (t : TermD) (v : Int) (hv : valT? nf L t = some v) (w : World) (hL : Sl 1 (RSl 1 RInt) w va L)
    (hl_r : br < w.heap.size) (r0 : w.cell? ⟨br, 2, none⟩ = some (.slice fa nf fk)) (hl_v : bv < w.heap.size) (v0 : w.cell? ⟨bv, 0, none⟩ = some (.slice va L.length vk)) :
    Calls Try.prog 21 #[t.val', .pointer (some ⟨br, 0, none⟩), .pointer (some ⟨bv, 0, none⟩)] w fun e w' => e = .returned (.tuple #[.int .i64 v, .bool true]) ∧ Below w.heap.size w w' := by
  unfold valT? at hv
  by_cases h0 : t.var < 0
  case pos =>
    rw [if_pos h0] at hv
    cases hv
    clear hL
    go_enter Try.func21, Try.ntmps21
    go_wp2_with fail
    all_goals (try (exfalso; omega))
    refine bodyPost_ret (v := .tuple #[.int .i64 t.n, .bool true]) (by simp [results, Try.f21, go_sem]) rfl ⟨?_, ?_⟩
    · rfl
    · exact (Below.refl _ _).alloc (Nat.le_refl _) _
  rw [if_neg h0] at hv
  by_cases h1 : t.var < nf ∧ 0 ≤ t.field
  case neg => rw [if_neg h1] at hv; cases hv
  rw [if_pos h1] at hv
  obtain ⟨h1, h2⟩ := h1
  cases hl : L[t.var.toNat]? with
  | none => rw [hl] at hv; cases hv
  | some l =>
    rw [hl] at hv
    simp only at hv
    obtain ⟨hlt, he⟩ := List.getElem?_eq_some_iff.1 hl
    obtain ⟨hlf, hev⟩ := List.getElem?_eq_some_iff.1 hv
    obtain ⟨bl, ol, la, lk, e1, hl_l, l0, hll⟩ := ints2_out hL t.var.toNat hlt
    rw [he] at l0 hll
    obtain ⟨bi, oi, e2, hl_i, _, i0⟩ := int_out hll t.field.toNat hlf
    rw [hev] at i0
    subst e1 e2
    have d0 : decide (t.var < 0) = false := decide_eq_false h0
    have d1 : decide ((nf : Int) ≤ t.var) = false := decide_eq_false (by omega)
    have d2 : decide ((L.length : Int) ≤ t.var) = false := decide_eq_false (by omega)
    have d3 : decide (t.field < 0) = false := decide_eq_false (by omega)
    have d4 : decide ((l.length : Int) ≤ t.field) = false := decide_eq_false (by omega)
    clear hL hv hl he hev hll
    go_enter Try.func21, Try.ntmps21
    go_wp2_with fail
    generalize hw0 : World.alloc _ _ = w0
    obtain ⟨X0, hsz, hb0⟩ := blk1 hw0
    replace r0 := cell_kept hb0 r0 hl_r
    replace v0 := cell_kept hb0 v0 hl_v
    replace l0 := cell_kept hb0 l0 hl_l
    replace i0 := cell_kept hb0 i0 hl_i
    have hw_r := hl_r
    replace hl_r := Nat.lt_of_lt_of_le hl_r hb0.size
    have hw_v := hl_v
    replace hl_v := Nat.lt_of_lt_of_le hl_v hb0.size
    have hw_l := hl_l
    replace hl_l := Nat.lt_of_lt_of_le hl_l hb0.size
    have hw_i := hl_i
    replace hl_i := Nat.lt_of_lt_of_le hl_i hb0.size
    have y0 : w0.cell? ⟨w.heap.size, 0, none⟩ = some (.string t.name) := X0.cell 0
    have y1 : w0.cell? ⟨w.heap.size, 1, none⟩ = some (.string t.path) := X0.cell 1
    have y2 : w0.cell? ⟨w.heap.size, 2, none⟩ = some (.int .i64 t.var) := X0.cell 2
    have y3 : w0.cell? ⟨w.heap.size, 3, none⟩ = some (.int .i64 t.field) := X0.cell 3
    have y4 : w0.cell? ⟨w.heap.size, 4, none⟩ = some (.int .i64 t.n) := X0.cell 4
    have hl_y : w.heap.size < w0.heap.size := by omega
    have hwl : w.heap.size ≤ w0.heap.size := hb0.size
    have Hb := Lib.hid hb0
    clear hw0 hb0 hsz X0
    refine wp_region_grown (by kernel_rfl) (by kernel_rfl) ?_
    repeat (go_big_quiet_step (fail))
    refine wpQuiet_nil ?_
    intro w1 hw0
    have hb1 : Below w0.heap.size w0 w1 := by obtain ⟨n, rfl⟩ := hw0; exact grown_below _ n
    clear hw0
    replace y0 := cell_kept hb1 y0 hl_y
    replace y1 := cell_kept hb1 y1 hl_y
    replace y2 := cell_kept hb1 y2 hl_y
    replace y3 := cell_kept hb1 y3 hl_y
    replace y4 := cell_kept hb1 y4 hl_y
    replace r0 := cell_kept hb1 r0 hl_r
    replace v0 := cell_kept hb1 v0 hl_v
    replace l0 := cell_kept hb1 l0 hl_l
    replace i0 := cell_kept hb1 i0 hl_i
    replace Hb := Lib.hid (Hb.out.trans (hb1.mono hwl))
    replace hl_y := Nat.lt_of_lt_of_le hl_y hb1.size
    replace hl_r := Nat.lt_of_lt_of_le hl_r hb1.size
    replace hl_v := Nat.lt_of_lt_of_le hl_v hb1.size
    replace hl_l := Nat.lt_of_lt_of_le hl_l hb1.size
    replace hl_i := Nat.lt_of_lt_of_le hl_i hb1.size
    replace hwl := Nat.le_trans hwl hb1.size
    clear hb1
    go_wp2_with fail
    refine wp_region_grown (by kernel_rfl) (by kernel_rfl) ?_
    repeat (go_big_quiet_step (fail))
    refine wpQuiet_nil ?_
    intro w2 hw0
    have hb1 : Below w1.heap.size w1 w2 := by obtain ⟨n, rfl⟩ := hw0; exact grown_below _ n
    clear hw0
    replace y0 := cell_kept hb1 y0 hl_y
    replace y1 := cell_kept hb1 y1 hl_y
    replace y2 := cell_kept hb1 y2 hl_y
    replace y3 := cell_kept hb1 y3 hl_y
    replace y4 := cell_kept hb1 y4 hl_y
    replace r0 := cell_kept hb1 r0 hl_r
    replace v0 := cell_kept hb1 v0 hl_v
    replace l0 := cell_kept hb1 l0 hl_l
    replace i0 := cell_kept hb1 i0 hl_i
    replace Hb := Lib.hid (Hb.out.trans (hb1.mono hwl))
    replace hl_y := Nat.lt_of_lt_of_le hl_y hb1.size
    replace hl_r := Nat.lt_of_lt_of_le hl_r hb1.size
    replace hl_v := Nat.lt_of_lt_of_le hl_v hb1.size
    replace hl_l := Nat.lt_of_lt_of_le hl_l hb1.size
    replace hl_i := Nat.lt_of_lt_of_le hl_i hb1.size
    replace hwl := Nat.le_trans hwl hb1.size
    clear hb1
    go_wp2
    refine bodyPost_ret (v := .tuple #[.int .i64 v, .bool true]) (by simp [results, Try.f21, go_sem]) rfl ⟨?_, ?_⟩
    · rfl
    · exact Hb.out
theorem value_r (s : SourceD) (p : SrcAt) (i j v : Int) (w : World) (hs : Src w s p) (hsh : Short s) (r : Bool) (hr : valueB s i j v = r) :
    Calls Try.prog 15 #[s.val p, .int .i64 i, .int .i64 j, .int .i64 v] w fun e w' => e = .returned (.bool r) ∧ Below w.heap.size w w' := by
  subst hr
  exact value_any s p i j v w hs hsh
/-- the values of a drawn region: all known but one, which is a fresh variable -/
def CPhi (cs : List Value) (j base : Nat) (zr : Array Value) (t : TypeId) (i : Nat) (v : Value) (w : World) : Prop := if i = j then ∃ g, base ≤ g ∧ v = .pointer (some ⟨g, 0, none⟩) ∧ Blk w g zr t else v = cs.getD i undef
theorem CPhi.stab (cs : List Value) (j base : Nat) (zr : Array Value) (t : TypeId) : ∀ i v (w w' : World), CPhi cs j base zr t i v w → Below w.heap.size w w' → CPhi cs j base zr t i v w' := fun i v w w' h hb => by
  unfold CPhi at *
  split
  · next e =>
    rw [if_pos e] at h
    obtain ⟨g, h1, h2, h3⟩ := h
    exact ⟨g, h1, h2, h3.below hb h3.lt⟩
  · next e => rw [if_neg e] at h; exact h
end Go.Proofs.Ytogenjbabgibbaa
