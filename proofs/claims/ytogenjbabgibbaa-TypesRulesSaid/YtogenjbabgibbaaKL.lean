import Derived.Test.YtogenjbabgibbaaKJ
namespace Go.Proofs.Ytogenjbabgibbaa
open Go.RowKit
set_option maxRecDepth 20000 in
set_option maxHeartbeats 1000000 in
/-- typeOf where the field is there, in a later world -/
theorem typeOf_fix (s : SourceD) (p : SrcAt) (i j : Int) (t : TyD) (ht : typeOf? s i j = some t) (w0 : World) (hs : Src w0 s p) : ∃ an kn, Sl 1 RStr w0 an t.names ∧ ∀ w, Below w0.heap.size w0 w →
    Calls Try.prog 40 #[s.val p, .int .i64 i, .int .i64 j] w fun e w' => e = .returned (.tuple #[t.val an kn, .bool true]) ∧ Below w.heap.size w w' := by
  obtain ⟨b, off, nf, k0, b2, off2, an, kn, e1, hb, hb2, ⟨hi0, hi1, hj0, hj1⟩, c4, d1, d2, d3, d4, d5, d6, hn⟩ := typeOf_mem ht hs
  refine ⟨an, kn, hn, fun w hb0 => ?_⟩
  clear hn hs ht
  replace c4 := cell_kept hb0 c4 hb
  replace d1 := cell_kept hb0 d1 hb2
  replace d2 := cell_kept hb0 d2 hb2
  replace d3 := cell_kept hb0 d3 hb2
  replace d4 := cell_kept hb0 d4 hb2
  replace d5 := cell_kept hb0 d5 hb2
  replace d6 := cell_kept hb0 d6 hb2
  replace hb := Nat.lt_of_lt_of_le hb hb0.size
  replace hb2 := Nat.lt_of_lt_of_le hb2 hb0.size
  clear hb0
  go_enter Try.func40, Try.ntmps40
  go_wp2
  refine bodyPost_ret (v := .tuple #[t.val an kn, .bool true]) (by simp [results, Try.f40, go_sem]) rfl ?_
  refine ⟨rfl, ?_⟩
  all_goals (repeat (first | exact Below.refl _ _ | refine Below.alloc ?_ (by simp) _ | refine Below.setCell ?_ (by simp) _))

set_option maxRecDepth 20000 in
set_option maxHeartbeats 1000000 in
theorem rtypeOf_fix (s : SourceD) (p : SrcAt) (i j : Int) (t : TyD) (ht : typeOf? s i j = some t) (w0 : World) (hs : Src w0 s p) : ∃ an kn, Sl 1 RStr w0 an t.names ∧ ∀ w, Below w0.heap.size w0 w →
    Calls Try.prog 39 #[s.val p, .int .i64 i, .int .i64 j] w fun e w' => e = .returned (t.val an kn) ∧ Below w.heap.size w w' := by
  obtain ⟨b, off, nf, k0, b2, off2, an, kn, e1, hb, hb2, ⟨hi0, hi1, hj0, hj1⟩, c4, d1, d2, d3, d4, d5, d6, hn⟩ := typeOf_mem ht hs
  refine ⟨an, kn, hn, fun w hb0 => ?_⟩
  clear hn hs ht
  replace c4 := cell_kept hb0 c4 hb
  replace d1 := cell_kept hb0 d1 hb2
  replace d2 := cell_kept hb0 d2 hb2
  replace d3 := cell_kept hb0 d3 hb2
  replace d4 := cell_kept hb0 d4 hb2
  replace d5 := cell_kept hb0 d5 hb2
  replace d6 := cell_kept hb0 d6 hb2
  replace hb := Nat.lt_of_lt_of_le hb hb0.size
  replace hb2 := Nat.lt_of_lt_of_le hb2 hb0.size
  clear hb0
  go_enter Try.func39, Try.ntmps39
  go_wp2
  refine bodyPost_ret (v := t.val an kn) (by simp [results, Try.f39, go_sem]) rfl ?_
  refine ⟨rfl, ?_⟩
  all_goals (repeat (first | exact Below.refl _ _ | refine Below.alloc ?_ (by simp) _ | refine Below.setCell ?_ (by simp) _))
theorem typeOf_at (s : SourceD) (p : SrcAt) (i j : Int) (t : TyD) (ht : typeOf? s i j = some t) (w0 : World) (hs : Src w0 s p) (w : World) (hb0 : Below w0.heap.size w0 w) :
    Calls Try.prog 40 #[s.val p, .int .i64 i, .int .i64 j] w fun e w' => (∃ an kn, e = .returned (.tuple #[t.val an kn, .bool true]) ∧ Sl 1 RStr w0 an t.names) ∧ Below w.heap.size w w' := by
  obtain ⟨an, kn, hn, h⟩ := typeOf_fix s p i j t ht w0 hs
  exact (h w hb0).mono fun e w' ⟨h1, h2⟩ => ⟨⟨an, kn, h1, hn⟩, h2⟩
theorem rtypeOf_at (s : SourceD) (p : SrcAt) (i j : Int) (t : TyD) (ht : typeOf? s i j = some t) (w0 : World) (hs : Src w0 s p) (w : World) (hb0 : Below w0.heap.size w0 w) :
    Calls Try.prog 39 #[s.val p, .int .i64 i, .int .i64 j] w fun e w' => (∃ an kn, e = .returned (t.val an kn) ∧ Sl 1 RStr w0 an t.names) ∧ Below w.heap.size w w' := by
  obtain ⟨an, kn, hn, h⟩ := rtypeOf_fix s p i j t ht w0 hs
  exact (h w hb0).mono fun e w' ⟨h1, h2⟩ => ⟨⟨an, kn, h1, hn⟩, h2⟩
end Go.Proofs.Ytogenjbabgibbaa
