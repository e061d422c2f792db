import Derived.Test.YtogenjbabgibbaaMem2
import Derived.Maps.AppendAt
namespace Go.Proofs.Ytogenjbabgibbaa
open Go.RowKit

/-! A slice that the call itself appends to, as a list of data. -/
structure OwnL {α : Type} (n : Nat) (enc : α → List Value) (e : TypeId) (w : World) (B : Nat) (v : Value) (L : List α) : Prop where
  row : w.ownsRow B e n v L.length (L.flatMap enc)
section
variable {α : Type} {n : Nat} {enc : α → List Value} {e : TypeId} {w w' : World} {B : Nat} {v : Value} {L : List α}
theorem flatMap_get (henc : ∀ x, (enc x).length = n) : ∀ (L : List α) (i : Nat) (h : i < L.length) (j : Nat), j < n → (L.flatMap enc)[i * n + j]? = (enc L[i])[j]?
  | [], i, h, _, _ => by simp at h
  | x :: L, 0, _, j, hj => by
    simp only [List.flatMap_cons, Nat.zero_mul, Nat.zero_add, List.getElem_cons_zero]
    rw [List.getElem?_append_left (by rw [henc]; exact hj)]
  | x :: L, i + 1, h, j, hj => by
    have := flatMap_get henc L i (by simpa using h) j hj
    simp only [List.flatMap_cons, List.getElem_cons_succ]
    rw [List.getElem?_append_right (by rw [henc, Nat.add_mul]; omega), henc, ← this, Nat.add_mul, show i * n + 1 * n + j - n = i * n + j by omega]
theorem OwnL.nil (w : World) (B : Nat) : OwnL n enc e w B (.slice none 0 0) ([] : List α) := ⟨⟨by simp, .inl ⟨rfl, rfl⟩⟩⟩
theorem OwnL.ge (h : OwnL n enc e w B v L) : ∀ k, v.ownBlock = some k → B ≤ k := fun k hk => by
  rcases h.row.2 with ⟨hv, _⟩ | ⟨g, cap, cur, hv, hg, _⟩
  · rw [hv] at hk; cases hk
  · rw [hv] at hk; cases hk; exact hg
theorem OwnL.below (h : OwnL n enc e w B v L) (hb : Below w.heap.size w w') : OwnL n enc e w' B v L := by
  refine ⟨h.row.1, ?_⟩
  rcases h.row.2 with hn | ⟨g, cap, cur, hv, hg, hh, rest⟩
  · exact .inl hn
  · exact .inr ⟨g, cap, cur, hv, hg, (hb.block g (Array.getElem?_eq_some_iff.1 hh).1).trans hh, rest⟩
theorem OwnL.alloc (h : OwnL n enc e w B v L) (o : Obj) : OwnL n enc e (w.alloc o) B v L := ⟨h.row.alloc o⟩
theorem OwnL.snoc {x : α} (h : w.ownsRow B e n v (L.length + 1) (L.flatMap enc ++ enc x)) : OwnL n enc e w B v (L ++ [x]) := ⟨by simpa using h⟩
theorem OwnL.out (henc : ∀ x, (enc x).length = n) (h : OwnL n enc e w B v L) : ∃ a cap, v = .slice a L.length cap ∧
    ∀ i (_ : i < L.length), ∃ g, a = some ⟨g, 0, none⟩ ∧ B ≤ g ∧ g < w.heap.size ∧ ∀ j, j < n → w.cell? ⟨g, i * n + j, none⟩ = (enc L[i])[j]? := by
  rcases h.row.2 with ⟨hv, hn⟩ | ⟨g, cap, cur, hv, hg, hh, hn, hc, hs, ht⟩
  · exact ⟨none, 0, by rw [hv, hn], fun i hi => by omega⟩
  · refine ⟨_, _, hv, fun i hi => ⟨g, rfl, hg, (Array.getElem?_eq_some_iff.1 hh).1, fun j hj => ?_⟩⟩
    have hb : Blk w g cur e := hh
    rw [hb.cell, ← flatMap_get henc L i hi j hj, ← ht, List.getElem?_take, if_pos (by
      have : (i + 1) * n ≤ L.length * n := Nat.mul_le_mul_right n hi
      rw [Nat.add_mul] at this; omega)]
    simp
theorem OwnL.at {g m cap : Nat} (henc : ∀ x, (enc x).length = n) (h : OwnL n enc e w B (.slice (some ⟨g, 0, none⟩) m cap) L) : B ≤ g ∧ g < w.heap.size ∧ ∀ i (_ : i < L.length), ∀ j, j < n → w.cell? ⟨g, i * n + j, none⟩ = (enc L[i])[j]? := by
  obtain ⟨a, cap', hv, hc⟩ := h.out henc
  rcases h.row.2 with ⟨hv2, _⟩ | ⟨g2, cap2, cur, hv2, hg, hh, _⟩
  · cases hv2
  · cases hv2
    refine ⟨hg, (Array.getElem?_eq_some_iff.1 hh).1, fun i hi j hj => ?_⟩
    obtain ⟨g3, ha, _, _, h3⟩ := hc i hi
    rw [ha] at hv
    cases hv
    exact h3 j hj
/-- an own slice reads as a list -/
theorem OwnL.sl {R : Rep α} (henc : ∀ x, (enc x).length = n) (h : OwnL n enc e w B v L) (hR : ∀ x ∈ L, R w (enc x) x) : ∃ a cap, v = .slice a L.length cap ∧ Sl n R w a L := by
  obtain ⟨a, cap, hv, hc⟩ := h.out henc
  refine ⟨a, cap, hv, fun i hi => ?_⟩
  obtain ⟨g, ha, _, hg, hcell⟩ := hc i hi
  exact ⟨g, 0, ha, hg, enc L[i], hR _ (List.getElem_mem hi), fun j hj => by simpa using hcell j hj⟩
end
/-- 'append(s, x)' lays x in a new block first -/
theorem cells_new (w : World) (l : List Value) (t : TypeId) : ∀ j u, l[j]? = some u → (w.alloc (.cells l.toArray t)).cell? ((⟨w.heap.size, 0, none⟩ : Addr).add j) = some u := fun j u hj => by
  rw [add_none, (Blk.new w l.toArray t).cell]
  simpa using hj
theorem cells_new' (w : World) (l : List Value) (t : TypeId) (b : Nat) (hb : w.heap.size = b) : ∀ j u, l[j]? = some u → (w.alloc (.cells l.toArray t)).cell? ((⟨b, 0, none⟩ : Addr).add j) = some u := by
  subst hb; exact cells_new w l t
theorem info_split {P : Program} {t : TypeId} {z : Value} {s b : Nat} (h : (P.info? t).map (fun i => (i.zero, i.size, i.bytes)) = some (some z, s, b)) : ∃ i, P.info? t = some i ∧ i.zero = some z ∧ i.size = s ∧ i.bytes = b := by
  cases hi : P.info? t with
  | none => rw [hi] at h; cases h
  | some i => rw [hi] at h; simp at h; exact ⟨i, rfl, h.1, h.2.1, h.2.2⟩
end Go.Proofs.Ytogenjbabgibbaa
