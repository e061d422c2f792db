import Derived.Test.YtinkifhbpbkhpaaScan
import Derived.Test.YtinkifhbpbkhpaaRuns
import Derived.Maps.AppendAt
namespace Go.Proofs.Ytinkifhbpbkhpaa
open Go.RowKit

def encS (L : SL) : List Value := L.flatMap fun s => [.int .i64 s.1, .int .i64 s.2]
theorem encS_len (L : SL) : (encS L).length = L.length * 2 := by
  induction L with
  | nil => rfl
  | cons s L ih => simp only [encS, List.flatMap_cons, List.length_append, List.length_cons, List.length_nil] at ih ⊢; omega
theorem encS_snoc (L : SL) (s : Int × Int) : encS (L ++ [s]) = encS L ++ [.int .i64 s.1, .int .i64 s.2] := by simp [encS]
theorem encS_get (L : SL) : ∀ i (h : i < L.length), (encS L)[i * 2]? = some (.int .i64 L[i].1) ∧ (encS L)[i * 2 + 1]? = some (.int .i64 L[i].2) := by
  induction L with
  | nil => intro i h; simp at h
  | cons s L ih =>
    intro i h
    cases i with
    | zero => simp [encS]
    | succ i =>
      have := ih i (by simpa using h)
      simp only [encS, List.flatMap_cons] at this ⊢
      rw [show (i + 1) * 2 = i * 2 + 2 by omega]
      simpa using this

theorem info31 : (Try.prog.info? 31).map (fun i => (i.zero, i.size, i.bytes)) = some (some (.agg #[.int .i64 0, .int .i64 0]), 2, 16) := by kernel_rfl

/-- a list of spans that the call owns, never nil -/
structure OwnS (w : World) (B : Nat) (v : Value) (L : SL) : Prop where
  row : w.ownsRow B 31 2 v L.length (encS L)
  nn : v ≠ .slice none 0 0
theorem OwnS.form {w : World} {B : Nat} {v : Value} {L : SL} (h : OwnS w B v L) : ∃ g cap cur, v = .slice (some ⟨g, 0, none⟩) L.length cap ∧ B ≤ g ∧ Blk w g cur 31 ∧ L.length ≤ cap ∧ cur.size = cap * 2 ∧ ∀ i (hi : i < L.length), cur[i * 2]? = some (.int .i64 L[i].1) ∧ cur[i * 2 + 1]? = some (.int .i64 L[i].2) := by
  obtain ⟨⟨_, h2⟩, h3⟩ := h
  rcases h2 with ⟨hv, _⟩ | ⟨g, cap, cur, hv, hg, hh, hn, hc, hs, ht⟩
  · exact absurd hv h3
  · refine ⟨g, cap, cur, hv, hg, hh, hn, hs, fun i hi => ?_⟩
    have := encS_get L i hi
    rw [← ht, List.getElem?_take, List.getElem?_take, if_pos (by omega), if_pos (by omega)] at this
    simpa using this
theorem sp_of_row {w : World} {B : Nat} {v : Value} {L : SL} (h : w.ownsRow B 31 2 v L.length (encS L)) : ∃ a cap, v = .slice a L.length cap ∧ Sp w a L := by
  obtain ⟨_, h2⟩ := h
  rcases h2 with ⟨hv, hn⟩ | ⟨g, cap, cur, hv, hg, hh, hn, hc, hs, ht⟩
  · have : L = [] := List.eq_nil_of_length_eq_zero hn
    subst this
    exact ⟨none, 0, hv, fun i hi => by simp at hi⟩
  · refine ⟨some ⟨g, 0, none⟩, cap, hv, fun i hi => ?_⟩
    have := encS_get L i hi
    rw [← ht, List.getElem?_take, List.getElem?_take, if_pos (by omega), if_pos (by omega)] at this
    have hb : Blk w g cur 31 := hh
    refine ⟨g, 0, rfl, hb.lt, ?_, ?_⟩
    · rw [hb.cell]; simpa using this.1
    · rw [hb.cell]; simpa using this.2
/-- the last span's end is set -/
theorem OwnS.setEnd {w : World} {B g cap : Nat} {M : SL} {s : Int × Int} (h : OwnS w B (.slice (some ⟨g, 0, none⟩) (M.length + 1) cap) (M ++ [s])) (n : Int) :
    OwnS (w.setCell ⟨g, M.length * 2 + 1, none⟩ (.int .i64 n)) B (.slice (some ⟨g, 0, none⟩) (M.length + 1) cap) (M ++ [(s.1, n)]) := by
  refine ⟨?_, fun e => by cases e⟩
  have h1 := h.row
  simp only [List.length_append, List.length_singleton] at h1 ⊢
  have h2 := (h1.stored (M.length * 2 + 1) (.int .i64 n)).1
  rw [encS_snoc] at h2 ⊢
  rw [List.set_append_right _ _ (by rw [encS_len]; omega), encS_len, show M.length * 2 + 1 - M.length * 2 = 1 by omega] at h2
  exact h2
end Go.Proofs.Ytinkifhbpbkhpaa
