/- Part 5 of the walks and laws that these claims rest on. No condition. -/
import Derived.Test.YtbmcepkccenoaaaPart4
set_option linter.all false
set_option linter.unusedSimpArgs false
set_option linter.unusedVariables false
set_option linter.unnecessarySimpa false
namespace Go.Proofs.Ytbmcepkccenoaaa
open Go.ChangeShapes Go.WideShapes Go.ChangeAt Go.RowKit

/-! The arguments of the laws. -/
set_option maxRecDepth 20000 in
theorem opd_vote : OpD Try.prog 52 VoteD.c (fun _ => True) := fun enc w spare held fuel cs x h => by
  obtain ⟨xs, m, _, _, hl, hlen, hf⟩ := DataW.trod_struct Try.underlying52 h
  replace hl : cs.length = 3 := hl.trans (by kernel_rfl)
  replace hlen : xs.length = 3 := hlen
  match cs, hl, hf with
  | [c0, c1, c2], _, hf =>
    have h0 := hf 0 _ rfl
    rw [List.getElem?_eq_getElem (by omega)] at h0
    have h1 := hf 1 _ rfl
    rw [List.getElem?_eq_getElem (by omega)] at h1
    have h2 := hf 2 _ rfl
    rw [List.getElem?_eq_getElem (by omega)] at h2
    obtain ⟨y0, _, _, e0⟩ := opd_int (P := Try.prog) (by kernel_rfl) enc w spare held m [c0] _ h0
    obtain ⟨y1, _, _, e1⟩ := opd_int (P := Try.prog) (by kernel_rfl) enc w spare held m [c1] _ h1
    obtain ⟨y2, _, _, e2⟩ := opd_int (P := Try.prog) (by kernel_rfl) enc w spare held m [c2] _ h2
    refine ⟨⟨y0, y1, y2⟩, trivial, rfl, fun i d v hd hv => ?_⟩
    match i, hd, hv with
    | 0, hd, hv => cases hd; cases hv; exact e0 0 _ _ rfl rfl
    | 1, hd, hv => cases hd; cases hv; exact e1 0 _ _ rfl rfl
    | 2, hd, hv => cases hd; cases hv; exact e2 0 _ _ rfl rfl
abbrev intsOK (p : Bool × List Int) : Prop := (p.1 = true → p.2 = []) ∧ (∀ x ∈ p.2, True) ∧ p.2.length ≤ maxLen
theorem opd_ints : OpD Try.prog 22 (slC 1 intC) intsOK := opd_slice (n := 1) (e := 3) (by kernel_rfl) (by kernel_rfl) (by decide) (opd_int (by kernel_rfl)) (fun _ => rfl)
theorem opd_bytes : OpD Try.prog 36 (slC 1 u8C) (fun p => (p.1 = true → p.2 = []) ∧ (∀ x ∈ p.2, True) ∧ p.2.length ≤ maxLen) := opd_slice (n := 1) (e := 5) (by kernel_rfl) (by kernel_rfl) (by decide) (opd_u8 (by kernel_rfl)) (fun _ => rfl)
theorem opd_votes : OpD Try.prog 25 (slC 3 VoteD.c) (fun p => (p.1 = true → p.2 = []) ∧ (∀ x ∈ p.2, True) ∧ p.2.length ≤ maxLen) := opd_slice (n := 3) (e := 52) (by kernel_rfl) (by kernel_rfl) (by decide) opd_vote (fun _ => rfl)
abbrev FenceD.c (f : FenceD) : List D := [.int .i64 (.var f.no), .slm 1 (some (.var f.nil)) intC f.devices]
set_option maxRecDepth 20000 in
theorem opd_fence : OpD Try.prog 24 FenceD.c (fun f => (f.nil = true → f.devices = []) ∧ f.devices.length ≤ maxLen) := fun enc w spare held fuel cs x h => by
  obtain ⟨xs, m, _, _, hl, hlen, hf⟩ := DataW.trod_struct Try.underlying24 h
  replace hl : cs.length = 2 := hl.trans (by kernel_rfl)
  replace hlen : xs.length = 2 := hlen
  match cs, hl, hf with
  | [c0, c1], _, hf =>
    have h0 := hf 0 _ rfl
    rw [List.getElem?_eq_getElem (by omega)] at h0
    have h1 := hf 1 _ rfl
    rw [List.getElem?_eq_getElem (by omega)] at h1
    obtain ⟨y0, _, _, e0⟩ := opd_int (P := Try.prog) (by kernel_rfl) enc w spare held m [c0] _ h0
    obtain ⟨y1, k1, _, e1⟩ := opd_ints enc w spare held m [c1] _ h1
    refine ⟨⟨y0, y1.1, y1.2⟩, ⟨k1.1, k1.2.2⟩, rfl, fun i d v hd hv => ?_⟩
    match i, hd, hv with
    | 0, hd, hv => cases hd; cases hv; exact e0 0 _ _ rfl rfl
    | 1, hd, hv => cases hd; cases hv; exact e1 0 _ _ rfl rfl
set_option maxRecDepth 20000 in
theorem opd_share : OpD Try.prog 39 ShareD.c (fun s => (s.nil = true → s.data = []) ∧ s.data.length ≤ maxLen) := fun enc w spare held fuel cs x h => by
  obtain ⟨xs, m, _, _, hl, hlen, hf⟩ := DataW.trod_struct Try.underlying39 h
  replace hl : cs.length = 5 := hl.trans (by kernel_rfl)
  replace hlen : xs.length = 5 := hlen
  match cs, hl, hf with
  | [c0, c1, c2, c3, c4], _, hf =>
    have h0 := hf 0 _ rfl
    rw [List.getElem?_eq_getElem (by omega)] at h0
    have h1 := hf 1 _ rfl
    rw [List.getElem?_eq_getElem (by omega)] at h1
    have h2 := hf 2 _ rfl
    rw [List.getElem?_eq_getElem (by omega)] at h2
    have h3 := hf 3 _ rfl
    rw [List.getElem?_eq_getElem (by omega)] at h3
    have h4 := hf 4 _ rfl
    rw [List.getElem?_eq_getElem (by omega)] at h4
    obtain ⟨y0, _, _, e0⟩ := opd_int (P := Try.prog) (by kernel_rfl) enc w spare held m [c0] _ h0
    obtain ⟨y1, _, _, e1⟩ := opd_int (P := Try.prog) (by kernel_rfl) enc w spare held m [c1] _ h1
    obtain ⟨y2, _, _, e2⟩ := opd_int (P := Try.prog) (by kernel_rfl) enc w spare held m [c2] _ h2
    obtain ⟨y3, _, _, e3⟩ := opd_int (P := Try.prog) (by kernel_rfl) enc w spare held m [c3] _ h3
    obtain ⟨y4, k4, _, e4⟩ := opd_bytes enc w spare held m [c4] _ h4
    refine ⟨⟨y0, y1, y2, y3, y4.1, y4.2⟩, ⟨k4.1, k4.2.2⟩, rfl, fun i d v hd hv => ?_⟩
    match i, hd, hv with
    | 0, hd, hv => cases hd; cases hv; exact e0 0 _ _ rfl rfl
    | 1, hd, hv => cases hd; cases hv; exact e1 0 _ _ rfl rfl
    | 2, hd, hv => cases hd; cases hv; exact e2 0 _ _ rfl rfl
    | 3, hd, hv => cases hd; cases hv; exact e3 0 _ _ rfl rfl
    | 4, hd, hv => cases hd; cases hv; exact e4 0 _ _ rfl rfl
theorem opd_shares : OpD Try.prog 37 (slC 5 ShareD.c) (fun p => (p.1 = true → p.2 = []) ∧ (∀ x ∈ p.2, (x.nil = true → x.data = []) ∧ x.data.length ≤ maxLen) ∧ p.2.length ≤ maxLen) := opd_slice (n := 5) (e := 39) (by kernel_rfl) (by kernel_rfl) (by decide) opd_share (fun _ => rfl)
set_option maxRecDepth 20000 in
theorem opd_digest : OpD Try.prog 35 (fun l : List (BitVec 8) => l.map fun b => u8D b) (fun l => l.length = 32) := fun enc w spare held fuel cs x h => by
  obtain ⟨xs, m, _, _, hl, hlen, hf⟩ := DataW.trod_array (P := Try.prog) (t := 35) (n := 32) (e := 5) (by kernel_rfl) h
  replace hl : cs.length = 32 := hl.trans (by kernel_rfl)
  have e1 : Try.prog.cellsOf 5 = 1 := by kernel_rfl
  have key : ∀ i, i < 32 → ∃ b : BitVec 8, ∀ v, cs[i]? = some v → DRep w (allE w) (u8D b) v := fun i hi => by
    have h0 := hf i hi
    rw [List.getElem?_eq_getElem (by omega), e1] at h0
    obtain ⟨y, _, _, e⟩ := opd_u8 (P := Try.prog) (by kernel_rfl) enc w spare held m _ _ h0
    refine ⟨y, fun v hv => e 0 _ _ rfl ?_⟩
    rw [List.getElem?_take, if_pos (by decide), List.getElem?_drop]
    simpa using hv
  obtain ⟨z, hz⟩ := Go.Deep.choose_lt key
  refine ⟨(List.range 32).map z, by simp, by simp [hl], fun i d v hd hv => ?_⟩
  have hi : i < 32 := by have := (List.getElem?_eq_some_iff.1 hv).1; omega
  simp only [List.getElem?_map, List.getElem?_range hi, Option.map_some, Option.some.injEq] at hd
  subst hd
  exact hz i hi v hv
theorem okWide_agg {P : Program} {w : World} {r : Reach} {b0 : Nat} {t e : TypeId} {n : Nat} {v : Value} (ht : P.underlying t = some (.array n e)) (h : Value.okWide P w r b0 t v) : ∃ cs, v = .agg cs := by
  simp only [Value.okWide, ht, Cell.okWide] at h
  cases v <;> simp_all
set_option maxRecDepth 20000 in
theorem open_digest {H : Type} {enc : TypeId × Value → H} {w : World} {spare : Nat → Bool} {held : Bool} {v : Value} {d : DataW H} {p : List MemPlace} {r : Reach} {b0 : Nat} (hv : Value.okWide Try.prog w r b0 35 v) (h : DataW.Trod enc Try.prog w 0 spare held 35 v d p) : ∃ l : List (BitVec 8), l.length = 32 ∧ DRep w (allE w) (.agg (l.map fun b => u8D b)) v := by
  obtain ⟨cs, rfl⟩ := okWide_agg (n := 32) (e := 5) (by kernel_rfl) hv
  obtain ⟨fuel, hf⟩ := h
  obtain ⟨a, h1, h2, h3⟩ := opd_digest enc w spare held fuel cs.toList _ hf
  exact ⟨a, h1, .agg (by rw [← h2]; simp) fun i d v hd hv => h3 i d v hd (by simpa using hv)⟩
end Go.Proofs.Ytbmcepkccenoaaa
