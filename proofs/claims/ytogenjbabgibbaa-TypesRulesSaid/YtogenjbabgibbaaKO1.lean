import Derived.Test.YtogenjbabgibbaaKZ4
import Derived.ProofKit
import Derived.OpenShut
import Derived.ShutString
import Derived.ChangeOld
namespace Go.Proofs.Ytogenjbabgibbaa
open Go.ChangeShapes Go.WideShapes Go.ChangeAt Go.RowKit
/-- a slice that is read is not longer than a slice can be -/
theorem slice_len {H : Type} {enc : TypeId × Value → H} {w : World} {spare : Nat → Bool} {held : Bool} {t e : TypeId} {fuel : Nat} {a : Option Addr} {n k : Nat} {x : DataW H × List MemPlace} (ht : Try.prog.underlying t = some (.slice e))
    (h : DataW.trod enc Try.prog w 0 spare held fuel t [.slice a n k] = some x) : n ≤ 9223372036854775807 := by
  rcases Go.Deep.open_slice ht h with ⟨hc, _⟩ | ⟨a', len, cap, m, j, D, Pl, hc, _, hl, hm, _⟩
  · simp at hc; omega
  · simp at hc
    unfold maxLen at hm
    omega
set_option maxRecDepth 20000 in
theorem opens_UnitD : Opens Try.prog 69 RUnitD := fun enc w spare held fuel cs x h => by
  obtain ⟨xs, m, _, _, hl, hlen, hf⟩ := DataW.trod_struct Try.underlying69 h
  replace hl : cs.length = 5 := hl.trans (by kernel_rfl)
  replace hlen : xs.length = 5 := hlen
  match cs, hl, hf with
  | [c0, c1, c2, c3, c4], _, hf =>
  have h0 := hf 0 _ rfl
  rw [List.getElem?_eq_getElem (by omega)] at h0
  obtain ⟨y0, e0⟩ := opens_str (by kernel_rfl) enc w spare held m _ _ h0
  have h1 := hf 1 _ rfl
  rw [List.getElem?_eq_getElem (by omega)] at h1
  obtain ⟨y1, e1⟩ := opens_str (by kernel_rfl) enc w spare held m _ _ h1
  have h2 := hf 2 _ rfl
  rw [List.getElem?_eq_getElem (by omega)] at h2
  obtain ⟨y2, e2⟩ := opens_int (by kernel_rfl) enc w spare held m _ _ h2
  have h3 := hf 3 _ rfl
  rw [List.getElem?_eq_getElem (by omega)] at h3
  obtain ⟨y3, e3⟩ := opens_int (by kernel_rfl) enc w spare held m _ _ h3
  have h4 := hf 4 _ rfl
  rw [List.getElem?_eq_getElem (by omega)] at h4
  obtain ⟨y4, e4⟩ := opens_int (by kernel_rfl) enc w spare held m _ _ h4
  exact ⟨⟨y0, y1, y2, y3, y4⟩, [c0], [c1], [c2], [c3], [c4], rfl, e0, e1, e2, e3, e4⟩
set_option maxRecDepth 20000 in
theorem opens_TyD : Opens Try.prog 71 RTyD := fun enc w spare held fuel cs x h => by
  obtain ⟨xs, m, _, _, hl, hlen, hf⟩ := DataW.trod_struct Try.underlying71 h
  replace hl : cs.length = 6 := hl.trans (by kernel_rfl)
  replace hlen : xs.length = 6 := hlen
  match cs, hl, hf with
  | [c0, c1, c2, c3, c4, c5], _, hf =>
  have h0 := hf 0 _ rfl
  rw [List.getElem?_eq_getElem (by omega)] at h0
  obtain ⟨y0, e0⟩ := opens_int (by kernel_rfl) enc w spare held m _ _ h0
  have h1 := hf 1 _ rfl
  rw [List.getElem?_eq_getElem (by omega)] at h1
  obtain ⟨y1, e1⟩ := opens_int (by kernel_rfl) enc w spare held m _ _ h1
  have h2 := hf 2 _ rfl
  rw [List.getElem?_eq_getElem (by omega)] at h2
  obtain ⟨y2, e2⟩ := opens_int (by kernel_rfl) enc w spare held m _ _ h2
  have h3 := hf 3 _ rfl
  rw [List.getElem?_eq_getElem (by omega)] at h3
  obtain ⟨y3, e3⟩ := opens_str (by kernel_rfl) enc w spare held m _ _ h3
  have h4 := hf 4 _ rfl
  rw [List.getElem?_eq_getElem (by omega)] at h4
  obtain ⟨y4, e4⟩ := opens_int (by kernel_rfl) enc w spare held m _ _ h4
  have h5 := hf 5 _ rfl
  rw [List.getElem?_eq_getElem (by omega)] at h5
  obtain ⟨y5, e5⟩ := opens_slice (n := 1) (e := 9) (by kernel_rfl) (by kernel_rfl) (by decide) (opens_str (by kernel_rfl)) enc w spare held m _ _ h5
  exact ⟨⟨y0, y1, y2, y3, y4, y5⟩, [c0], [c1], [c2], [c3], [c4], [c5], rfl, e0, e1, e2, e3, e4, e5⟩
set_option maxRecDepth 20000 in
theorem opens_FieldD : Opens Try.prog 74 RFieldD := fun enc w spare held fuel cs x h => by
  obtain ⟨xs, m, _, _, hl, hlen, hf⟩ := DataW.trod_struct Try.underlying74 h
  replace hl : cs.length = 11 := hl.trans (by kernel_rfl)
  replace hlen : xs.length = 3 := hlen
  match cs, hl, hf with
  | [c0, c1, c2, c3, c4, c5, c6, c7, c8, c9, c10], _, hf =>
  have h0 := hf 0 _ rfl
  rw [List.getElem?_eq_getElem (by omega)] at h0
  obtain ⟨y0, e0⟩ := opens_str (by kernel_rfl) enc w spare held m _ _ h0
  have h1 := hf 1 _ rfl
  rw [List.getElem?_eq_getElem (by omega)] at h1
  obtain ⟨y1, e1⟩ := opens_TyD enc w spare held m _ _ h1
  have h2 := hf 2 _ rfl
  rw [List.getElem?_eq_getElem (by omega)] at h2
  obtain ⟨zs, m2, _, _, _, hzl, hz⟩ := DataW.trod_array Try.underlying72 h2
  have z0 := hz 0 (by decide)
  rw [List.getElem?_eq_getElem (by omega)] at z0
  obtain ⟨y2_0, e2_0⟩ := opens_int (P := Try.prog) (by kernel_rfl) enc w spare held m2 _ _ z0
  have z1 := hz 1 (by decide)
  rw [List.getElem?_eq_getElem (by omega)] at z1
  obtain ⟨y2_1, e2_1⟩ := opens_int (P := Try.prog) (by kernel_rfl) enc w spare held m2 _ _ z1
  have z2 := hz 2 (by decide)
  rw [List.getElem?_eq_getElem (by omega)] at z2
  obtain ⟨y2_2, e2_2⟩ := opens_int (P := Try.prog) (by kernel_rfl) enc w spare held m2 _ _ z2
  have z3 := hz 3 (by decide)
  rw [List.getElem?_eq_getElem (by omega)] at z3
  obtain ⟨y2_3, e2_3⟩ := opens_int (P := Try.prog) (by kernel_rfl) enc w spare held m2 _ _ z3
  exact ⟨⟨y0, y1, y2_0, y2_1, y2_2, y2_3⟩, [c0], [c1, c2, c3, c4, c5, c6], [c7], [c8], [c9], [c10], rfl, e0, e1, e2_0, e2_1, e2_2, e2_3⟩
set_option maxRecDepth 20000 in
theorem opens_SchemaD : Opens Try.prog 57 RSchemaD := fun enc w spare held fuel cs x h => by
  obtain ⟨xs, m, _, _, hl, hlen, hf⟩ := DataW.trod_struct Try.underlying57 h
  replace hl : cs.length = 6 := hl.trans (by kernel_rfl)
  replace hlen : xs.length = 6 := hlen
  match cs, hl, hf with
  | [c0, c1, c2, c3, c4, c5], _, hf =>
  have h0 := hf 0 _ rfl
  rw [List.getElem?_eq_getElem (by omega)] at h0
  obtain ⟨y0, e0⟩ := opens_str (by kernel_rfl) enc w spare held m _ _ h0
  have h1 := hf 1 _ rfl
  rw [List.getElem?_eq_getElem (by omega)] at h1
  obtain ⟨y1, e1⟩ := opens_str (by kernel_rfl) enc w spare held m _ _ h1
  have h2 := hf 2 _ rfl
  rw [List.getElem?_eq_getElem (by omega)] at h2
  obtain ⟨y2, e2⟩ := opens_int (by kernel_rfl) enc w spare held m _ _ h2
  have h3 := hf 3 _ rfl
  rw [List.getElem?_eq_getElem (by omega)] at h3
  obtain ⟨y3, e3⟩ := opens_int (by kernel_rfl) enc w spare held m _ _ h3
  have h4 := hf 4 _ rfl
  rw [List.getElem?_eq_getElem (by omega)] at h4
  obtain ⟨y4, e4⟩ := opens_slice (n := 11) (e := 74) (by kernel_rfl) (by kernel_rfl) (by decide) opens_FieldD enc w spare held m _ _ h4
  have h5 := hf 5 _ rfl
  rw [List.getElem?_eq_getElem (by omega)] at h5
  obtain ⟨y5, e5⟩ := opens_raw (P := Try.prog) (e := 150) (by kernel_rfl) enc w spare held m _ _ h5
  exact ⟨⟨y0, y1, y2, y3, y4, y5⟩, [c0], [c1], [c2], [c3], [c4], [c5], rfl, e0, e1, e2, e3, e4, e5⟩
set_option maxRecDepth 20000 in
theorem opens_TermD : Opens Try.prog 49 RTermD := fun enc w spare held fuel cs x h => by
  obtain ⟨xs, m, _, _, hl, hlen, hf⟩ := DataW.trod_struct Try.underlying49 h
  replace hl : cs.length = 5 := hl.trans (by kernel_rfl)
  replace hlen : xs.length = 5 := hlen
  match cs, hl, hf with
  | [c0, c1, c2, c3, c4], _, hf =>
  have h0 := hf 0 _ rfl
  rw [List.getElem?_eq_getElem (by omega)] at h0
  obtain ⟨y0, e0⟩ := opens_str (by kernel_rfl) enc w spare held m _ _ h0
  have h1 := hf 1 _ rfl
  rw [List.getElem?_eq_getElem (by omega)] at h1
  obtain ⟨y1, e1⟩ := opens_str (by kernel_rfl) enc w spare held m _ _ h1
  have h2 := hf 2 _ rfl
  rw [List.getElem?_eq_getElem (by omega)] at h2
  obtain ⟨y2, e2⟩ := opens_int (by kernel_rfl) enc w spare held m _ _ h2
  have h3 := hf 3 _ rfl
  rw [List.getElem?_eq_getElem (by omega)] at h3
  obtain ⟨y3, e3⟩ := opens_int (by kernel_rfl) enc w spare held m _ _ h3
  have h4 := hf 4 _ rfl
  rw [List.getElem?_eq_getElem (by omega)] at h4
  obtain ⟨y4, e4⟩ := opens_int (by kernel_rfl) enc w spare held m _ _ h4
  exact ⟨⟨y0, y1, y2, y3, y4⟩, [c0], [c1], [c2], [c3], [c4], rfl, e0, e1, e2, e3, e4⟩
set_option maxRecDepth 20000 in
theorem opens_FromD : Opens Try.prog 53 RFromD := fun enc w spare held fuel cs x h => by
  obtain ⟨xs, m, _, _, hl, hlen, hf⟩ := DataW.trod_struct Try.underlying53 h
  replace hl : cs.length = 8 := hl.trans (by kernel_rfl)
  replace hlen : xs.length = 4 := hlen
  match cs, hl, hf with
  | [c0, c1, c2, c3, c4, c5, c6, c7], _, hf =>
  have h0 := hf 0 _ rfl
  rw [List.getElem?_eq_getElem (by omega)] at h0
  obtain ⟨y0, e0⟩ := opens_str (by kernel_rfl) enc w spare held m _ _ h0
  have h1 := hf 1 _ rfl
  rw [List.getElem?_eq_getElem (by omega)] at h1
  obtain ⟨y1, e1⟩ := opens_str (by kernel_rfl) enc w spare held m _ _ h1
  have h2 := hf 2 _ rfl
  rw [List.getElem?_eq_getElem (by omega)] at h2
  obtain ⟨y2, e2⟩ := opens_int (by kernel_rfl) enc w spare held m _ _ h2
  have h3 := hf 3 _ rfl
  rw [List.getElem?_eq_getElem (by omega)] at h3
  obtain ⟨y3, e3⟩ := opens_TermD enc w spare held m _ _ h3
  exact ⟨⟨y0, y1, y2, y3⟩, [c0], [c1], [c2], [c3, c4, c5, c6, c7], rfl, e0, e1, e2, e3⟩
set_option maxRecDepth 20000 in
theorem opens_AtomD : Opens Try.prog 63 RAtomD := fun enc w spare held fuel cs x h => by
  obtain ⟨xs, m, _, _, hl, hlen, hf⟩ := DataW.trod_struct Try.underlying63 h
  replace hl : cs.length = 11 := hl.trans (by kernel_rfl)
  replace hlen : xs.length = 3 := hlen
  match cs, hl, hf with
  | [c0, c1, c2, c3, c4, c5, c6, c7, c8, c9, c10], _, hf =>
  have h0 := hf 0 _ rfl
  rw [List.getElem?_eq_getElem (by omega)] at h0
  obtain ⟨y0, e0⟩ := opens_int (by kernel_rfl) enc w spare held m _ _ h0
  have h1 := hf 1 _ rfl
  rw [List.getElem?_eq_getElem (by omega)] at h1
  obtain ⟨y1, e1⟩ := opens_TermD enc w spare held m _ _ h1
  have h2 := hf 2 _ rfl
  rw [List.getElem?_eq_getElem (by omega)] at h2
  obtain ⟨y2, e2⟩ := opens_TermD enc w spare held m _ _ h2
  exact ⟨⟨y0, y1, y2⟩, [c0], [c1, c2, c3, c4, c5], [c6, c7, c8, c9, c10], rfl, e0, e1, e2⟩
set_option maxRecDepth 20000 in
theorem opens_SetD : Opens Try.prog 61 RSetD := fun enc w spare held fuel cs x h => by
  obtain ⟨xs, m, _, _, hl, hlen, hf⟩ := DataW.trod_struct Try.underlying61 h
  replace hl : cs.length = 7 := hl.trans (by kernel_rfl)
  replace hlen : xs.length = 3 := hlen
  match cs, hl, hf with
  | [c0, c1, c2, c3, c4, c5, c6], _, hf =>
  have h0 := hf 0 _ rfl
  rw [List.getElem?_eq_getElem (by omega)] at h0
  obtain ⟨y0, e0⟩ := opens_str (by kernel_rfl) enc w spare held m _ _ h0
  have h1 := hf 1 _ rfl
  rw [List.getElem?_eq_getElem (by omega)] at h1
  obtain ⟨y1, e1⟩ := opens_int (by kernel_rfl) enc w spare held m _ _ h1
  have h2 := hf 2 _ rfl
  rw [List.getElem?_eq_getElem (by omega)] at h2
  obtain ⟨y2, e2⟩ := opens_TermD enc w spare held m _ _ h2
  exact ⟨⟨y0, y1, y2⟩, [c0], [c1], [c2, c3, c4, c5, c6], rfl, e0, e1, e2⟩
set_option maxRecDepth 20000 in
theorem opens_RuleD : Opens Try.prog 47 RRuleD := fun enc w spare held fuel cs x h => by
  obtain ⟨xs, m, _, _, hl, hlen, hf⟩ := DataW.trod_struct Try.underlying47 h
  replace hl : cs.length = 5 := hl.trans (by kernel_rfl)
  replace hlen : xs.length = 5 := hlen
  match cs, hl, hf with
  | [c0, c1, c2, c3, c4], _, hf =>
  have h0 := hf 0 _ rfl
  rw [List.getElem?_eq_getElem (by omega)] at h0
  obtain ⟨y0, e0⟩ := opens_str (by kernel_rfl) enc w spare held m _ _ h0
  have h1 := hf 1 _ rfl
  rw [List.getElem?_eq_getElem (by omega)] at h1
  obtain ⟨y1, e1⟩ := opens_int (by kernel_rfl) enc w spare held m _ _ h1
  have h2 := hf 2 _ rfl
  rw [List.getElem?_eq_getElem (by omega)] at h2
  obtain ⟨y2, e2⟩ := opens_slice (n := 8) (e := 53) (by kernel_rfl) (by kernel_rfl) (by decide) opens_FromD enc w spare held m _ _ h2
  have h3 := hf 3 _ rfl
  rw [List.getElem?_eq_getElem (by omega)] at h3
  obtain ⟨y3, e3⟩ := opens_slice (n := 11) (e := 63) (by kernel_rfl) (by kernel_rfl) (by decide) opens_AtomD enc w spare held m _ _ h3
  have h4 := hf 4 _ rfl
  rw [List.getElem?_eq_getElem (by omega)] at h4
  obtain ⟨y4, e4⟩ := opens_slice (n := 7) (e := 61) (by kernel_rfl) (by kernel_rfl) (by decide) opens_SetD enc w spare held m _ _ h4
  exact ⟨⟨y0, y1, y2, y3, y4⟩, [c0], [c1], [c2], [c3], [c4], rfl, e0, e1, e2, e3, e4⟩
set_option maxRecDepth 20000 in
theorem opens_RefD : Opens Try.prog 35 RRefD := fun enc w spare held fuel cs x h => by
  obtain ⟨xs, m, _, _, hl, hlen, hf⟩ := DataW.trod_struct Try.underlying35 h
  replace hl : cs.length = 4 := hl.trans (by kernel_rfl)
  replace hlen : xs.length = 4 := hlen
  match cs, hl, hf with
  | [c0, c1, c2, c3], _, hf =>
  have h0 := hf 0 _ rfl
  rw [List.getElem?_eq_getElem (by omega)] at h0
  obtain ⟨y0, e0⟩ := opens_str (by kernel_rfl) enc w spare held m _ _ h0
  have h1 := hf 1 _ rfl
  rw [List.getElem?_eq_getElem (by omega)] at h1
  obtain ⟨y1, e1⟩ := opens_str (by kernel_rfl) enc w spare held m _ _ h1
  have h2 := hf 2 _ rfl
  rw [List.getElem?_eq_getElem (by omega)] at h2
  obtain ⟨y2, e2⟩ := opens_int (by kernel_rfl) enc w spare held m _ _ h2
  have h3 := hf 3 _ rfl
  rw [List.getElem?_eq_getElem (by omega)] at h3
  obtain ⟨y3, e3⟩ := opens_int (by kernel_rfl) enc w spare held m _ _ h3
  exact ⟨⟨y0, y1, y2, y3⟩, [c0], [c1], [c2], [c3], rfl, e0, e1, e2, e3⟩
set_option maxRecDepth 20000 in
theorem opens_PurposeD : Opens Try.prog 77 RPurposeD := fun enc w spare held fuel cs x h => by
  obtain ⟨xs, m, _, _, hl, hlen, hf⟩ := DataW.trod_struct Try.underlying77 h
  replace hl : cs.length = 3 := hl.trans (by kernel_rfl)
  replace hlen : xs.length = 3 := hlen
  match cs, hl, hf with
  | [c0, c1, c2], _, hf =>
  have h0 := hf 0 _ rfl
  rw [List.getElem?_eq_getElem (by omega)] at h0
  obtain ⟨y0, e0⟩ := opens_str (by kernel_rfl) enc w spare held m _ _ h0
  have h1 := hf 1 _ rfl
  rw [List.getElem?_eq_getElem (by omega)] at h1
  obtain ⟨y1, e1⟩ := opens_slice (n := 4) (e := 35) (by kernel_rfl) (by kernel_rfl) (by decide) opens_RefD enc w spare held m _ _ h1
  have h2 := hf 2 _ rfl
  rw [List.getElem?_eq_getElem (by omega)] at h2
  obtain ⟨y2, e2⟩ := opens_int (by kernel_rfl) enc w spare held m _ _ h2
  exact ⟨⟨y0, y1, y2⟩, [c0], [c1], [c2], rfl, e0, e1, e2⟩
set_option maxRecDepth 20000 in
theorem opens_SourceD : Opens Try.prog 29 RSourceD := fun enc w spare held fuel cs x h => by
  obtain ⟨xs, m, _, _, hl, hlen, hf⟩ := DataW.trod_struct Try.underlying29 h
  replace hl : cs.length = 6 := hl.trans (by kernel_rfl)
  replace hlen : xs.length = 6 := hlen
  match cs, hl, hf with
  | [c0, c1, c2, c3, c4, c5], _, hf =>
  have h0 := hf 0 _ rfl
  rw [List.getElem?_eq_getElem (by omega)] at h0
  obtain ⟨y0, e0⟩ := opens_slice (n := 1) (e := 9) (by kernel_rfl) (by kernel_rfl) (by decide) (opens_str (by kernel_rfl)) enc w spare held m _ _ h0
  have h1 := hf 1 _ rfl
  rw [List.getElem?_eq_getElem (by omega)] at h1
  obtain ⟨y1, e1⟩ := opens_slice (n := 5) (e := 69) (by kernel_rfl) (by kernel_rfl) (by decide) opens_UnitD enc w spare held m _ _ h1
  have h2 := hf 2 _ rfl
  rw [List.getElem?_eq_getElem (by omega)] at h2
  obtain ⟨y2, e2⟩ := opens_slice (n := 6) (e := 57) (by kernel_rfl) (by kernel_rfl) (by decide) opens_SchemaD enc w spare held m _ _ h2
  have h3 := hf 3 _ rfl
  rw [List.getElem?_eq_getElem (by omega)] at h3
  obtain ⟨y3, e3⟩ := opens_slice (n := 5) (e := 47) (by kernel_rfl) (by kernel_rfl) (by decide) opens_RuleD enc w spare held m _ _ h3
  have h4 := hf 4 _ rfl
  rw [List.getElem?_eq_getElem (by omega)] at h4
  obtain ⟨y4, e4⟩ := opens_raw (P := Try.prog) (e := 148) (by kernel_rfl) enc w spare held m _ _ h4
  have h5 := hf 5 _ rfl
  rw [List.getElem?_eq_getElem (by omega)] at h5
  obtain ⟨y5, e5⟩ := opens_slice (n := 3) (e := 77) (by kernel_rfl) (by kernel_rfl) (by decide) opens_PurposeD enc w spare held m _ _ h5
  exact ⟨⟨y0, y1, y2, y3, y4, y5⟩, [c0], [c1], [c2], [c3], [c4], [c5], rfl, e0, e1, e2, e3, e4, e5⟩

set_option maxRecDepth 20000 in
/-- the source as it is handed over -/
theorem open_source {H : Type} {enc : TypeId × Value → H} {w : World} {spare : Nat → Bool} {held : Bool} {v : Value} {d : DataW H} {p : List MemPlace} {r : Reach} {b0 : Nat} (hv : Value.okWide Try.prog w r b0 29 v)
    (h : DataW.Trod enc Try.prog w 0 spare held 29 v d p) : ∃ (s : SourceD) (q : SrcAt), v = s.val q ∧ Src w s q ∧ Lens s := by
  obtain ⟨cs, rfl, hsz⟩ := okWide_struct Try.underlying29 hv
  obtain ⟨fuel, hf⟩ := h
  have hf' : DataW.trod enc Try.prog w 0 spare held fuel 29 cs.toList = some (d, p) := hf
  obtain ⟨s, hs⟩ := opens_SourceD enc w spare held fuel cs.toList _ hf'
  obtain ⟨xs, m, _, _, hl, hlen, hg⟩ := DataW.trod_struct Try.underlying29 hf'
  replace hlen : xs.length = 6 := hlen
  have h2 := hg 2 _ rfl
  have h3 := hg 3 _ rfl
  have h5 := hg 5 _ rfl
  rw [List.getElem?_eq_getElem (by omega)] at h2 h3 h5
  obtain ⟨q, hq, hsrc⟩ := hs.src
  have e : cs = #[.slice q.a0 s.issuers.length q.k0, .slice q.a1 s.units.length q.k1, .slice q.a2 s.schemas.length q.k2, .slice q.a3 s.rules.length q.k3, .slice q.a4 s.converts q.k4, .slice q.a5 s.purposes.length q.k5] := by simpa using hq
  refine ⟨s, q, by rw [e], hsrc, ?_⟩
  rw [e] at h2 h3 h5
  exact ⟨slice_len (e := 57) (by kernel_rfl) h2, slice_len (e := 47) (by kernel_rfl) h3, slice_len (e := 77) (by kernel_rfl) h5⟩
end Go.Proofs.Ytogenjbabgibbaa
