import Derived.Test.YtogenjbabgibbaaKL2
import Derived.Test.YtogenjbabgibbaaKE4
import Derived.Test.YtogenjbabgibbaaKO1
namespace Go.Proofs.Ytogenjbabgibbaa
open Go.ChangeShapes Go.WideShapes Go.ChangeAt Go.RowKit
theorem few_q (s : SourceD) (p : SrcAt) (w : World) (hs : Src w s p) (hn : Lens s) (r : Bool) (hr : fewB s = r) :
    Calls Try.prog 10 #[s.val p] w fun e w' => e = .returned (.bool r) ∧ Below w.heap.size w w' := by
  subst hr
  exact few_any s p w hs hn
theorem check_q (s : SourceD) (p : SrcAt) (w : World) (hs : Src w s p) (hf : fewB s = true) (r : Int) (hr : checkB s = r) :
    Calls Try.prog 11 #[s.val p] w fun e w' => e = .returned (.int .i64 r) ∧ Below w.heap.size w w' := by
  subst hr
  exact check_any s p w hs (few_of hf)
set_option maxRecDepth 20000 in
/-- a ref as it is handed over -/
theorem open_ref {H : Type} {enc : TypeId × Value → H} {w : World} {spare : Nat → Bool} {held : Bool} {v : Value} {d : DataW H} {p : List MemPlace} {r : Reach} {b0 : Nat} (hv : Value.okWide Try.prog w r b0 35 v)
    (h : DataW.Trod enc Try.prog w 0 spare held 35 v d p) : ∃ x : RefD, v = x.val := by
  obtain ⟨cs, rfl, hsz⟩ := okWide_struct Try.underlying35 hv
  obtain ⟨fuel, hf⟩ := h
  have hf' : DataW.trod enc Try.prog w 0 spare held fuel 35 cs.toList = some (d, p) := hf
  obtain ⟨x, hx⟩ := opens_RefD enc w spare held fuel cs.toList _ hf'
  obtain ⟨e, _⟩ := hx.flat
  refine ⟨x, ?_⟩
  have : cs = #[.string x.name, .string x.path, .int .i64 x.schema, .int .i64 x.field] := by
    apply Array.ext'
    simpa using e
  rw [this]
/-- the head of the laws: sane, and the source is small, or not -/
theorem typeOf?_there {s : SourceD} {i j : Int} (h : ¬ (typeOf? s i j = none)) : 0 ≤ i ∧ i < s.schemas.length ∧ 0 ≤ j ∧ ∃ h1 : i.toNat < s.schemas.length, j < s.schemas[i.toNat].fields.length := by
  by_cases h1 : 0 ≤ i ∧ i < s.schemas.length ∧ 0 ≤ j
  · have hl : i.toNat < s.schemas.length := by omega
    by_cases h2 : j < s.schemas[i.toNat].fields.length
    · exact ⟨h1.1, h1.2.1, h1.2.2, hl, h2⟩
    · exact absurd (typeOf?_out2 hl h2) h
  · exact absurd (typeOf?_out1 h1) h
end Go.Proofs.Ytogenjbabgibbaa
