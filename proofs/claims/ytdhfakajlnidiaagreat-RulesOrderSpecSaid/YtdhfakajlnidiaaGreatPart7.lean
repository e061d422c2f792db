/- Part 7 of the walks and laws that these claims rest on. No condition. -/
import Derived.ProofKit
import Derived.OpenShut
import Derived.ShutString
import Derived.ChangeOld
import Derived.Test.YtdhfakajlnidiaaGreatProg
import Derived.Maps.OwnSet
import Derived.Maps.Views
import Derived.Maps.OwnOps
import Derived.BigQuiet
import Derived.Deep.QuietTactic
import Derived.Test.YtdhfakajlnidiaaGreatPart6
set_option linter.all false
set_option linter.unusedSimpArgs false
set_option linter.unusedVariables false
set_option linter.unnecessarySimpa false
namespace Go.Proofs.YtdhfakajlnidiaaGreat
open Go.ChangeShapes Go.WideShapes Go.ChangeAt Go.RowKit

/-! From the form's reading of the arguments to data. -/
def allE (w : World) : Env := Env.of fun b => b < w.heap.size
/-- every reading of type t by the form gives data -/
def OpD (P : Program) (t : TypeId) {α : Type} (c : α → List D) (ok : α → Prop) : Prop :=
  ∀ {H : Type} (enc : TypeId × Value → H) (w : World) (spare : Nat → Bool) (held : Bool) (fuel : Nat) (cs : List Value) (x : DataW H × List MemPlace),
    DataW.trod enc P w 0 spare held fuel t cs = some x → ∃ a, ok a ∧ cs.length = (c a).length ∧ ∀ (i : Nat) d v, (c a)[i]? = some d → cs[i]? = some v → DRep w (allE w) d v
theorem InR.of_wf {k : IntKind} {z : Int} (h : (Lit.int k z).wf = true) : InR k z := by
  simpa [Lit.wf, InR] using h
theorem opd_int {P : Program} {t : TypeId} (ht : P.underlying t = some (.int .i64)) : OpD P t (fun x : Int => [.int .i64 (.var x)]) (fun _ => True) := fun enc w spare held fuel cs x h => by
  obtain ⟨z, rfl, _, h2⟩ := DataW.trod_int ht h
  refine ⟨z, trivial, rfl, fun i d v hd hv => ?_⟩
  match i, hd, hv with
  | 0, hd, hv => cases hd; cases hv; exact .int (e := .var z) (InR.of_wf h2)
theorem opd_u8 {P : Program} {t : TypeId} (ht : P.underlying t = some (.int .u8)) : OpD P t (fun b : BitVec 8 => [.int .u8 (.u8 b)]) (fun _ => True) := fun enc w spare held fuel cs x h => by
  obtain ⟨z, rfl, _, h2⟩ := DataW.trod_int ht h
  have hz := InR.of_wf h2
  have hz2 : 0 ≤ z ∧ z ≤ 255 := by unfold InR IntKind.min IntKind.max at hz; simpa [IntKind.signed, IntKind.bits] using hz
  have e : (IE.u8 (BitVec.ofInt 8 z)).den = z := by
    simp only [IE.den, BitVec.toNat_ofInt]
    omega
  refine ⟨BitVec.ofInt 8 z, trivial, rfl, fun i d v hd hv => ?_⟩
  match i, hd, hv with
  | 0, hd, hv =>
    cases hd; cases hv
    have := DRep.int (w := w) (E := allE w) (k := .u8) (e := .u8 (BitVec.ofInt 8 z)) (by rw [e]; exact hz)
    rwa [e] at this
theorem opd_bool {P : Program} {t : TypeId} (ht : P.underlying t = some .bool) : OpD P t (fun b : Bool => [.bool (.var b)]) (fun _ => True) := fun enc w spare held fuel cs x h => by
  obtain ⟨z, rfl, _⟩ := DataW.trod_bool ht h
  refine ⟨z, trivial, rfl, fun i d v hd hv => ?_⟩
  match i, hd, hv with
  | 0, hd, hv => cases hd; cases hv; exact .bool (e := .var z)
abbrev slC {α : Type} (n : Nat) (c : α → List D) (p : Bool × List α) : List D := [.slm n (some (.var p.1)) c p.2]
theorem opd_slice {α : Type} {P : Program} {t e : TypeId} {n : Nat} {c : α → List D} {ok : α → Prop} (ht : P.underlying t = some (.slice e)) (hn : P.cellsOf e = n) (hpos : 0 < n) (hR : OpD P e c ok) (hc : ∀ a, (c a).length = n) :
    OpD P t (slC n c) (fun p => (p.1 = true → p.2 = []) ∧ (∀ x ∈ p.2, ok x) ∧ p.2.length ≤ maxLen) := fun enc w spare held fuel cs x h => by
  rcases Go.Deep.open_slice ht h with ⟨rfl, _⟩ | ⟨a, len, cap, m, k, D, Pl, rfl, _, hl, hm, hmm, _, hx⟩
  · refine ⟨(true, []), ⟨fun _ => rfl, fun x h => by simp at h, by simp⟩, rfl, fun i d v hd hv => ?_⟩
    match i, hd, hv with
    | 0, hd, hv =>
      cases hd; cases hv
      exact DRep.slm (a := none) (fun _ _ => undef) (fun e he => by cases he; rfl) (Nat.le_refl _) (Nat.zero_le _) (fun x hx => by simp at hx) (fun h => absurd rfl h) (fun i x j d h => by simp at h)
  · have hlm : len ≤ m := by rw [hmm]; split <;> omega
    have e0 : ∀ i, i < m → ∃ z : α, ∃ es, (ok z ∧ es.length = (c z).length ∧ ∀ (i : Nat) d v, (c z)[i]? = some d → es[i]? = some v → DRep w (allE w) d v) ∧ w.cells? 0 (a.add (i * n)) n = some es := fun i hi => by
      obtain ⟨es, h2, h3⟩ := hx i hi
      rw [hn] at h2
      obtain ⟨z, hz⟩ := hR enc w spare held k es _ h3
      exact ⟨z, es, hz, h2⟩
    by_cases h0 : len = 0
    · subst h0
      refine ⟨(false, []), ⟨fun h => by simp at h, fun x h => by simp at h, by simp⟩, rfl, fun i d v hd hv => ?_⟩
      match i, hd, hv with
      | 0, hd, hv =>
        cases hd; cases hv
        exact DRep.slm (a := some a) (fun _ _ => undef) (fun e he => by cases he; rfl) (Nat.zero_le _) hm (fun x hx => by simp at hx) (fun h => absurd rfl h) (fun i x j d h => by simp at h)
    · obtain ⟨z0, _⟩ := e0 0 (by omega)
      have : Inhabited α := ⟨z0⟩
      obtain ⟨z, hz⟩ := Go.Deep.choose_lt e0
      obtain ⟨b, off, spot⟩ := a
      have hspot : spot = none := by
        obtain ⟨es0, _, hc0⟩ := hz 0 (by omega)
        obtain ⟨_, hlen0, hcell0⟩ := World.cells?_some hc0
        have this := hcell0 0 hpos
        rw [List.getElem?_eq_getElem (by omega)] at this
        have h9 := World.cell?_spot this
        simpa [Addr.add] using h9
      subst hspot
      have cell : ∀ i, i < len → ∃ es : List Value, (∀ j, j < n → w.cell? ⟨b, off + i * n + j, none⟩ = es[j]?) ∧ es.length = n ∧ (ok (z i) ∧ es.length = (c (z i)).length ∧ ∀ (j : Nat) d v, (c (z i))[j]? = some d → es[j]? = some v → DRep w (allE w) d v) := fun i hi => by
        obtain ⟨es, hr, hcc⟩ := hz i (by omega)
        obtain ⟨_, hlen, hcell⟩ := World.cells?_some hcc
        refine ⟨es, fun j hj => ?_, hlen, hr⟩
        have := hcell j hj
        rw [add_none, add_none] at this
        exact this
      have hbl : b < w.heap.size := by
        obtain ⟨es, h1, h2, _⟩ := cell 0 (by omega)
        have := h1 0 hpos
        rw [List.getElem?_eq_getElem (by omega)] at this
        exact World.block_lt_of_cell? w ⟨b, _, none⟩ this
      refine ⟨(false, (List.range len).map z), ⟨fun h => by simp at h, fun x hx => ?_, by simp; omega⟩, rfl, fun i d v hd hv => ?_⟩
      · simp only [List.mem_map, List.mem_range] at hx
        obtain ⟨i, hi, rfl⟩ := hx
        obtain ⟨_, _, _, h3, _⟩ := cell i hi
        exact h3
      · match i, hd, hv with
        | 0, hd, hv =>
          cases hd; cases hv
          have hl2 : ((List.range len).map z).length = len := by simp
          have key := DRep.slm (w := w) (E := allE w) (n := n) (nb := some (.var false)) (c := c) (l := (List.range len).map z) (a := some ⟨b, off, none⟩) (cap := cap) (fun i j => (w.cell? ⟨b, off + i * n + j, none⟩).getD undef) (fun e he => by cases he; rfl) (by omega) hm (fun x hx => hc x) (fun _ => ⟨b, off, rfl, hbl, fun i j hi hj => ?_⟩) fun i x j d hx hd => ?_
          · rwa [hl2] at key
          · obtain ⟨es, h1, h2, _⟩ := cell i (by omega)
            rw [h1 j hj, List.getElem?_eq_getElem (by omega)]
            rfl
          · simp only [List.getElem?_map, Option.map_eq_some_iff] at hx
            obtain ⟨i', hi', rfl⟩ := hx
            obtain ⟨hlt, rfl⟩ := List.getElem?_eq_some_iff.1 hi'
            simp only [List.getElem_range] at hd ⊢
            obtain ⟨es, h1, h2, _, h3, h4⟩ := cell i (by simpa using hlt)
            have hj := (List.getElem?_eq_some_iff.1 hd).1
            rw [h1 j (by omega), List.getElem?_eq_getElem (by omega)]
            exact h4 j d _ hd (List.getElem?_eq_getElem (by omega))
section
variable {H : Type} {enc : TypeId × Value → H} {P : Program} {w : World} {spare : Nat → Bool} {held : Bool} {v : Value} {d : DataW H} {p : List MemPlace} {r : Reach} {b0 : Nat} {t : TypeId} {α : Type}
theorem open_sl {e : TypeId} {n : Nat} {c : α → List D} {ok : Bool × List α → Prop} (ht : P.underlying t = some (.slice e)) (ho : OpD P t (slC n c) ok) (hv : Value.okWide P w r b0 t v) (h : DataW.Trod enc P w 0 spare held t v d p) : ∃ p, ok p ∧ DRep w (allE w) (.slm n (some (.var p.1)) c p.2) v := by
  obtain ⟨a, m, k, rfl⟩ := okWide_slice ht hv
  obtain ⟨fuel, hf⟩ := h
  obtain ⟨p, h1, h2, h3⟩ := ho enc w spare held fuel _ _ hf
  exact ⟨p, h1, h3 0 _ _ rfl rfl⟩
theorem open_st {fs : Array Field} {c : α → List D} {ok : α → Prop} (ht : P.underlying t = some (.struct fs)) (ho : OpD P t c ok) (hv : Value.okWide P w r b0 t v) (h : DataW.Trod enc P w 0 spare held t v d p) : ∃ a, ok a ∧ DRep w (allE w) (.agg (c a)) v := by
  obtain ⟨cs, rfl, _⟩ := okWide_struct ht hv
  obtain ⟨fuel, hf⟩ := h
  obtain ⟨a, h1, h2, h3⟩ := ho enc w spare held fuel cs.toList _ hf
  exact ⟨a, h1, .agg (by rw [← h2]; simp) fun i d v hd hv => h3 i d v hd (by simpa using hv)⟩
theorem open_i (ht : P.underlying t = some (.int .i64)) (hv : Value.okWide P w r b0 t v) (h : DataW.Trod enc P w 0 spare held t v d p) : ∃ z, InR .i64 z ∧ DRep w (allE w) (.int .i64 (.var z)) v := by
  obtain ⟨z, rfl, rfl, rfl, wf⟩ := open_int ht hv h
  exact ⟨z, InR.of_wf wf, .int (e := .var z) (InR.of_wf wf)⟩
end
theorem LRep.nil {w : World} {E : Env} : LRep w E [] #[] := ⟨rfl, fun i d v h => by simp at h⟩
theorem lrep_cons {w : World} {E : Env} {d : D} {l : List D} {v : Value} {vs : List Value} (h : DRep w E d v) (r : LRep w E l ⟨vs⟩) : LRep w E (d :: l) ⟨v :: vs⟩ := by
  refine ⟨by have := r.1; simp at this ⊢; omega, fun i d' v' hd hv => ?_⟩
  cases i with
  | zero => simp at hd hv; subst hd hv; exact h
  | succ i => exact r.2 i d' v' (by simpa using hd) (by simpa using hv)
theorem Pure.law {P : Program} {f : Nat} {args : List D} {w : World} {vs : List Value} (h : Pure P f args (.bool (.var true))) (hL : Laid w (allE w).G) (hr : LRep w (allE w) args ⟨vs⟩) : Calls P f ⟨vs⟩ w fun e w' => e = .returned (.bool true) ∧ Below w.heap.size w w' := by
  refine (h.2 w _ _ hL (fun _ hb => hb) hr).mono ?_
  rintro e w' ⟨v, G', rfl, h2, _, _, _, h6⟩
  cases h6
  exact ⟨rfl, h2⟩
theorem open_u8 {H : Type} {enc : TypeId × Value → H} {P : Program} {w : World} {spare : Nat → Bool} {held : Bool} {v : Value} {d : DataW H} {p : List MemPlace} {r : Reach} {b0 : Nat} {t : TypeId} (ht : P.underlying t = some (.int .u8)) (hv : Value.okWide P w r b0 t v) (h : DataW.Trod enc P w 0 spare held t v d p) : ∃ b : BitVec 8, DRep w (allE w) (.int .u8 (.u8 b)) v := by
  obtain ⟨z, rfl, _, _, _⟩ := open_int ht hv h
  obtain ⟨fuel, hf⟩ := h
  obtain ⟨b, _, _, h3⟩ := opd_u8 ht enc w spare held fuel _ _ hf
  exact ⟨b, h3 0 _ _ rfl rfl⟩
end Go.Proofs.YtdhfakajlnidiaaGreat
namespace Go.Proofs.YtdhfakajlnidiaaGreat
open Go.RowKit

/-! The types of the program, and its data as lists and numbers. -/
def TL : TabL :=
  [(3, ⟨.int .i64, 1, 8, .int .i64 0⟩),
   (4, ⟨.bool, 1, 1, .bool false⟩),
   (32, ⟨.slice 3, 1, 24, .slice none 0 0⟩),
   (29, ⟨.struct [(0, 1, false), (1, 1, false), (2, 1, false), (3, 1, false), (4, 1, false), (5, 1, false)], 6, 144, .agg #[.slice none 0 0, .slice none 0 0, .slice none 0 0, .slice none 0 0, .slice none 0 0, .slice none 0 0]⟩),
   (33, ⟨.int .i64, 1, 8, .int .i64 0⟩),
   (51, ⟨.struct [(0, 1, false), (1, 1, false), (2, 1, false), (3, 1, false), (4, 1, false), (5, 1, false)], 6, 72, .agg #[.int .i64 0, .int .i64 0, .int .i64 0, .string ⟨#[]⟩, .int .i64 0, .slice none 0 0]⟩),
   (24, ⟨.slice 49, 1, 24, .slice none 0 0⟩),
   (25, ⟨.slice 45, 1, 24, .slice none 0 0⟩),
   (65, ⟨.struct [(0, 1, false), (1, 1, false)], 2, 16, .agg #[.int .i64 0, .map none]⟩),
   (45, ⟨.struct [(0, 1, false), (1, 1, false), (2, 1, false), (3, 1, false), (4, 1, false)], 5, 96, .agg #[.string ⟨#[]⟩, .int .i64 0, .slice none 0 0, .slice none 0 0, .slice none 0 0]⟩),
   (97, ⟨.struct [(0, 6, true)], 6, 144, .agg #[.slice none 0 0, .slice none 0 0, .slice none 0 0, .slice none 0 0, .slice none 0 0, .slice none 0 0]⟩),
   (41, ⟨.slice 78, 1, 24, .slice none 0 0⟩),
   (22, ⟨.slice 9, 1, 24, .slice none 0 0⟩),
   (99, ⟨.struct [(0, 6, true), (6, 5, true)], 11, 240, .agg #[.slice none 0 0, .slice none 0 0, .slice none 0 0, .slice none 0 0, .slice none 0 0, .slice none 0 0, .string ⟨#[]⟩, .int .i64 0, .slice none 0 0, .slice none 0 0, .slice none 0 0]⟩),
   (84, ⟨.map 3 4, 1, 8, .map none⟩),
   (74, ⟨.slice 32, 1, 24, .slice none 0 0⟩),
   (76, ⟨.struct [(0, 1, false), (1, 1, false), (2, 1, false), (3, 1, false), (4, 1, false)], 5, 56, .agg #[.string ⟨#[]⟩, .string ⟨#[]⟩, .int .i64 0, .int .i64 0, .int .i64 0]⟩),
   (89, ⟨.slice 3, 1, 24, .slice none 0 0⟩),
   (169, ⟨.int .u64, 1, 8, .int .u64 0⟩),
   (78, ⟨.struct [(0, 1, false), (1, 1, false), (2, 1, false), (3, 5, true)], 8, 96, .agg #[.string ⟨#[]⟩, .string ⟨#[]⟩, .int .i64 0, .string ⟨#[]⟩, .string ⟨#[]⟩, .int .i64 0, .int .i64 0, .int .i64 0]⟩),
   (23, ⟨.slice 103, 1, 24, .slice none 0 0⟩),
   (49, ⟨.struct [(0, 1, false), (1, 1, false), (2, 1, false), (3, 1, false), (4, 1, false), (5, 1, false)], 6, 96, .agg #[.string ⟨#[]⟩, .string ⟨#[]⟩, .int .i64 0, .int .i64 0, .slice none 0 0, .slice none 0 0]⟩),
   (46, ⟨.slice 54, 1, 24, .slice none 0 0⟩),
   (168, ⟨.int .u64, 1, 8, .int .u64 0⟩),
   (81, ⟨.map 3 3, 1, 8, .map none⟩),
   (63, ⟨.map 3 84, 1, 8, .map none⟩),
   (139, ⟨.int .u64, 1, 8, .int .u64 0⟩),
   (27, ⟨.slice 62, 1, 24, .slice none 0 0⟩),
   (88, ⟨.ptr 91, 1, 8, .pointer none⟩),
   (117, ⟨.other, 1, 16, .nilIface⟩),
   (166, ⟨.int .u32, 1, 4, .int .u32 0⟩),
   (103, ⟨.struct [(0, 1, false), (1, 1, false), (2, 1, false), (3, 1, false), (4, 1, false)], 5, 56, .agg #[.string ⟨#[]⟩, .string ⟨#[]⟩, .int .i64 0, .int .i64 0, .int .i64 0]⟩),
   (143, ⟨.slice 51, 1, 24, .slice none 0 0⟩),
   (124, ⟨.struct [(0, 1, false), (1, 5, true), (6, 5, true)], 11, 120, .agg #[.int .i64 0, .string ⟨#[]⟩, .string ⟨#[]⟩, .int .i64 0, .int .i64 0, .int .i64 0, .string ⟨#[]⟩, .string ⟨#[]⟩, .int .i64 0, .int .i64 0, .int .i64 0]⟩),
   (70, ⟨.func, 1, 8, .nilFunc⟩),
   (62, ⟨.struct [(0, 1, false), (1, 1, false), (2, 1, false)], 3, 48, .agg #[.string ⟨#[]⟩, .slice none 0 0, .int .i64 0]⟩),
   (9, ⟨.str, 1, 16, .string ⟨#[]⟩⟩),
   (91, ⟨.struct [(0, 1, false)], 1, 24, .agg #[.slice none 0 0]⟩),
   (20, ⟨.other, 1, 16, .nilIface⟩),
   (159, ⟨.int .i64, 1, 8, .int .i64 0⟩),
   (47, ⟨.slice 56, 1, 24, .slice none 0 0⟩),
   (54, ⟨.struct [(0, 1, false), (1, 6, true), (7, 4, true)], 11, 120, .agg #[.string ⟨#[]⟩, .int .i64 0, .int .i64 0, .int .i64 0, .string ⟨#[]⟩, .int .i64 0, .slice none 0 0, .int .i64 0, .int .i64 0, .int .i64 0, .int .i64 0]⟩),
   (100, ⟨.func, 1, 8, .nilFunc⟩),
   (127, ⟨.struct [(0, 1, false), (1, 1, false), (2, 5, true)], 7, 80, .agg #[.string ⟨#[]⟩, .int .i64 0, .string ⟨#[]⟩, .string ⟨#[]⟩, .int .i64 0, .int .i64 0, .int .i64 0]⟩),
   (5, ⟨.int .u8, 1, 1, .int .u8 0⟩),
   (42, ⟨.slice 124, 1, 24, .slice none 0 0⟩),
   (43, ⟨.slice 127, 1, 24, .slice none 0 0⟩),
   (26, ⟨.slice 59, 1, 24, .slice none 0 0⟩),
   (60, ⟨.slice 114, 1, 24, .slice none 0 0⟩),
   (104, ⟨.func, 1, 8, .nilFunc⟩),
   (106, ⟨.func, 1, 8, .nilFunc⟩),
   (109, ⟨.func, 1, 8, .nilFunc⟩),
   (175, ⟨.map 9 4, 1, 8, .map none⟩),
   (176, ⟨.ptr 169, 1, 8, .pointer none⟩),
   (114, ⟨.struct [(0, 1, false), (1, 1, false), (2, 1, false), (3, 1, false)], 4, 48, .agg #[.string ⟨#[]⟩, .string ⟨#[]⟩, .int .i64 0, .int .i64 0]⟩),
   (151, ⟨.arr 5 150, 5, 40, .agg #[.nilFunc, .nilFunc, .nilFunc, .nilFunc, .nilFunc]⟩),
   (72, ⟨.func, 1, 8, .nilFunc⟩),
   (173, ⟨.ptr 3, 1, 8, .pointer none⟩),
   (69, ⟨.func, 1, 8, .nilFunc⟩),
   (52, ⟨.arr 4 3, 4, 32, .agg #[.int .i64 0, .int .i64 0, .int .i64 0, .int .i64 0]⟩),
   (85, ⟨.func, 1, 8, .nilFunc⟩),
   (144, ⟨.slice 76, 1, 24, .slice none 0 0⟩),
   (57, ⟨.slice 194, 1, 24, .slice none 0 0⟩),
   (56, ⟨.struct [(0, 1, false), (1, 1, false), (2, 1, false), (3, 1, false)], 4, 72, .agg #[.slice none 0 0, .string ⟨#[]⟩, .slice none 0 0, .int .i64 0]⟩),
   (59, ⟨.struct [(0, 1, false), (1, 1, false), (2, 1, false), (3, 1, false), (4, 1, false)], 5, 72, .agg #[.string ⟨#[]⟩, .string ⟨#[]⟩, .int .i64 0, .int .i64 0, .slice none 0 0]⟩),
   (6, ⟨.int .u8, 1, 1, .int .u8 0⟩),
   (150, ⟨.func, 1, 8, .nilFunc⟩)]
def T : Tab := fun t => TL.get t
theorem T_ok : T.ok Tryz.prog := by
  refine TabL.ok (L := TL) ?_
  intro p hp
  simp only [TL, List.mem_cons, List.not_mem_nil, or_false] at hp
  rcases hp with rfl | rfl | rfl | rfl | rfl | rfl | rfl | rfl | rfl | rfl | rfl | rfl | rfl | rfl | rfl | rfl | rfl | rfl | rfl | rfl | rfl | rfl | rfl | rfl | rfl | rfl | rfl | rfl | rfl | rfl | rfl | rfl | rfl | rfl | rfl | rfl | rfl | rfl | rfl | rfl | rfl | rfl | rfl | rfl | rfl | rfl | rfl | rfl | rfl | rfl | rfl | rfl | rfl | rfl | rfl | rfl | rfl | rfl | rfl | rfl | rfl | rfl | rfl | rfl | rfl | rfl | rfl | rfl <;> kernel_rfl
theorem follows : Tryz.prog.follows .mixedOrders = true := by kernel_rfl
abbrev intC (x : Int) : List D := [.int .i64 (.var x)]
abbrev natC (n : Nat) : List D := [.int .i64 (.nat n)]
abbrev strC (s : ByteArray) : List D := [.str s]
structure UnitD where
  name : ByteArray
  of : ByteArray
  factor : Int
  base : Int
  scale : Int
abbrev UnitD.c (x : UnitD) : List D := [.str x.name, .str x.of, .int .i64 (.var x.factor), .int .i64 (.var x.base), .int .i64 (.var x.scale)]
structure TypeD where
  kind : Int
  lo : Int
  hi : Int
  of : ByteArray
  unit : Int
  nnames : Bool
  names : List ByteArray
abbrev TypeD.c (x : TypeD) : List D := [.int .i64 (.var x.kind), .int .i64 (.var x.lo), .int .i64 (.var x.hi), .str x.of, .int .i64 (.var x.unit), .slm 1 (some (.var x.nnames)) strC x.names]
structure FieldD where
  name : ByteArray
  type : TypeD
  w0 : Int
  w1 : Int
  w2 : Int
  w3 : Int
abbrev FieldD.c (x : FieldD) : List D := [.str x.name] ++ x.type.c ++ [.int .i64 (.var x.w0), .int .i64 (.var x.w1), .int .i64 (.var x.w2), .int .i64 (.var x.w3)]
structure DependD where
  nnames : Bool
  names : List ByteArray
  name : ByteArray
  nfrom_ : Bool
  from_ : List Int
  to : Int
abbrev DependD.c (x : DependD) : List D := [.slm 1 (some (.var x.nnames)) strC x.names, .str x.name, .slm 1 (some (.var x.nfrom_)) intC x.from_, .int .i64 (.var x.to)]
structure SchemaD where
  name : ByteArray
  by_ : ByteArray
  issuer : Int
  version : Int
  nfields : Bool
  fields : List FieldD
  ndepends : Bool
  depends : List DependD
abbrev SchemaD.c (x : SchemaD) : List D := [.str x.name, .str x.by_, .int .i64 (.var x.issuer), .int .i64 (.var x.version), .slm 11 (some (.var x.nfields)) FieldD.c x.fields, .slm 4 (some (.var x.ndepends)) DependD.c x.depends]
structure TermD where
  name : ByteArray
  path : ByteArray
  vr : Int
  field : Int
  n : Int
abbrev TermD.c (x : TermD) : List D := [.str x.name, .str x.path, .int .i64 (.var x.vr), .int .i64 (.var x.field), .int .i64 (.var x.n)]
structure AtomD where
  op : Int
  a : TermD
  b : TermD
abbrev AtomD.c (x : AtomD) : List D := [.int .i64 (.var x.op)] ++ x.a.c ++ x.b.c
structure FromD where
  name : ByteArray
  kind : ByteArray
  schema : Int
  of : TermD
abbrev FromD.c (x : FromD) : List D := [.str x.name, .str x.kind, .int .i64 (.var x.schema)] ++ x.of.c
structure SetD where
  path : ByteArray
  field : Int
  term : TermD
abbrev SetD.c (x : SetD) : List D := [.str x.path, .int .i64 (.var x.field)] ++ x.term.c
structure RuleD where
  head : ByteArray
  schema : Int
  nfroms : Bool
  froms : List FromD
  nwhere_ : Bool
  where_ : List AtomD
  nsets : Bool
  sets : List SetD
abbrev RuleD.c (x : RuleD) : List D := [.str x.head, .int .i64 (.var x.schema), .slm 8 (some (.var x.nfroms)) FromD.c x.froms, .slm 11 (some (.var x.nwhere_)) AtomD.c x.where_, .slm 7 (some (.var x.nsets)) SetD.c x.sets]
structure MoveD where
  to : ByteArray
  from_ : ByteArray
  b : Int
  a : Int
  shift : Int
abbrev MoveD.c (x : MoveD) : List D := [.str x.to, .str x.from_, .int .i64 (.var x.b), .int .i64 (.var x.a), .int .i64 (.var x.shift)]
structure ConvertD where
  from_ : ByteArray
  to : ByteArray
  a : Int
  b : Int
  nmoves : Bool
  moves : List MoveD
abbrev ConvertD.c (x : ConvertD) : List D := [.str x.from_, .str x.to, .int .i64 (.var x.a), .int .i64 (.var x.b), .slm 5 (some (.var x.nmoves)) MoveD.c x.moves]
structure RefD where
  name : ByteArray
  path : ByteArray
  schema : Int
  field : Int
abbrev RefD.c (x : RefD) : List D := [.str x.name, .str x.path, .int .i64 (.var x.schema), .int .i64 (.var x.field)]
structure PurposeD where
  name : ByteArray
  nmay : Bool
  may : List RefD
  most : Int
abbrev PurposeD.c (x : PurposeD) : List D := [.str x.name, .slm 4 (some (.var x.nmay)) RefD.c x.may, .int .i64 (.var x.most)]
structure SourceD where
  nissuers : Bool
  issuers : List ByteArray
  nunits : Bool
  units : List UnitD
  nschemas : Bool
  schemas : List SchemaD
  nrules : Bool
  rules : List RuleD
  nconverts : Bool
  converts : List ConvertD
  npurposes : Bool
  purposes : List PurposeD
abbrev SourceD.c (x : SourceD) : List D := [.slm 1 (some (.var x.nissuers)) strC x.issuers, .slm 5 (some (.var x.nunits)) UnitD.c x.units, .slm 6 (some (.var x.nschemas)) SchemaD.c x.schemas, .slm 5 (some (.var x.nrules)) RuleD.c x.rules, .slm 5 (some (.var x.nconverts)) ConvertD.c x.converts, .slm 3 (some (.var x.npurposes)) PurposeD.c x.purposes]
abbrev i64 (x : Int) : D := .int .i64 (.var x)
abbrev boolD (b : Bool) : D := .bool (.var b)
theorem ncast (n : Nat) : @NatCast.natCast Int instNatCastInt n = (n : Int) := rfl
theorem drop_cons {α : Type} {l : List α} {k : Nat} {x : α} (h : l[k]? = some x) : l.drop k = x :: l.drop (k + 1) := by
  obtain ⟨h1, h2⟩ := List.getElem?_eq_some_iff.1 h
  rw [List.drop_eq_getElem_cons h1, h2]
theorem w64 {x : Int} (h1 : -9223372036854775808 ≤ x) (h2 : x ≤ 9223372036854775807) : IntKind.i64.wrap x = x := by
  rw [IntKind.wrap_i64]; omega
theorem add64 {a b : Int} (h1 : -9223372036854775808 ≤ a + b) (h2 : a + b ≤ 9223372036854775807) : binDen .add .i64 a b = a + b := w64 h1 h2
theorem sub64 {a b : Int} (h1 : -9223372036854775808 ≤ a - b) (h2 : a - b ≤ 9223372036854775807) : binDen .sub .i64 a b = a - b := w64 h1 h2
end Go.Proofs.YtdhfakajlnidiaaGreat
namespace Go.Proofs.YtdhfakajlnidiaaGreat
open Go.RowKit

/-! Small functions: numbered, needs, has, Same, Few. -/
def numB (n : Nat) (x : Int) : Bool := decide (0 ≤ x ∧ x < (n : Int))
def ruleNB (n : Nat) (r : RuleD) : Bool := numB n r.schema && r.froms.all fun f => numB n f.schema
def numberedB (n : Nat) (R : List RuleD) : Bool := R.all (ruleNB n)
def needB (a b : Int) (r : RuleD) : Bool := decide (r.schema = a) && r.froms.any fun f => decide (f.schema = b)
def needsB (R : List RuleD) (a b : Int) : Bool := R.any (needB a b)
set_option maxRecDepth 100000 in
set_option maxHeartbeats 4000000 in
theorem has_pure (l : List Int) (nb : Option BE) (v : Int) (hl : l.length < 9223372036854775807) : Pure Tryz.prog 19 [.slm 1 nb intC l, i64 v] (boolD (decide (v ∈ l))) := by
  obtain ⟨r, hr⟩ : ∃ r, r = decide (v ∈ l) := ⟨_, rfl⟩
  rw [← hr]
  obtain ⟨n, hn⟩ : ∃ n : Nat, n = l.length := ⟨_, rfl⟩
  refine Pure.intro (want := [boolD r]) T_ok follows Tryz.func19 rfl (by kernel_rfl) (rs := [.tmp 4]) rfl (by kernel_rfl) ?_
  generalize hP : Tryz.prog = P at *
  have hT : T.ok P := hP ▸ T_ok
  have hm : P.follows .mixedOrders = true := hP ▸ follows
  unfold Tryz.f19
  dsimp only
  cbv
  refine CodeP.loopc hT hm (X := Nat) (fun k => [(5, .int .i64 (.nat k))]) (fun k => k ≤ l.length ∧ r = decide (v ∈ l.drop k)) (fun k => n - k) 0 ⟨by simp, hr⟩ (Nat.zero_le _) ?_ rfl ?_
  · (cbv; (repeat' (first | exact SnD.refl _ | exact trivial | exact SnD.nat0 | refine And.intro ?_ ?_)))
  intro k ⟨hk, hq⟩
  cbv
  refine SplitP.mk (fun hs => ?_) (fun hs => ?_)
  · have hkn : k < l.length := by
      have h5 : decide ((k : Int) < (l.length : Int)) = true := hs
      have := of_decide_eq_true h5
      omega
    clear hs
    refine ElemP.mk (by show (0 : Int) ≤ (k : Int) ∧ (k : Int) < (l.length : Int); omega) (fun y hy => ?_)
    replace hy : l[k]? = some y := hy
    rw [drop_cons hy] at hq
    cbv
    refine SplitP.mk (fun h => ?_) (fun h => ?_) <;> simp only [BE.eql_t, BE.eql_f, IE.var_d] at h
    · refine .mk (.cons (.eq (.bool ?_)) .nil) rfl
      rw [BE.lit_d, BE.var_d]
      rw [hq]; symm; simp [h]
    · refine BackP.intro (k + 1) ⟨by omega, by rw [hq]; exact decide_eq_decide.2 (by simp; exact fun e => absurd e.symm h)⟩ (by show n - (k + 1) < n - k; omega) ⟨?_, HEnt.refl _, rfl⟩
      (cbv; (repeat' (first | exact SnD.refl _ | exact trivial | exact SnD.nat0 | refine And.intro ?_ ?_)))
      exact .inc (by omega)
  · have hkn : l.length ≤ k := by
      have h5 : decide ((k : Int) < (l.length : Int)) = false := hs
      have := of_decide_eq_false h5
      omega
    clear hs
    refine .mk (.cons (.eq (.bool ?_)) .nil) rfl
    rw [BE.lit_d, BE.var_d]
    rw [hq, List.drop_of_length_le (by omega)]; simp
set_option maxRecDepth 100000 in
set_option maxHeartbeats 4000000 in
theorem Same_pure (l m : List Int) (na nb : Option BE) (hl : l.length < 9223372036854775807) : Pure Tryz.prog 9 [.slm 1 na intC l, .slm 1 nb intC m] (boolD (decide (l = m))) := by
  obtain ⟨r, hr⟩ : ∃ r, r = decide (l = m) := ⟨_, rfl⟩
  rw [← hr]
  obtain ⟨n, hn⟩ : ∃ n : Nat, n = l.length := ⟨_, rfl⟩
  refine Pure.intro (want := [boolD r]) T_ok follows Tryz.func9 rfl (by kernel_rfl) (rs := [.tmp 4]) rfl (by kernel_rfl) ?_
  generalize hP : Tryz.prog = P at *
  have hT : T.ok P := hP ▸ T_ok
  have hm : P.follows .mixedOrders = true := hP ▸ follows
  unfold Tryz.f9
  dsimp only
  cbv
  refine SplitP.mk (fun h => ?_) (fun h => ?_)
  · have h3 : ((l.length : Int) != (m.length : Int)) = true := h
    refine .mk (.cons (.eq (.bool ?_)) .nil) rfl
    rw [BE.lit_d, BE.var_d]
    rw [hr]; symm; exact decide_eq_false fun e => by rw [e] at h3; simp at h3
  have hlm : l.length = m.length := by
    have h3 : ((l.length : Int) != (m.length : Int)) = false := h
    simp at h3
    omega
  refine CodeP.loopc hT hm (X := Nat) (fun k => [(5, .int .i64 (.nat k))]) (fun k => k ≤ l.length ∧ r = decide (l.drop k = m.drop k)) (fun k => n - k) 0 ⟨by simp, hr⟩ (Nat.zero_le _) ?_ rfl ?_
  · (cbv; (repeat' (first | exact SnD.refl _ | exact trivial | exact SnD.nat0 | refine And.intro ?_ ?_)))
  intro k ⟨hk, hq⟩
  cbv
  refine SplitP.mk (fun hs => ?_) (fun hs => ?_)
  · have hkn : k < l.length := by
      have h5 : decide ((k : Int) < (l.length : Int)) = true := hs
      have := of_decide_eq_true h5
      omega
    clear hs
    refine ElemP.mk (by show (0 : Int) ≤ (k : Int) ∧ (k : Int) < (l.length : Int); omega) (fun x hx => ?_)
    replace hx : l[k]? = some x := hx
    cbv
    refine ElemP.mk (by show (0 : Int) ≤ (k : Int) ∧ (k : Int) < (m.length : Int); omega) (fun y hy => ?_)
    replace hy : m[k]? = some y := hy
    rw [drop_cons hx, drop_cons hy] at hq
    cbv
    refine SplitP.mk (fun h => ?_) (fun h => ?_) <;> simp only [BE.neq_t, BE.neq_f, IE.var_d] at h
    · refine .mk (.cons (.eq (.bool ?_)) .nil) rfl
      rw [BE.lit_d, BE.var_d]
      rw [hq]; symm; exact decide_eq_false fun e => h (by simpa using congrArg List.head? e)
    · refine BackP.intro (k + 1) ⟨by omega, by rw [hq, h]; exact decide_eq_decide.2 (by simp)⟩ (by show n - (k + 1) < n - k; omega) ⟨?_, HEnt.refl _, rfl⟩
      (cbv; (repeat' (first | exact SnD.refl _ | exact trivial | exact SnD.nat0 | refine And.intro ?_ ?_)))
      exact .inc (by omega)
  · have hkn : l.length ≤ k := by
      have h5 : decide ((k : Int) < (l.length : Int)) = false := hs
      have := of_decide_eq_false h5
      omega
    clear hs
    refine .mk (.cons (.eq (.bool ?_)) .nil) rfl
    rw [BE.lit_d, BE.var_d]
    rw [hq, List.drop_of_length_le (by omega), List.drop_of_length_le (by omega)]; simp
set_option maxRecDepth 100000 in
set_option maxHeartbeats 4000000 in
theorem Needs_pure (s : SourceD) (a b : Int) (hl : s.rules.length < 9223372036854775807) (hf : ∀ r ∈ s.rules, r.froms.length < 9223372036854775807) : Pure Tryz.prog 34 [.agg s.c, i64 a, i64 b] (boolD (needsB s.rules a b)) := by
  obtain ⟨n1, i1, n2, i2, n3, i3, n4, R, n5, i5, n6, i6⟩ := s
  simp only at hl hf
  obtain ⟨r, hr⟩ : ∃ r, r = needsB R a b := ⟨_, rfl⟩
  simp only
  rw [← hr]
  obtain ⟨f, hfd⟩ : ∃ f, f = needB a b := ⟨_, rfl⟩
  unfold needsB at hr
  rw [← hfd] at hr
  have hfx : ∀ y1 y2 y3 y4 y5 y6 y7 y8, f ⟨y1, y2, y3, y4, y5, y6, y7, y8⟩ = (decide (y2 = a) && y4.any fun f => decide (f.schema = b)) := fun _ _ _ _ _ _ _ _ => by rw [hfd]; rfl
  clear hfd
  obtain ⟨n, hn⟩ : ∃ n : Nat, n = R.length := ⟨_, rfl⟩
  refine Pure.intro (want := [boolD r]) T_ok follows Tryz.func34 rfl (by kernel_rfl) (rs := [.tmp 6]) rfl (by kernel_rfl) ?_
  generalize hP : Tryz.prog = P at *
  have hT : T.ok P := hP ▸ T_ok
  have hm : P.follows .mixedOrders = true := hP ▸ follows
  unfold Tryz.f34
  dsimp only
  cbv
  refine CodeP.loopc hT hm (X := Nat) (fun k => [(7, .int .i64 (.nat k))]) (fun k => k ≤ n ∧ r = (R.drop k).any f) (fun k => n - k) 0 ⟨Nat.zero_le _, hr⟩ (Nat.zero_le _) ?_ rfl ?_
  · (cbv; (repeat' (first | exact SnD.refl _ | exact trivial | exact SnD.nat0 | refine And.intro ?_ ?_)))
  intro k ⟨hk, hq⟩
  replace hk : k ≤ n := hk
  cbv
  refine SplitP.mk (fun hs => ?_) (fun hs => ?_)
  · have hkn : k < R.length := by
      have h5 : decide ((k : Int) < (R.length : Int)) = true := hs
      have := of_decide_eq_true h5
      omega
    clear hs
    refine ElemP.mk (by show (0 : Int) ≤ (k : Int) ∧ (k : Int) < (R.length : Int); omega) (fun x hx => ?_)
    replace hx : R[k]? = some x := hx
    have hxl := hf x (List.mem_of_getElem? hx)
    rw [drop_cons hx, List.any_cons] at hq
    obtain ⟨x1, x2, x3, x4, x5, x6, x7, x8⟩ := x
    rw [hfx] at hq
    simp only at hxl
    obtain ⟨rest, hrest⟩ : ∃ q, q = (R.drop (k + 1)).any f := ⟨_, rfl⟩
    rw [← hrest] at hq
    obtain ⟨m, hm'⟩ : ∃ m : Nat, m = x4.length := ⟨_, rfl⟩
    cbv
    refine SplitP.mk (fun h => ?_) (fun h => ?_) <;> simp only [BE.neq_t, BE.neq_f, IE.var_d] at h
    · refine BackP.intro (k + 1) ⟨by show k + 1 ≤ n; omega, by rw [hq, decide_eq_false (p := x2 = a) h, hrest]; rfl⟩ (by show n - (k + 1) < n - k; omega) ⟨?_, HEnt.refl _, rfl⟩
      (cbv; (repeat' (first | exact SnD.refl _ | exact trivial | exact SnD.nat0 | refine And.intro ?_ ?_)))
      exact .inc (by omega)
    rw [decide_eq_true (p := x2 = a) h, Bool.true_and] at hq
    refine CodeP.loopc hT hm (X := Nat) (fun j => [(8, .int .i64 (.nat j))]) (fun j => j ≤ m ∧ r = (((x4.drop j).any fun f => decide (f.schema = b)) || rest)) (fun j => m - j) 0 ⟨Nat.zero_le _, hq⟩ (Nat.zero_le _) ?_ rfl ?_
    · (cbv; (repeat' (first | exact SnD.refl _ | exact trivial | exact SnD.nat0 | refine And.intro ?_ ?_)))
    intro j ⟨hj, hq2⟩
    replace hj : j ≤ m := hj
    cbv
    refine ElemP.mk (by show (0 : Int) ≤ (k : Int) ∧ (k : Int) < (R.length : Int); omega) (fun zz hzz => ?_)
    replace hzz : R[k]? = some zz := hzz
    rw [hx] at hzz
    cases hzz
    cbv
    refine SplitP.mk (fun hs => ?_) (fun hs => ?_)
    · have hkn : j < x4.length := by
        have h5 : decide ((j : Int) < (x4.length : Int)) = true := hs
        have := of_decide_eq_true h5
        omega
      clear hs
      refine ElemP.mk (by show (0 : Int) ≤ (k : Int) ∧ (k : Int) < (R.length : Int); omega) (fun zz hzz => ?_)
      replace hzz : R[k]? = some zz := hzz
      rw [hx] at hzz
      cases hzz
      cbv
      refine ElemP.mk (by show (0 : Int) ≤ (j : Int) ∧ (j : Int) < (x4.length : Int); omega) (fun y hy => ?_)
      replace hy : x4[j]? = some y := hy
      rw [drop_cons hy, List.any_cons] at hq2
      obtain ⟨y1, y2, y3, ⟨y4, y5, y6, y7, y8⟩⟩ := y
      cbv
      refine SplitP.mk (fun h2 => ?_) (fun h2 => ?_) <;> simp only [BE.eql_t, BE.eql_f, IE.var_d] at h2
      · refine .mk (.cons (.eq (.bool ?_)) .nil) rfl
        rw [BE.lit_d, BE.var_d]
        rw [hq2, decide_eq_true (p := y3 = b) h2]; rfl
      · refine BackP.intro (j + 1) ⟨by show j + 1 ≤ m; omega, by rw [hq2, decide_eq_false (p := y3 = b) h2, Bool.false_or]⟩ (by show m - (j + 1) < m - j; omega) ⟨?_, HEnt.refl _, rfl⟩
        (cbv; (repeat' (first | exact SnD.refl _ | exact trivial | exact SnD.nat0 | refine And.intro ?_ ?_)))
        exact .inc (by omega)
    · have hkn : x4.length ≤ j := by
        have h5 : decide ((j : Int) < (x4.length : Int)) = false := hs
        have := of_decide_eq_false h5
        omega
      clear hs
      rw [List.drop_of_length_le (by omega), List.any_nil, Bool.false_or, hrest] at hq2
      refine BackP.intro (k + 1) ⟨by show k + 1 ≤ n; omega, hq2⟩ (by show n - (k + 1) < n - k; omega) ⟨?_, HEnt.refl _, rfl⟩
      (cbv; (repeat' (first | exact SnD.refl _ | exact trivial | exact SnD.nat0 | refine And.intro ?_ ?_)))
      exact .inc (by omega)
  · have hkn : R.length ≤ k := by
      have h5 : decide ((k : Int) < (R.length : Int)) = false := hs
      have := of_decide_eq_false h5
      omega
    clear hs
    refine .mk (.cons (.eq (.bool ?_)) .nil) rfl
    rw [BE.lit_d, BE.var_d]
    rw [hq, List.drop_of_length_le (by omega)]; rfl
end Go.Proofs.YtdhfakajlnidiaaGreat
namespace Go.Proofs.YtdhfakajlnidiaaGreat
open Go.RowKit

/-! Numbered, Few. -/
def fewB (s : SourceD) : Bool := (s.rules.all fun r => decide (r.froms.length ≤ 6)) && decide (s.schemas.length ≤ 7 ∧ s.rules.length ≤ 10)
set_option maxRecDepth 100000 in
set_option maxHeartbeats 4000000 in
theorem Few_pure (s : SourceD) (hl : s.rules.length ≤ 9223372036854775807) : Pure Tryz.prog 5 [.agg s.c] (boolD (fewB s)) := by
  obtain ⟨r, hr⟩ : ∃ r, r = fewB s := ⟨_, rfl⟩
  rw [← hr]
  obtain ⟨n1, i1, n2, i2, n3, S, n4, R, n5, i5, n6, i6⟩ := s
  simp only at hl
  unfold fewB at hr
  simp only at hr
  obtain ⟨n, hn⟩ : ∃ n : Nat, n = R.length := ⟨_, rfl⟩
  refine Pure.intro (want := [boolD r]) T_ok follows Tryz.func5 rfl (by kernel_rfl) (rs := [.tmp 2]) rfl (by kernel_rfl) ?_
  generalize hP : Tryz.prog = P at *
  have hT : T.ok P := hP ▸ T_ok
  have hm : P.follows .mixedOrders = true := hP ▸ follows
  unfold Tryz.f5
  dsimp only
  cbv
  refine CodeP.loopc hT hm (X := Nat) (fun k => [(3, .int .i64 (.nat k))]) (fun k => k ≤ n ∧ r = (((R.drop k).all fun r => decide (r.froms.length ≤ 6)) && decide (S.length ≤ 7 ∧ R.length ≤ 10))) (fun k => n - k) 0 ⟨Nat.zero_le _, hr⟩ (Nat.zero_le _) ?_ rfl ?_
  · (cbv; (repeat' (first | exact SnD.refl _ | exact trivial | exact SnD.nat0 | refine And.intro ?_ ?_)))
  intro k ⟨hk, hq⟩
  replace hk : k ≤ n := hk
  cbv
  refine SplitP.mk (fun hs => ?_) (fun hs => ?_)
  · have hkn : k < R.length := by
      have h5 : decide ((k : Int) < (R.length : Int)) = true := hs
      have := of_decide_eq_true h5
      omega
    clear hs
    refine ElemP.mk (by show (0 : Int) ≤ (k : Int) ∧ (k : Int) < (R.length : Int); omega) (fun x hx => ?_)
    replace hx : R[k]? = some x := hx
    rw [drop_cons hx, List.all_cons] at hq
    obtain ⟨x1, x2, x3, x4, x5, x6, x7, x8⟩ := x
    cbv
    refine SplitP.mk (fun h => ?_) (fun h => ?_)
    · have := of_decide_eq_true (show decide ((x4.length : Int) > 6) = true from h)
      refine .mk (.cons (.eq (.bool ?_)) .nil) rfl
      rw [BE.lit_d, BE.var_d]
      rw [hq, decide_eq_false (p := x4.length ≤ 6) (by omega)]; rfl
    have c4 : x4.length ≤ 6 := by have := of_decide_eq_false (show decide ((x4.length : Int) > 6) = false from h); omega
    refine BackP.intro (k + 1) ⟨by show k + 1 ≤ n; omega, by rw [hq, decide_eq_true (p := x4.length ≤ 6) c4, Bool.true_and]⟩ (by show n - (k + 1) < n - k; omega) ⟨?_, HEnt.refl _, rfl⟩
    (cbv; (repeat' (first | exact SnD.refl _ | exact trivial | exact SnD.nat0 | refine And.intro ?_ ?_)))
    exact .inc (by omega)
  · have hkn : R.length ≤ k := by
      have h5 : decide ((k : Int) < (R.length : Int)) = false := hs
      have := of_decide_eq_false h5
      omega
    clear hs
    rw [List.drop_of_length_le (by omega), List.all_nil, Bool.true_and] at hq
    refine SplitP.mk (fun h => ?_) (fun h => ?_)
    · have h1 := of_decide_eq_true (show decide ((S.length : Int) ≤ 7) = true from h)
      refine .mk (.cons (.eq (.bool ?_)) .nil) rfl
      show decide ((R.length : Int) ≤ 10) = r
      rw [hq]
      exact decide_eq_decide.2 ⟨fun h => ⟨by omega, by omega⟩, fun h => by omega⟩
    · have h1 := of_decide_eq_false (show decide ((S.length : Int) ≤ 7) = false from h)
      refine .mk (.cons (.eq (.bool ?_)) .nil) rfl
      rw [BE.lit_d, BE.var_d]
      rw [hq, decide_eq_false (by omega)]
set_option maxRecDepth 100000 in
set_option maxHeartbeats 4000000 in
theorem numbered_pure (s : SourceD) (hs3 : s.schemas.length ≤ 9223372036854775807) (hl : s.rules.length < 9223372036854775807) (hf : ∀ r ∈ s.rules, r.froms.length < 9223372036854775807) : Pure Tryz.prog 18 [.agg s.c] (boolD (numberedB s.schemas.length s.rules)) := by
  obtain ⟨r, hr⟩ : ∃ r, r = numberedB s.schemas.length s.rules := ⟨_, rfl⟩
  rw [← hr]
  obtain ⟨n1, i1, n2, i2, n3, S, n4, R, n5, i5, n6, i6⟩ := s
  simp only at hl hf hs3 hr
  unfold numberedB at hr
  obtain ⟨f, hfd⟩ : ∃ f, f = ruleNB S.length := ⟨_, rfl⟩
  rw [← hfd] at hr
  have hfx : ∀ y1 y2 y3 y4 y5 y6 y7 y8, f ⟨y1, y2, y3, y4, y5, y6, y7, y8⟩ = (decide (0 ≤ y2 ∧ y2 < (S.length : Int)) && y4.all fun f => decide (0 ≤ f.schema ∧ f.schema < (S.length : Int))) := fun _ _ _ _ _ _ _ _ => by rw [hfd]; rfl
  clear hfd
  obtain ⟨n, hn⟩ : ∃ n : Nat, n = R.length := ⟨_, rfl⟩
  refine Pure.intro (want := [boolD r]) T_ok follows Tryz.func18 rfl (by kernel_rfl) (rs := [.tmp 2]) rfl (by kernel_rfl) ?_
  generalize hP : Tryz.prog = P at *
  have hT : T.ok P := hP ▸ T_ok
  have hm : P.follows .mixedOrders = true := hP ▸ follows
  unfold Tryz.f18
  dsimp only
  cbv
  refine CodeP.loopc hT hm (X := Nat) (fun k => [(4, .int .i64 (.nat k))]) (fun k => k ≤ n ∧ r = (R.drop k).all f) (fun k => n - k) 0 ⟨Nat.zero_le _, hr⟩ (Nat.zero_le _) ?_ rfl ?_
  · (cbv; (repeat' (first | exact SnD.refl _ | exact trivial | exact SnD.nat0 | refine And.intro ?_ ?_)))
  intro k ⟨hk, hq⟩
  replace hk : k ≤ n := hk
  cbv
  refine SplitP.mk (fun hs => ?_) (fun hs => ?_)
  · have hkn : k < R.length := by
      have h5 : decide ((k : Int) < (R.length : Int)) = true := hs
      have := of_decide_eq_true h5
      omega
    clear hs
    refine ElemP.mk (by show (0 : Int) ≤ (k : Int) ∧ (k : Int) < (R.length : Int); omega) (fun x hx => ?_)
    replace hx : R[k]? = some x := hx
    have hxl := hf x (List.mem_of_getElem? hx)
    rw [drop_cons hx, List.all_cons] at hq
    obtain ⟨x1, x2, x3, x4, x5, x6, x7, x8⟩ := x
    rw [hfx] at hq
    simp only at hxl
    obtain ⟨rest, hrest⟩ : ∃ q, q = (R.drop (k + 1)).all f := ⟨_, rfl⟩
    rw [← hrest] at hq
    obtain ⟨m, hm'⟩ : ∃ m : Nat, m = x4.length := ⟨_, rfl⟩
    cbv
    refine SplitP.mk (fun h => ?_) (fun h => ?_)
    · have h1 := of_decide_eq_true (show decide (x2 < 0) = true from h)
      refine .mk (.cons (.eq (.bool ?_)) .nil) rfl
      rw [BE.lit_d, BE.var_d]
      rw [hq, decide_eq_false (p := 0 ≤ x2 ∧ x2 < (S.length : Int)) (by omega)]; rfl
    have h1 := of_decide_eq_false (show decide (x2 < 0) = false from h)
    refine SplitP.mk (fun h => ?_) (fun h => ?_)
    · have h2 := of_decide_eq_true (show decide (x2 ≥ (S.length : Int)) = true from h)
      refine .mk (.cons (.eq (.bool ?_)) .nil) rfl
      rw [BE.lit_d, BE.var_d]
      rw [hq, decide_eq_false (p := 0 ≤ x2 ∧ x2 < (S.length : Int)) (by omega)]; rfl
    have h2 := of_decide_eq_false (show decide (x2 ≥ (S.length : Int)) = false from h)
    rw [decide_eq_true (p := 0 ≤ x2 ∧ x2 < (S.length : Int)) (by omega), Bool.true_and] at hq
    refine CodeP.loopc hT hm (X := Nat) (fun j => [(6, .int .i64 (.nat j))]) (fun j => j ≤ m ∧ r = (((x4.drop j).all fun f => decide (0 ≤ f.schema ∧ f.schema < (S.length : Int))) && rest)) (fun j => m - j) 0 ⟨Nat.zero_le _, hq⟩ (Nat.zero_le _) ?_ rfl ?_
    · (cbv; (repeat' (first | exact SnD.refl _ | exact trivial | exact SnD.nat0 | refine And.intro ?_ ?_)))
    intro j ⟨hj, hq2⟩
    replace hj : j ≤ m := hj
    cbv
    refine SplitP.mk (fun hs => ?_) (fun hs => ?_)
    · have hkn : j < x4.length := by
        have h5 : decide ((j : Int) < (x4.length : Int)) = true := hs
        have := of_decide_eq_true h5
        omega
      clear hs
      refine ElemP.mk (by show (0 : Int) ≤ (j : Int) ∧ (j : Int) < (x4.length : Int); omega) (fun y hy => ?_)
      replace hy : x4[j]? = some y := hy
      rw [drop_cons hy, List.all_cons] at hq2
      obtain ⟨y1, y2, y3, ⟨y4, y5, y6, y7, y8⟩⟩ := y
      cbv
      refine SplitP.mk (fun h => ?_) (fun h => ?_)
      · have h3 := of_decide_eq_true (show decide (y3 < 0) = true from h)
        refine .mk (.cons (.eq (.bool ?_)) .nil) rfl
        rw [BE.lit_d, BE.var_d]
        rw [hq2, decide_eq_false (p := 0 ≤ y3 ∧ y3 < (S.length : Int)) (by omega)]; rfl
      have h3 := of_decide_eq_false (show decide (y3 < 0) = false from h)
      refine ElemP.mk (by show (0 : Int) ≤ (j : Int) ∧ (j : Int) < (x4.length : Int); omega) (fun zz hzz => ?_)
      replace hzz : x4[j]? = some zz := hzz
      rw [hy] at hzz
      cases hzz
      cbv
      refine SplitP.mk (fun h => ?_) (fun h => ?_)
      · have h4 := of_decide_eq_true (show decide (y3 ≥ (S.length : Int)) = true from h)
        refine .mk (.cons (.eq (.bool ?_)) .nil) rfl
        rw [BE.lit_d, BE.var_d]
        rw [hq2, decide_eq_false (p := 0 ≤ y3 ∧ y3 < (S.length : Int)) (by omega)]; rfl
      have h4 := of_decide_eq_false (show decide (y3 ≥ (S.length : Int)) = false from h)
      refine BackP.intro (j + 1) ⟨by show j + 1 ≤ m; omega, by rw [hq2, decide_eq_true (p := 0 ≤ y3 ∧ y3 < (S.length : Int)) (by omega), Bool.true_and]⟩ (by show m - (j + 1) < m - j; omega) ⟨?_, ⟨.refl _, .refl _, trivial⟩, rfl⟩
      (cbv; (repeat' (first | exact SnD.refl _ | exact trivial | exact SnD.nat0 | refine And.intro ?_ ?_)))
      exact .inc (by omega)
    · have hkn : x4.length ≤ j := by
        have h5 : decide ((j : Int) < (x4.length : Int)) = false := hs
        have := of_decide_eq_false h5
        omega
      clear hs
      rw [List.drop_of_length_le (by omega), List.all_nil, Bool.true_and, hrest] at hq2
      refine BackP.intro (k + 1) ⟨by show k + 1 ≤ n; omega, hq2⟩ (by show n - (k + 1) < n - k; omega) ⟨?_, ⟨.refl _, trivial⟩, rfl⟩
      (cbv; (repeat' (first | exact SnD.refl _ | exact trivial | exact SnD.nat0 | refine And.intro ?_ ?_)))
      exact .inc (by omega)
  · have hkn : R.length ≤ k := by
      have h5 : decide ((k : Int) < (R.length : Int)) = false := hs
      have := of_decide_eq_false h5
      omega
    clear hs
    refine .mk (.cons (.eq (.bool ?_)) .nil) rfl
    rw [BE.lit_d, BE.var_d]
    rw [hq, List.drop_of_length_le (by omega)]; rfl
/-- what a graph reads as: how many schemas, who is a head, who needs whom, and how many -/
structure GraphD where
  many : Nat
  hd : Int → Bool
  nd : Int → Int → Bool
  cn : Int → Nat
  m : Nat
def boolF (S : Int → Bool) : Int → Option D := fun y => if S y then some (.bool (.lit true)) else none
def graphF (g : GraphD) : Int → Option D := fun h => if g.hd h then some (.mg .i64 (boolF (g.nd h)) (.nat (g.cn h))) else none
abbrev GraphD.c (g : GraphD) : List D := [.int .i64 (.nat g.many), .mg .i64 (graphF g) (.nat g.m)]
set_option maxRecDepth 100000 in
set_option maxHeartbeats 4000000 in
theorem gnumbered_pure (n : Nat) (F : Int → Option D) (m : Nat) (x : Int) : Pure Tryz.prog 27 [.agg [.int .i64 (.nat n), .mg .i64 F (.nat m)], i64 x] (boolD (numB n x)) := by
  obtain ⟨r, hr⟩ : ∃ r, r = numB n x := ⟨_, rfl⟩
  rw [← hr]
  unfold numB at hr
  refine Pure.intro (want := [boolD r]) T_ok follows Tryz.func27 rfl (by kernel_rfl) (rs := [.tmp 4]) rfl (by kernel_rfl) ?_
  generalize hP : Tryz.prog = P at *
  have hT : T.ok P := hP ▸ T_ok
  have hm : P.follows .mixedOrders = true := hP ▸ follows
  unfold Tryz.f27
  dsimp only
  cbv
  refine SplitP.mk (fun h => ?_) (fun h => ?_)
  · have h1 := of_decide_eq_true (show decide (x ≥ 0) = true from h)
    refine .mk (.cons (.eq (.bool ?_)) .nil) rfl
    show decide (x < (n : Int)) = r
    rw [hr]
    exact decide_eq_decide.2 ⟨fun h => ⟨h1, h⟩, fun h => h.2⟩
  · have h1 := of_decide_eq_false (show decide (x ≥ 0) = false from h)
    refine .mk (.cons (.eq (.bool ?_)) .nil) rfl
    rw [BE.lit_d, BE.var_d]
    rw [hr]; symm; exact decide_eq_false (by omega)
end Go.Proofs.YtdhfakajlnidiaaGreat
namespace Go.Proofs.YtdhfakajlnidiaaGreat
open Go.RowKit

/-! The check of the types: units, types of fields, terms. -/
theorem dec_t {p : Prop} {i : Decidable p} : (@decide p i = true) = p := by cases i <;> simp [*]
theorem dec_f {p : Prop} {i : Decidable p} : (@decide p i = false) = ¬ p := by cases i <;> simp [*]
def ty0 : TypeD := ⟨0, 0, 0, ⟨#[]⟩, 0, true, []⟩
def unitB (us : List UnitD) (u : UnitD) : Bool := decide (1 ≤ u.scale) && (decide (u.scale ≤ 1099511627776) && (decide (0 ≤ u.base) && (decide (u.base < (us.length : Int)) && match us[u.base.toNat]? with | some v => decide (v.scale = 1) | none => false)))
def isNumB (t : TermD) : Bool := decide (t.vr = -1) && (decide (0 ≤ t.n) && decide (t.n ≤ 1048576))
def typeOf? (S : SourceD) (i j : Int) : Option TypeD := if 0 ≤ i then (match S.schemas[i.toNat]? with | some x => if 0 ≤ j then (match x.fields[j.toNat]? with | some f => some f.type | none => none) else none | none => none) else none
def termTy? (S : SourceD) (fs : List FromD) (t : TermD) (n : Int) : Option TypeD := if 0 ≤ t.vr ∧ t.vr < n then (match fs[t.vr.toNat]? with | some f => typeOf? S f.schema t.field | none => none) else none
abbrev tyR (o : Option TypeD) : D := .tup [.agg (o.getD ty0).c, boolD o.isSome]
theorem ty0_eq : DEq (.agg [.int .i64 (.lit 0), .int .i64 (.lit 0), .int .i64 (.lit 0), .str ⟨#[]⟩, .int .i64 (.lit 0), .nils]) (.agg ty0.c) := .aggs rfl fun i d d' h1 h2 => by
  match i with
  | 0 => cases h1; cases h2; exact .int rfl
  | 1 => cases h1; cases h2; exact .int rfl
  | 2 => cases h1; cases h2; exact .int rfl
  | 3 => cases h1; cases h2; exact .refl _
  | 4 => cases h1; cases h2; exact .int rfl
  | 5 => cases h1; cases h2; exact .nilv rfl rfl
  | i + 6 => simp at h1
set_option maxRecDepth 100000 in
set_option maxHeartbeats 4000000 in
theorem unitOK_pure (S : SourceD) (u : UnitD) : Pure Tryz.prog 39 [.agg S.c, .agg u.c] (boolD (unitB S.units u)) := by
  obtain ⟨r, hr⟩ : ∃ r, r = unitB S.units u := ⟨_, rfl⟩
  rw [← hr]
  unfold unitB at hr
  obtain ⟨ni, is, nu, us, ns, ss, nr, rs, nc, cs, np, ps⟩ := S
  obtain ⟨u1, u2, u3, u4, u5⟩ := u
  simp only at hr
  refine Pure.intro (want := [boolD r]) T_ok follows Tryz.func39 rfl (by kernel_rfl) (rs := [.tmp 4]) rfl (by kernel_rfl) ?_
  generalize hP : Tryz.prog = P at *
  have hT : T.ok P := hP ▸ T_ok
  have hm : P.follows .mixedOrders = true := hP ▸ follows
  unfold Tryz.f39
  dsimp only
  cbv
  refine SplitP.mk (fun h => ?_) (fun h => ?_)
  · have h1 : 1 ≤ u5 := of_decide_eq_true (show decide (u5 ≥ 1) = true from h)
    refine SplitP.mk (fun h => ?_) (fun h => ?_)
    · have h2 : u5 ≤ 1099511627776 := of_decide_eq_true (show decide (u5 ≤ 1099511627776) = true from h)
      refine SplitP.mk (fun h => ?_) (fun h => ?_)
      · have h3 : 0 ≤ u4 := of_decide_eq_true (show decide (u4 ≥ 0) = true from h)
        refine SplitP.mk (fun h => ?_) (fun h => ?_)
        · have h4 : u4 < (us.length : Int) := of_decide_eq_true (show decide (u4 < (us.length : Int)) = true from h)
          refine ElemP.mk ⟨h3, h4⟩ (fun v hv => ?_)
          replace hv : us[u4.toNat]? = some v := hv
          rw [hv, decide_eq_true h1, decide_eq_true h2, decide_eq_true h3, decide_eq_true h4] at hr
          obtain ⟨v1, v2, v3, v4, v5⟩ := v
          cbv
          refine .mk (.cons (.eq (.bool ?_)) .nil) rfl
          show (v5 == 1) = r
          rw [hr]
          rfl
        · have h4 : ¬ u4 < (us.length : Int) := of_decide_eq_false (show decide (u4 < (us.length : Int)) = false from h)
          refine .mk (.cons (.eq (.bool ?_)) .nil) rfl
          show false = r
          rw [hr, decide_eq_false h4]
          simp
      · have h3 : ¬ 0 ≤ u4 := by have := of_decide_eq_false (show decide (u4 ≥ 0) = false from h); exact this
        refine .mk (.cons (.eq (.bool ?_)) .nil) rfl
        show false = r
        rw [hr, decide_eq_false h3]
        simp
    · have h2 : ¬ u5 ≤ 1099511627776 := of_decide_eq_false (show decide (u5 ≤ 1099511627776) = false from h)
      refine .mk (.cons (.eq (.bool ?_)) .nil) rfl
      show false = r
      rw [hr, decide_eq_false h2]
      simp
  · have h1 : ¬ 1 ≤ u5 := by have := of_decide_eq_false (show decide (u5 ≥ 1) = false from h); exact this
    refine .mk (.cons (.eq (.bool ?_)) .nil) rfl
    show false = r
    rw [hr, decide_eq_false h1]
    rfl
set_option maxRecDepth 100000 in
set_option maxHeartbeats 4000000 in
theorem isNumber_pure (t : TermD) : Pure Tryz.prog 77 [.agg t.c] (boolD (isNumB t)) := by
  obtain ⟨r, hr⟩ : ∃ r, r = isNumB t := ⟨_, rfl⟩
  rw [← hr]
  unfold isNumB at hr
  obtain ⟨u1, u2, u3, u4, u5⟩ := t
  simp only at hr
  refine Pure.intro (want := [boolD r]) T_ok follows Tryz.func77 rfl (by kernel_rfl) (rs := [.tmp 2]) rfl (by kernel_rfl) ?_
  generalize hP : Tryz.prog = P at *
  have hT : T.ok P := hP ▸ T_ok
  have hm : P.follows .mixedOrders = true := hP ▸ follows
  unfold Tryz.f77
  dsimp only
  cbv
  refine SplitP.mk (fun h1 => ?_) (fun h1 => ?_)
  · refine SplitP.mk (fun h2 => ?_) (fun h2 => ?_) <;> (try simp only [BE.den, IE.den, cmpDen, Bool.not_eq_true, Bool.not_eq_false, Bool.not_eq_eq_eq_not, Bool.not_true, Bool.not_false, dec_t, dec_f, beq_iff_eq, beq_eq_false_iff_ne, bne_iff_ne, ne_eq, bne_eq_false_iff_eq, ge_iff_le, gt_iff_lt, Int.not_lt, Int.not_le] at *) <;> (refine .mk (.cons (.eq (.bool ?_)) .nil) rfl; simp only [BE.den, IE.den, cmpDen]; rw [hr, Bool.eq_iff_iff]; simp only [Bool.and_eq_true, Bool.or_eq_true, dec_t, dec_f, beq_iff_eq, bne_iff_ne, ge_iff_le, gt_iff_lt, Bool.false_eq_true, false_iff, true_iff]; first | omega | grind)
  · (try simp only [BE.den, IE.den, cmpDen, Bool.not_eq_true, Bool.not_eq_false, Bool.not_eq_eq_eq_not, Bool.not_true, Bool.not_false, dec_t, dec_f, beq_iff_eq, beq_eq_false_iff_ne, bne_iff_ne, ne_eq, bne_eq_false_iff_eq, ge_iff_le, gt_iff_lt, Int.not_lt, Int.not_le] at *)
    (refine .mk (.cons (.eq (.bool ?_)) .nil) rfl; simp only [BE.den, IE.den, cmpDen]; rw [hr, Bool.eq_iff_iff]; simp only [Bool.and_eq_true, Bool.or_eq_true, dec_t, dec_f, beq_iff_eq, bne_iff_ne, ge_iff_le, gt_iff_lt, Bool.false_eq_true, false_iff, true_iff]; first | omega | grind)
set_option maxRecDepth 100000 in
set_option maxHeartbeats 4000000 in
theorem typeOf_pure (S : SourceD) (i j : Int) : Pure Tryz.prog 58 [.agg S.c, i64 i, i64 j] (tyR (typeOf? S i j)) := by
  obtain ⟨o, ho⟩ : ∃ o, o = typeOf? S i j := ⟨_, rfl⟩
  rw [← ho]
  unfold typeOf? at ho
  obtain ⟨ni, is, nu, us, ns, ss, nr, rs, nc, cs, np, ps⟩ := S
  simp only at ho
  obtain ⟨t, ht⟩ : ∃ t, t = o.getD ty0 := ⟨_, rfl⟩
  obtain ⟨b, hb⟩ : ∃ b, b = o.isSome := ⟨_, rfl⟩
  show Pure Tryz.prog 58 _ (.tup [.agg (o.getD ty0).c, boolD o.isSome])
  rw [← ht, ← hb]
  obtain ⟨t1, t2, t3, t4, t5, t6, t7⟩ := t
  refine Pure.intro (want := [.agg [.int .i64 (.var t1), .int .i64 (.var t2), .int .i64 (.var t3), .str t4, .int .i64 (.var t5), .slm 1 (some (.var t6)) strC t7], boolD b]) T_ok follows Tryz.func58 rfl (by kernel_rfl) (rs := [.cell 6 51, .tmp 7]) rfl (by kernel_rfl) ?_
  generalize hP : Tryz.prog = P at *
  have hT : T.ok P := hP ▸ T_ok
  have hm : P.follows .mixedOrders = true := hP ▸ follows
  unfold Tryz.f58
  dsimp only
  cbv
  have hz : o = none → ∀ {H H' : List Bk}, SnDs H H' [.agg [.int .i64 (.lit 0), .int .i64 (.lit 0), .int .i64 (.lit 0), .str ⟨#[]⟩, .int .i64 (.lit 0), .nils], .bool (.lit false)] [.agg [.int .i64 (.var t1), .int .i64 (.var t2), .int .i64 (.var t3), .str t4, .int .i64 (.var t5), .slm 1 (some (.var t6)) strC t7], boolD b] := fun h {H H'} => by
    rw [h] at ht hb
    cases ht
    subst hb
    exact .cons (.eq ty0_eq) (.cons (.eq (.bool rfl)) .nil)
  refine SplitP.mk (fun h1 => ?_) (fun h1 => ?_)
  · replace h1 : i < 0 := of_decide_eq_true h1
    exact .mk (hz (by rw [ho, if_neg (by omega)])) rfl
  replace h1 : ¬ i < 0 := of_decide_eq_false h1
  rw [if_pos (by omega)] at ho
  refine SplitP.mk (fun h2 => ?_) (fun h2 => ?_)
  · replace h2 : i ≥ (ss.length : Int) := of_decide_eq_true h2
    exact .mk (hz (by rw [ho, List.getElem?_eq_none (by omega)])) rfl
  replace h2 : ¬ i ≥ (ss.length : Int) := of_decide_eq_false h2
  refine SplitP.mk (fun h3 => ?_) (fun h3 => ?_)
  · replace h3 : j < 0 := of_decide_eq_true h3
    refine .mk (hz ?_) rfl
    rw [ho]
    split
    · rw [if_neg (by omega)]
    · rfl
  replace h3 : ¬ j < 0 := of_decide_eq_false h3
  refine ElemP.mk (by show (0 : Int) ≤ i ∧ i < (ss.length : Int); omega) (fun x hx => ?_)
  replace hx : ss[i.toNat]? = some x := hx
  rw [hx] at ho
  simp only at ho
  rw [if_pos (by omega)] at ho
  obtain ⟨x1, x2, x3, x4, x5, fl, x7, x8⟩ := x
  simp only at ho
  cbv
  replace h2 : ¬ i ≥ (ss.length : Int) := h2
  refine SplitP.mk (fun h4 => ?_) (fun h4 => ?_)
  · replace h4 : j ≥ (fl.length : Int) := of_decide_eq_true h4
    exact .mk (hz (by rw [ho, List.getElem?_eq_none (by omega)])) rfl
  replace h4 : ¬ j ≥ (fl.length : Int) := of_decide_eq_false h4
  refine ElemP.mk (by show (0 : Int) ≤ i ∧ i < (ss.length : Int); omega) (fun z hz' => ?_)
  replace hz' : ss[i.toNat]? = some z := hz'
  rw [hx] at hz'
  cases hz'
  cbv
  replace h4 : ¬ j ≥ (fl.length : Int) := h4
  refine ElemP.mk (by show (0 : Int) ≤ j ∧ j < (fl.length : Int); omega) (fun y hy => ?_)
  replace hy : fl[j.toNat]? = some y := hy
  rw [hy] at ho
  simp only at ho
  obtain ⟨y1, ⟨y2, y3, y4, y5, y6, y7, y8⟩, y9, y10, y11, y12⟩ := y
  simp only at ho
  rw [ho] at ht hb
  cases ht
  subst hb
  cbv
  exact .mk (.cons (.eq (.refl _)) (.cons (.eq (.bool rfl)) .nil)) rfl
end Go.Proofs.YtdhfakajlnidiaaGreat
namespace Go.Proofs.YtdhfakajlnidiaaGreat
open Go.RowKit

/-! Walks cut at a state that is named: what comes behind is walked once. -/
def entX (fr1 : Fr) (H1 : List Bk) (e : Exit) (fr : Fr) (H : List Bk) : Prop := match e with
  | .normal => EntP fr H fr1 H1
  | e => StuckX e
theorem CodeP.seqTo {P : Program} {cx : Cx} {c d : Code} {fr : Fr} {H : List Bk} {K : Exit → Fr → List Bk → Prop} (fr1 : Fr) (H1 : List Bk) (hh : cx.h0 ≤ H1.length) (h1 : CodeP P cx c fr H (thenK (fun fr H => EntP fr H fr1 H1) K)) (h2 : CodeP P cx d fr1 H1 K) : CodeP P cx (.seq c d) fr H K := by
  refine ⟨fun B E a w hnt hr => wp_seq (Code.wp_mono (fun e a' w' ⟨fr', H', E', q1, q2⟩ => ?_) (h1.run B E a w hnt hr))⟩
  cases e <;> first | exact h2.run B _ a' w' hnt (EntP.rel (Nat.le_trans hnt.2 hh) q1 q2) | exact ⟨fr', H', E', q1, q2⟩
/-- the same, with something that was learnt on the way -/
theorem CodeP.seqW {P : Program} {cx : Cx} {c d : Code} {fr : Fr} {H : List Bk} {K : Exit → Fr → List Bk → Prop} (L : Unit → Prop) (fr1 : Fr) (H1 : List Bk) (hh : cx.h0 ≤ H1.length) (h1 : CodeP P cx c fr H (thenK (fun fr H => L () ∧ EntP fr H fr1 H1) K)) (h2 : L () → CodeP P cx d fr1 H1 K) : CodeP P cx (.seq c d) fr H K := by
  refine ⟨fun B E a w hnt hr => wp_seq (Code.wp_mono (fun e a' w' ⟨fr', H', E', q1, q2⟩ => ?_) (h1.run B E a w hnt hr))⟩
  cases e <;> first | exact (h2 q1.1).run B _ a' w' hnt (EntP.rel (Nat.le_trans hnt.2 hh) q1.2 q2) | exact ⟨fr', H', E', q1, q2⟩
theorem CodeP.block {P : Program} {cx : Cx} {id : Nat} {c : Code} {fr : Fr} {H : List Bk} {K : Exit → Fr → List Bk → Prop} (h : CodeP P cx c fr H (blockK id K)) : CodeP P cx (.block id c) fr H K := by
  refine ⟨fun B E a w hnt hr => wp_block (Code.wp_mono (fun e a' w' ⟨fr', H', E', q1, q2⟩ => ?_) (h.run B E a w hnt hr))⟩
  cases e with
  | exit i =>
    simp only [blockK] at q1
    simp only [Exit.inBlock]
    split at q1
    · next e => rw [if_pos e]; exact ⟨fr', H', E', q1, q2⟩
    · next e => rw [if_neg e]; exact ⟨fr', H', E', q1, q2⟩
  | _ => exact ⟨fr', H', E', q1, q2⟩
theorem CodeP.loopP {P : Program} {cx : Cx} {c : Code} {fr : Fr} {H : List Bk} {K : Exit → Fr → List Bk → Prop} {X : Type} (fr' : X → Fr) (H' : X → List Bk) (I : X → Prop) (μ : X → Nat) (x0 : X) (hI : I x0) (hh : ∀ x, cx.h0 ≤ (H' x).length)
    (he : EntP fr H (fr' x0) (H' x0)) (round : ∀ x, I x → CodeP P cx c (fr' x) (H' x) (loopK fr' H' I μ x K)) : CodeP P cx (.loop c) fr H K := by
  refine ⟨fun B E a w hnt hr b k cs => ?_⟩
  have key : ∀ (n : Nat) (x : X), μ x = n → I x → ∀ (E : Env) (a : Act) (w : World), Rel B ⟨fr' x, H' x⟩ E a w →
      ∃ e a' w', (∃ fr'' H'' E', K e fr'' H'' ∧ Rel B ⟨fr'', H''⟩ E' a' w') ∧ Arrives P (lone (b.at a (.code c :: .inLoop c :: k)) cs w) b k cs e a' w' := by
    intro n
    induction n using Nat.strongRecOn with
    | _ n ih =>
      intro x hn hx E a w hr
      obtain ⟨e, a1, w1, ⟨fr2, H2, E2, hq, hr2⟩, harr⟩ := (round x hx).run B E a w hnt hr b (.inLoop c :: k) cs
      cases e with
      | normal =>
        obtain ⟨y, hy, hlt, hent⟩ := hq.out
        obtain ⟨e3, a3, w3, hq3, harr3⟩ := ih (μ y) (hn ▸ hlt) y rfl hy _ a1 w1 (hent.rel (Nat.le_trans hnt.2 (hh y)) hr2)
        exact ⟨e3, a3, w3, hq3, .of_steps (Steps.trans harr (.one step_inLoop)) harr3⟩
      | exit id => exact ⟨_, a1, w1, ⟨fr2, H2, E2, hq, hr2⟩, .pass (x := .inLoop c) rfl (fun _ _ => .inl (by simp)) harr⟩
      | goto l => exact ⟨_, a1, w1, ⟨fr2, H2, E2, hq, hr2⟩, .pass (x := .inLoop c) rfl (fun _ _ => .inl (by simp)) harr⟩
      | ret => exact ⟨_, a1, w1, ⟨fr2, H2, E2, hq, hr2⟩, .pass (x := .inLoop c) rfl (fun _ _ => .inl (by simp)) harr⟩
      | panic ch => exact ⟨_, a1, w1, ⟨fr2, H2, E2, hq, hr2⟩, .pass (x := .inLoop c) rfl (fun _ _ => .inl (by simp)) harr⟩
      | outgrown => exact ⟨_, a1, w1, ⟨fr2, H2, E2, hq, hr2⟩, .pass (x := .inLoop c) rfl (fun _ _ => .inl (by simp)) harr⟩
  obtain ⟨e, a', w', hq, harr⟩ := key _ x0 rfl hI _ a w (he.rel (Nat.le_trans hnt.2 (hh x0)) hr)
  exact ⟨e, a', w', hq, .of_steps (.one step_loop) harr⟩
end Go.Proofs.YtdhfakajlnidiaaGreat
namespace Go.Proofs.YtdhfakajlnidiaaGreat
open Go.RowKit

/-! The check of the types: lists of names, terms' types, comparing. -/
def cmpB (us : List UnitD) (a b : TypeD) : Bool :=
  if a.kind = b.kind then
    if a.kind = 4 then decide (a.names = b.names)
    else if a.kind = 1 ∧ a.unit ≠ -1 ∧ b.unit ≠ -1 then (match us[a.unit.toNat]?, us[b.unit.toNat]? with | some u, some v => decide (u.base = v.base) | _, _ => false)
    else decide (a.unit = b.unit)
  else false
set_option maxRecDepth 100000 in
set_option maxHeartbeats 4000000 in
theorem Equal_pure (l m : List ByteArray) (na nb : Option BE) (hl : l.length < 9223372036854775807) : Pure Tryz.prog 79 [.slm 1 na strC l, .slm 1 nb strC m] (boolD (decide (l = m))) := by
  obtain ⟨r, hr⟩ : ∃ r, r = decide (l = m) := ⟨_, rfl⟩
  rw [← hr]
  obtain ⟨n, hn⟩ : ∃ n : Nat, n = l.length := ⟨_, rfl⟩
  refine Pure.intro (want := [boolD r]) T_ok follows Tryz.func79 rfl (by kernel_rfl) (rs := [.tmp 4]) rfl (by kernel_rfl) ?_
  generalize hP : Tryz.prog = P at *
  have hT : T.ok P := hP ▸ T_ok
  have hm : P.follows .mixedOrders = true := hP ▸ follows
  unfold Tryz.f79
  dsimp only
  cbv
  refine SplitP.mk (fun h => ?_) (fun h => ?_)
  · have h3 : ((l.length : Int) != (m.length : Int)) = true := h
    refine .mk (.cons (.eq (.bool ?_)) .nil) rfl
    rw [BE.lit_d, BE.var_d]
    rw [hr]; symm; exact decide_eq_false fun e => by rw [e] at h3; simp at h3
  have hlm : l.length = m.length := by
    have h3 : ((l.length : Int) != (m.length : Int)) = false := h
    simp at h3
    omega
  refine CodeP.loopc hT hm (X := Nat) (fun k => [(13, .int .i64 (.nat k))]) (fun k => k ≤ l.length ∧ r = decide (l.drop k = m.drop k)) (fun k => n - k) 0 ⟨by simp, hr⟩ (Nat.zero_le _) ?_ rfl ?_
  · (cbv; (repeat' (first | exact SnD.refl _ | exact trivial | exact SnD.nat0 | refine And.intro ?_ ?_)))
  intro k ⟨hk, hq⟩
  cbv
  refine SplitP.mk (fun hs => ?_) (fun hs => ?_)
  · have hkn : k < l.length := by
      have h5 := of_decide_eq_true (show decide ((k : Int) < (l.length : Int)) = true from hs)
      omega
    clear hs
    have hdx : ∀ {α : Type} {l : List α} {k : Nat} {x : α}, l[k]? = some x → l.drop k = x :: l.drop (k + 1) := fun {α l k x} h => by
      obtain ⟨h1, h2⟩ := List.getElem?_eq_some_iff.1 h
      rw [List.drop_eq_getElem_cons h1, h2]
    refine ElemP.mk (by show (0 : Int) ≤ (k : Int) ∧ (k : Int) < (l.length : Int); omega) (fun x hx => ?_)
    replace hx : l[k]? = some x := hx
    cbv
    refine ElemP.mk (by show (0 : Int) ≤ (k : Int) ∧ (k : Int) < (m.length : Int); omega) (fun y hy => ?_)
    replace hy : m[k]? = some y := hy
    rw [hdx hx, hdx hy] at hq
    clear hdx
    cbv
    refine SplitP.mk (fun h => ?_) (fun h => ?_)
    · have h3 : (!(x == y)) = true := h
      have hne : x ≠ y := by simpa using h3
      refine .mk (.cons (.eq (.bool ?_)) .nil) rfl
      rw [BE.lit_d, BE.var_d]
      rw [hq]; symm; exact decide_eq_false fun e => hne (List.cons.inj e).1
    · have h3 : (!(x == y)) = false := h
      have hxy : x = y := by simpa using h3
      refine BackP.intro (k + 1) ⟨by omega, by rw [hq, hxy]; exact decide_eq_decide.2 (by simp)⟩ (by show n - (k + 1) < n - k; omega) ⟨?_, HEnt.refl _, rfl⟩
      (cbv; (repeat' (first | exact SnD.refl _ | exact trivial | exact SnD.nat0 | refine And.intro ?_ ?_)))
      exact .inc (by omega)
  · have hkn : l.length ≤ k := by
      have h5 := of_decide_eq_false (show decide ((k : Int) < (l.length : Int)) = false from hs)
      omega
    refine .mk (.cons (.eq (.bool ?_)) .nil) rfl
    rw [BE.lit_d, BE.var_d]
    rw [hq, List.drop_of_length_le (by omega), List.drop_of_length_le (by omega)]; simp
set_option maxRecDepth 100000 in
set_option maxHeartbeats 4000000 in
theorem termType_pure (S : SourceD) (r : RuleD) (t : TermD) (n : Int) (hn : n ≤ (r.froms.length : Int)) : Pure Tryz.prog 76 [.agg (S.c ++ r.c), .agg t.c, i64 n] (tyR (termTy? S r.froms t n)) := by
  have hty := fun i j => typeOf_pure S i j
  obtain ⟨o, ho⟩ : ∃ o, o = termTy? S r.froms t n := ⟨_, rfl⟩
  rw [← ho]
  unfold termTy? at ho
  obtain ⟨TO, hTO⟩ : ∃ f, f = typeOf? S := ⟨_, rfl⟩
  rw [← hTO] at hty ho
  clear hTO
  obtain ⟨ni, is, nu, us, ns, ss, nr, rs, nc, cs, np, ps⟩ := S
  obtain ⟨r1, r2, r3, fl, r5, r6, r7, r8⟩ := r
  obtain ⟨u1, u2, u3, u4, u5⟩ := t
  simp only at ho hn
  obtain ⟨t, ht⟩ : ∃ t, t = o.getD ty0 := ⟨_, rfl⟩
  obtain ⟨b, hb⟩ : ∃ b, b = o.isSome := ⟨_, rfl⟩
  show Pure Tryz.prog 76 _ (.tup [.agg (o.getD ty0).c, boolD o.isSome])
  rw [← ht, ← hb]
  obtain ⟨t1, t2, t3, t4, t5, t6, t7⟩ := t
  refine Pure.intro (want := [.agg [.int .i64 (.var t1), .int .i64 (.var t2), .int .i64 (.var t3), .str t4, .int .i64 (.var t5), .slm 1 (some (.var t6)) strC t7], boolD b]) T_ok follows Tryz.func76 rfl (by kernel_rfl) (rs := [.cell 6 51, .tmp 7]) rfl (by kernel_rfl) ?_
  generalize hP : Tryz.prog = P at *
  have hT : T.ok P := hP ▸ T_ok
  have hm : P.follows .mixedOrders = true := hP ▸ follows
  unfold Tryz.f76
  dsimp only
  cbv
  have hz : o = none → ∀ {H H' : List Bk}, SnDs H H' [.agg [.int .i64 (.lit 0), .int .i64 (.lit 0), .int .i64 (.lit 0), .str ⟨#[]⟩, .int .i64 (.lit 0), .nils], .bool (.lit false)] [.agg [.int .i64 (.var t1), .int .i64 (.var t2), .int .i64 (.var t3), .str t4, .int .i64 (.var t5), .slm 1 (some (.var t6)) strC t7], boolD b] := fun h {H H'} => by
    rw [h] at ht hb
    cases ht
    subst hb
    exact .cons (.eq ty0_eq) (.cons (.eq (.bool rfl)) .nil)
  refine SplitP.mk (fun h1 => ?_) (fun h1 => ?_)
  · replace h1 : u3 < 0 := of_decide_eq_true h1
    exact .mk (hz (by rw [ho, if_neg (by omega)])) rfl
  replace h1 : ¬ u3 < 0 := of_decide_eq_false h1
  refine SplitP.mk (fun h2 => ?_) (fun h2 => ?_)
  · replace h2 : u3 ≥ n := of_decide_eq_true h2
    exact .mk (hz (by rw [ho, if_neg (by omega)])) rfl
  replace h2 : ¬ u3 ≥ n := of_decide_eq_false h2
  rw [if_pos (by omega)] at ho
  refine ElemP.mk (by show (0 : Int) ≤ u3 ∧ u3 < (fl.length : Int); have hn2 : n ≤ (fl.length : Int) := hn; omega) (fun f hf => ?_)
  replace hf : fl[u3.toNat]? = some f := hf
  rw [hf] at ho
  simp only at ho
  obtain ⟨f1, f2, f3, ⟨f4, f5, f6, f7, f8⟩⟩ := f
  simp only at ho
  have hty2 := hty f3 u4
  rw [← ho] at hty2
  replace hty2 : Pure P 58 [.agg (SourceD.c ⟨ni, is, nu, us, ns, ss, nr, rs, nc, cs, np, ps⟩), i64 f3, i64 u4] (.tup [.agg (o.getD ty0).c, boolD o.isSome]) := hty2
  rw [← ht, ← hb] at hty2
  cbv
  refine PureP.mk _ hty2 rfl ?_
  cbv
  exact .mk (.cons (.eq (.refl _)) (.cons (.eq (.refl _)) .nil)) rfl
set_option maxRecDepth 100000 in
set_option maxHeartbeats 4000000 in
theorem comparable_pure (S : SourceD) (a b : TypeD) (ha : a.kind = 1 → -1 ≤ a.unit ∧ a.unit < (S.units.length : Int)) (hb : b.kind = 1 → -1 ≤ b.unit ∧ b.unit < (S.units.length : Int)) (hl : a.names.length < 9223372036854775807) : Pure Tryz.prog 78 [.agg S.c, .agg a.c, .agg b.c] (boolD (cmpB S.units a b)) := by
  have hE := Equal_pure a.names b.names (some (.var a.nnames)) (some (.var b.nnames)) hl
  obtain ⟨r, hr⟩ : ∃ r, r = cmpB S.units a b := ⟨_, rfl⟩
  rw [← hr]
  unfold cmpB at hr
  obtain ⟨ni, is, nu, us, ns, ss, nr, rs, nc, cs, np, ps⟩ := S
  obtain ⟨a1, a2, a3, a4, a5, a6, a7⟩ := a
  obtain ⟨b1, b2, b3, b4, b5, b6, b7⟩ := b
  simp only at hr ha hb hE hl
  obtain ⟨eq, heq⟩ : ∃ e, e = decide (a7 = b7) := ⟨_, rfl⟩
  rw [← heq] at hE hr
  refine Pure.intro (want := [boolD r]) T_ok follows Tryz.func78 rfl (by kernel_rfl) (rs := [.tmp 6]) rfl (by kernel_rfl) ?_
  generalize hP : Tryz.prog = P at *
  have hT : T.ok P := hP ▸ T_ok
  have hm : P.follows .mixedOrders = true := hP ▸ follows
  unfold Tryz.f78
  dsimp only
  cbv
  refine SplitP.mk (fun h1 => ?_) (fun h1 => ?_)
  · have h3 : (a1 != b1) = true := h1
    have h4 : a1 ≠ b1 := by simpa using h3
    refine .mk (.cons (.eq (.bool ?_)) .nil) rfl
    show false = r
    rw [hr, if_neg h4]
  have h3 : (a1 != b1) = false := h1
  have h4 : a1 = b1 := by simpa using h3
  rw [if_pos h4] at hr
  clear h1 h3
  refine SplitP.mk (fun h1 => ?_) (fun h1 => ?_)
  · have h3 : (a1 == 4) = true := h1
    have h5 : a1 = 4 := by simpa using h3
    rw [if_pos h5] at hr
    refine CallP.pure _ hE rfl ?_
    cbv
    refine .mk (.cons (.eq (.bool ?_)) .nil) rfl
    show eq = r
    exact hr.symm
  have h3 : (a1 == 4) = false := h1
  have h5 : a1 ≠ 4 := by simpa using h3
  rw [if_neg h5] at hr
  clear h1 h3
  refine SplitP.mk (fun h1 => ?_) (fun h1 => ?_)
  · have h3 : (a1 != 1) = true := h1
    have h6 : a1 ≠ 1 := by simpa using h3
    rw [if_neg (fun q => h6 q.1)] at hr
    refine .mk (.cons (.eq (.bool ?_)) .nil) rfl
    show (a5 == b5) = r
    rw [hr]
    rfl
  have h3 : (a1 != 1) = false := h1
  have h6 : a1 = 1 := by simpa using h3
  replace ha := ha h6
  replace hb := hb (h4.symm.trans h6)
  clear h1 h3
  refine SplitP.mk (fun h1 => ?_) (fun h1 => ?_)
  · have h3 : (a5 == -1) = true := h1
    have h7 : a5 = -1 := by simpa using h3
    rw [if_neg (fun q => q.2.1 h7)] at hr
    refine .mk (.cons (.eq (.bool ?_)) .nil) rfl
    show (a5 == b5) = r
    rw [hr]
    rfl
  have h3 : (a5 == -1) = false := h1
  have h7 : a5 ≠ -1 := by simpa using h3
  clear h1 h3
  refine SplitP.mk (fun h1 => ?_) (fun h1 => ?_)
  · have h3 : (b5 == -1) = true := h1
    have h8 : b5 = -1 := by simpa using h3
    rw [if_neg (fun q => q.2.2 h8)] at hr
    refine .mk (.cons (.eq (.bool ?_)) .nil) rfl
    show (a5 == b5) = r
    rw [hr]
    rfl
  have h3 : (b5 == -1) = false := h1
  have h8 : b5 ≠ -1 := by simpa using h3
  clear h1 h3
  rw [if_pos ⟨h6, h7, h8⟩] at hr
  refine ElemP.mk (by show (0 : Int) ≤ a5 ∧ a5 < (us.length : Int); have ha2 : -1 ≤ a5 ∧ a5 < (us.length : Int) := ha; omega) (fun u hu => ?_)
  replace hu : us[a5.toNat]? = some u := hu
  have hb' := Lib.hid hb
  obtain ⟨u1, u2, u3, u4, u5⟩ := u
  cbv
  have hb := hb'.out
  refine ElemP.mk (by show (0 : Int) ≤ b5 ∧ b5 < (us.length : Int); have hb2 : -1 ≤ b5 ∧ b5 < (us.length : Int) := hb; omega) (fun v hv => ?_)
  replace hv : us[b5.toNat]? = some v := hv
  obtain ⟨v1, v2, v3, v4, v5⟩ := v
  cbv
  refine .mk (.cons (.eq (.bool ?_)) .nil) rfl
  show (u4 == v4) = r
  rw [hr, hu, hv]
  rfl
end Go.Proofs.YtdhfakajlnidiaaGreat
namespace Go.Proofs.YtdhfakajlnidiaaGreat
open Go.RowKit

/-! A map of the call's own, whose keys and elements are plain: said key by key. -/
def GM (P : Program) (k e : TypeId) (w : World) (b n : Nat) (S : Lit → Option Lit) : Prop :=
  ∃ D : DataW Unit, w.ownsMap P k (plainElem P e) b n D ∧ Maps.IsMap D ∧ ∀ kl, Maps.has D kl = (S kl).isSome ∧ ∀ zd, D.atKey kl zd = match S kl with | some l => .lit l | none => zd
theorem GM.lt {P : Program} {k e : TypeId} {w : World} {b n : Nat} {S : Lit → Option Lit} (h : GM P k e w b n S) : b < w.heap.size := h.choose_spec.1.lt
theorem GM.made (P : Program) (k e : TypeId) (w : World) : GM P k e (w.alloc (.map #[] 0)) w.heap.size 0 (fun _ => none) :=
  ⟨.map [], World.ownsMap_made _ _ _ _, Maps.isMap_empty, fun _ => ⟨rfl, fun _ => rfl⟩⟩
theorem GM.kept {P : Program} {k e : TypeId} {w w' : World} {b n : Nat} {S : Lit → Option Lit} (h : GM P k e w b n S) {row : Option Nat} (hg : w.grownBy w' row) (hne : some b ≠ row) : GM P k e w' b n S :=
  let ⟨D, h1, h2⟩ := h; ⟨D, h1.kept hg hne, h2⟩
theorem GM.alloc {P : Program} {k e : TypeId} {w : World} {b n : Nat} {S : Lit → Option Lit} (h : GM P k e w b n S) (o : Obj) : GM P k e (w.alloc o) b n S := h.kept (World.grownBy_alloc w o none) (by simp)
theorem GM.drew {P : Program} {k e : TypeId} {w : World} {b n : Nat} {S : Lit → Option Lit} (h : GM P k e w b n S) : GM P k e w.drew b n S := h
theorem GM.ext {P : Program} {k e : TypeId} {w : World} {b n : Nat} {S S' : Lit → Option Lit} (h : GM P k e w b n S) (hS : ∀ l, S l = S' l) : GM P k e w b n S' := by
  have : S = S' := funext hS
  exact this ▸ h
theorem GM.mono {P : Program} {k e : TypeId} {w : World} {b n : Nat} {S : Lit → Option Lit} (h : GM P k e w b n S) {n' : Nat} (hn : n ≤ n') : GM P k e w b n' S :=
  let ⟨D, h1, h2⟩ := h; ⟨D, h1.mono hn, h2⟩
theorem GM.below {P : Program} {k e : TypeId} {w w' : World} {b n : Nat} {S : Lit → Option Lit} (h : GM P k e w b n S) {B : Nat} (hb : Below B w w') (hlt : b < B) : GM P k e w' b n S := by
  obtain ⟨D, ⟨es, clock, h1, h2⟩, h3⟩ := h
  exact ⟨D, ⟨es, clock, (hb.block b hlt).trans h1, h2⟩, h3⟩
/-- what a boolean element reads as -/
theorem plainElem_bool_inv {H : Type} {P : Program} {e : TypeId} (he : P.underlying e = some .bool) {v : Value} {z : DataW H × List MemPlace} (h : plainElem P e v = some z) : ∃ x, v = .bool x ∧ z = (.lit (.bool x), []) := by
  unfold plainElem at h
  rw [he] at h
  split at h
  · cases h; exact ⟨_, rfl, rfl⟩
  · rename_i h1; simp at h1
  · rename_i h1; simp at h1
  · cases h

section
variable {P : Program} (w : World) {ops : Array Oper} {rest : List Oper} {o : Oper} {a : Act} {Q : Exit → Act → World → Prop}
/-- 'm[k]' at boolean elements -/
theorem wpList_lookup_gm_bool (hg : o.guard = none) (m x : Operand) (t : TypeId) (hop : o.op = Op.lookup t m x false)
    (k e : TypeId) (K : Maps.Keyed P k) (ht : P.underlying t = some (.map k e)) (he : P.underlying e = some .bool) (hz : (zeroValue e).run P w = .ok (.bool false) w) (b n : Nat) (S : Lit → Option Lit)
    (hm : a.eval m = .map (some b)) (hown : GM P k e w b n S) (key : Value) (kl : Lit) (hx : a.eval x = key) (hkey : keyOf P k key = some kl) (c : Bool)
    (hc : (match S kl with | some l => l | none => .bool false) = .bool c)
    (hK : wpList P ops Q rest (a.put o.dst (.bool c)) w) : wpList P ops Q (o :: rest) a w := by
  refine wpList_plain hg fun K' hK' => ?_
  obtain ⟨D, h1, h2, h3⟩ := hown
  obtain ⟨v, ps, hrun, hv⟩ := h1.lookup K ht hz (plainElem_bool he false) hkey
  obtain ⟨x', rfl, hx'⟩ := plainElem_bool_inv he hv
  rw [(h3 kl).2] at hx'
  have hcx : x' = c := by
    cases hS : S kl with
    | none => rw [hS] at hc hx'; simp at hc hx'; rw [hx'.1, hc]
    | some l => rw [hS] at hc hx'; simp at hc hx'; simp [hc] at hx'; exact hx'.1.symm
  subst hcx
  unfold Oper.wp
  simp [execOp, hop, hm, hx, hrun, Result.andThen]
  exact hK' _ _ hK
/-- 'm[k]' at integer elements -/
theorem wpList_lookup_gm_int (hg : o.guard = none) (m x : Operand) (t : TypeId) (hop : o.op = Op.lookup t m x false)
    (k e : TypeId) (K : Maps.Keyed P k) (ht : P.underlying t = some (.map k e)) {q : IntKind} (he : P.underlying e = some (.int q)) (hz : (zeroValue e).run P w = .ok (.int q 0) w) (b n : Nat) (S : Lit → Option Lit)
    (hm : a.eval m = .map (some b)) (hown : GM P k e w b n S) (key : Value) (kl : Lit) (hx : a.eval x = key) (hkey : keyOf P k key = some kl) (c : Int)
    (hc : (match S kl with | some l => l | none => .int q 0) = .int q c)
    (hK : wpList P ops Q rest (a.put o.dst (.int q c)) w) : wpList P ops Q (o :: rest) a w := by
  refine wpList_plain hg fun K' hK' => ?_
  obtain ⟨D, h1, h2, h3⟩ := hown
  obtain ⟨v, ps, hrun, hv⟩ := h1.lookup K ht hz (plainElem_int he (by cases q <;> decide)) hkey
  obtain ⟨x', rfl, hx', _⟩ := plainElem_int_inv he hv
  rw [(h3 kl).2] at hx'
  have hcx : x' = c := by
    cases hS : S kl with
    | none => rw [hS] at hc hx'; simp at hc hx'; omega
    | some l => rw [hS] at hc hx'; simp at hc hx'; simp [hc] at hx'; omega
  subst hcx
  unfold Oper.wp
  simp [execOp, hop, hm, hx, hrun, Result.andThen]
  exact hK' _ _ hK
/-- 'm[k] = v' -/
theorem wpList_mapUpdate_gm (hg : o.guard = none) (m x v : Operand) (t : TypeId) (hop : o.op = Op.mapUpdate t m x v)
    (k e : TypeId) (K : Maps.Keyed P k) (ht : P.underlying t = some (.map k e)) (b n : Nat) (S : Lit → Option Lit)
    (hm : a.eval m = .map (some b)) (hown : GM P k e w b n S) (hn : n < maxLen) (key val : Value) (kl : Lit) (hx : a.eval x = key) (hv : a.eval v = val) (hkey : keyOf P k key = some kl) (hkl : WideAt.IsKeyLit kl)
    (vl : Lit) (ps : List MemPlace) (hval : plainElem P e val = some ((.lit vl : DataW Unit), ps))
    (hK : ∀ w', GM P k e w' b (n + 1) (fun l => if l.sameKey kl then some vl else S l) → w.grownBy w' (some b) → wpList P ops Q rest (a.put o.dst undef) w') :
    wpList P ops Q (o :: rest) a w := by
  obtain ⟨D, h1, h2, h3⟩ := hown
  refine wpList_mapUpdate_own w hg m x v t hop k e K ht _ b n D hm h1 hn key val kl hx hv hkey _ ps hval fun w' h4 h5 => hK w' ⟨_, h4, h2.put _ _, fun l => ?_⟩ h5
  by_cases hl : l = kl
  · subst hl
    simp [Maps.has_put_same h2 hkl, Maps.atKey_put_same h2 hkl, WideAt.sameKey_self hkl]
  · have e1 : l.sameKey kl = false := Bool.eq_false_iff.2 fun h => hl (WideAt.sameKey_eq h)
    simp [Maps.has_put_other hl, Maps.atKey_put_other hl, h3 l, e1]
end
/-- 'make(map[K]V, hint)' -/
theorem run_makeMap_hint {P : Program} {t k e : TypeId} (ht : P.underlying t = some (.map k e)) (q : IntKind) (z : Int) (w : World) :
    (Instr.makeMap t (some (.int q z))).run P w = .ok (.map (some w.heap.size)) (w.alloc (.map #[] 0)) := by
  have h1 : (asIntOf (.int q z)).run P w = .ok (q, z) w := rfl
  simp [Instr.makeMap, run_underlying ht, asInt, h1]
end Go.Proofs.YtdhfakajlnidiaaGreat
namespace Go.Proofs.YtdhfakajlnidiaaGreat
open Go.RowKit

/-! The check of the types: different strings, by a walk over worlds. -/
def StrAt (w : World) (a : Option Addr) (L : List ByteArray) : Prop := ∀ k (hk : k < L.length), ∃ b off, a = some ⟨b, off, none⟩ ∧ b < w.heap.size ∧ L[k].size ≤ maxLen ∧ w.cell? ⟨b, off + k, none⟩ = some (.string L[k])
theorem keyS : Maps.Keyed Tryz.prog 9 := Maps.string_keyed Tryz.underlying9
theorem keyI : Maps.Keyed Tryz.prog 3 := Maps.int_keyed Tryz.underlying3
theorem zero4 (w : World) : (zeroValue 4).run Tryz.prog w = .ok (.bool false) w := by kernel_rfl
/-- the strings seen -/
def seenS (L : List ByteArray) (k : Nat) (l : Lit) : Option Lit := if (L.take k).any (fun s => l.sameKey (.string s.data.toList)) then some (.bool true) else none
theorem seenS_at {L : List ByteArray} {k : Nat} (s : ByteArray) : seenS L k (.string s.data.toList) = if s ∈ L.take k then some (.bool true) else none := by
  unfold seenS
  have hiff : (L.take k).any (fun x => (Lit.string s.data.toList).sameKey (.string x.data.toList)) = true ↔ s ∈ L.take k := by
   simp only [List.any_eq_true, Lit.sameKey]
   constructor
   · rintro ⟨x, hx, he⟩
     have : s = x := by
       obtain ⟨⟨s⟩⟩ := s
       obtain ⟨⟨x⟩⟩ := x
       simpa using he
     exact this ▸ hx
   · intro h
     exact ⟨s, h, by simp⟩
  by_cases h : s ∈ L.take k
  · rw [if_pos h, if_pos (hiff.2 h)]
  · rw [if_neg h, if_neg (fun h2 => h (hiff.1 h2))]
theorem seenS_succ {L : List ByteArray} {k : Nat} (hk : k < L.length) (l : Lit) : (if l.sameKey (.string L[k].data.toList) then some (.bool true) else seenS L k l) = seenS L (k + 1) l := by
  unfold seenS
  rw [take_succ' hk, List.any_append]
  simp only [List.any_cons, List.any_nil, Bool.or_false]
  cases l.sameKey (.string L[k].data.toList) <;> simp

set_option maxRecDepth 20000 in
set_option maxHeartbeats 2000000 in
theorem diffS_any (a : Option Addr) (cap : Nat) (L : List ByteArray) (w : World) (hs : StrAt w a L) (hl : L.length ≤ 100000) :
    Calls Tryz.prog 105 #[.slice a L.length cap] w fun e w' => e = .returned (.bool (decide L.Nodup)) ∧ Below w.heap.size w w' := by
  have Hs := Lib.hid hs
  clear hs
  have hmm := @run_makeMap_hint Tryz.prog 175 9 4 Tryz.underlying175 .i64 L.length
  go_enter Tryz.func105, Tryz.ntmps105
  go_wp2
  go_loopw [11] (fun i wr => ∃ k : Nat, k ≤ L.length ∧ i = .int .i64 k ∧ GM Tryz.prog 9 4 wr w.heap.size k (seenS L k) ∧ Hid ((L.take k).Nodup) ∧ Below w.heap.size w wr) (fun i _ => L.length - (intOf i).toNat)
  case atStart => exact ⟨0, Nat.zero_le _, rfl, (GM.made ..).ext (fun l => by simp [seenS]), Lib.hid (by simp), (Below.refl _ _).alloc (Nat.le_refl _) _⟩
  case round =>
    obtain ⟨k, hk, rfl, hm, Hn, hbw⟩ := hrel
    have hsz := hbw.size
    by_cases hlt : k < L.length
    · obtain ⟨b, off, rfl, hb, hsl, c0⟩ := Hs.out k hlt
      rw [← hbw.cell (p := ⟨b, _, none⟩) hb] at c0
      have hat := seenS_at (L := L) (k := k) L[k]
      have hsc := seenS_succ hlt
      generalize hf : L[k] = f at *
      have Hf := Lib.hid hf
      have Hsc := Lib.hid hsc
      have hkey := Lib.hid (WideMaps.keyOf_string_mk Tryz.underlying9 hsl)
      clear hsl
      by_cases hin : f ∈ L.take k
      · rw [if_pos hin] at hat
        have Hat := Lib.hid hat
        have Hin := Lib.hid hin
        clear hf hsc hat hin hmm
        go_wp2_with (first | (at_lookup; refine wpList_lookup_gm_bool _ rfl _ _ 175 rfl 9 4 keyS Tryz.underlying175 Tryz.underlying4 (zero4 _) _ k _ rfl hm _ _ rfl hkey.out true (by rw [Hat.out]) ?_) | go_in)
        go_ret
        exact ⟨ret_bool (by rw [← Hf.out] at Hin; simp [not_nodup_take hlt Hin.out]), hbw⟩
      · rw [if_neg hin] at hat
        have Hat := Lib.hid hat
        have Hin := Lib.hid hin
        clear hf hsc hat hin hmm
        go_wp2_with (first | (at_lookup; refine wpList_lookup_gm_bool _ rfl _ _ 175 rfl 9 4 keyS Tryz.underlying175 Tryz.underlying4 (zero4 _) _ k _ rfl hm _ _ rfl hkey.out false (by rw [Hat.out]) ?_) | (at_mapUpdate; refine wpList_mapUpdate_gm _ rfl _ _ _ 175 rfl 9 4 keyS Tryz.underlying175 _ k _ rfl hm (by unfold maxLen; omega) _ _ _ rfl rfl hkey.out trivial (.bool true) [] (plainElem_bool Tryz.underlying4 true) ?_; intro w1 hm1 hg1) | go_in)
        go_roundw
        case rel => exact ⟨k + 1, by omega, by go_num, hm1.ext Hsc.out, Lib.hid (take_nodup_succ hlt Hn.out (by rw [Hf.out]; exact Hin.out)), hbw.grown hg1 hsz (fun j hj => by cases hj; exact Nat.le_refl _)⟩
        case measure => simp [intOf]; omega
    · have hq : k = L.length := by omega
      subst hq
      go_wp2
      go_ret
      exact ⟨ret_bool (by have := Hn.out; simpa using this), hbw⟩
theorem strAt_of {w : World} {E : Env} {nb : Option BE} {L : List ByteArray} {v : Value} (h : DRep w E (.slm 1 nb strC L) v) (hG : ∀ b, E.G b → b < w.heap.size) : ∃ a cap, v = .slice a L.length cap ∧ StrAt w a L := by
  cases h with
  | @slm _ _ _ _ _ _ a cap u hnb hc hm hx ha hh =>
    refine ⟨a, cap, rfl, fun k hk => ?_⟩
    obtain ⟨b, o, rfl, hg, hcl⟩ := ha (fun e => by rw [e] at hk; cases hk)
    have h1 := hcl k 0 hk (by decide)
    have h2 := hh k L[k] 0 _ (List.getElem?_eq_getElem hk) rfl
    rw [show o + k * 1 + 0 = o + k by omega] at h1
    generalize u k 0 = x at h1 h2
    cases h2 with
    | str hs => exact ⟨b, o, rfl, hG b hg, hs, h1⟩
set_option maxRecDepth 100000 in
set_option maxHeartbeats 4000000 in
theorem diffS_pure (L : List ByteArray) (nb : Option BE) (hl : L.length ≤ 100000) : Pure Tryz.prog 105 [.slm 1 nb strC L] (boolD (decide L.Nodup)) := by
  refine ⟨⟨_, _, Tryz.func105, rfl, by kernel_rfl⟩, fun w G vs hL hG hv => ?_⟩
  obtain ⟨h1, h2⟩ := hv
  obtain ⟨vl⟩ := vs
  match vl, h1 with
  | [v], _ =>
    obtain ⟨a, cap, rfl, hs⟩ := strAt_of (h2 0 _ v rfl rfl) hG
    refine (diffS_any a cap L w hs hl).mono ?_
    rintro e w' ⟨rfl, hb⟩
    exact ⟨_, G, rfl, hb, fun _ h => h, fun _ h => .inl h, fun b h => Nat.lt_of_lt_of_le (hG b h) hb.size, .bool (e := .var (decide L.Nodup))⟩
end Go.Proofs.YtdhfakajlnidiaaGreat
namespace Go.Proofs.YtdhfakajlnidiaaGreat
open Go.RowKit

/-! The check of the types: kinds. -/
def kind1 (t : TypeD) (n : Int) : Bool := decide (0 ≤ t.lo) && (decide (t.lo ≤ t.hi) && (decide (t.hi ≤ 1048576) && (decide (-1 ≤ t.unit) && (decide (t.unit < n) && decide (t.names.length = 0)))))
def kind4 (t : TypeD) : Bool := decide (t.lo = 0) && (decide (t.hi = (t.names.length : Int) - 1) && (decide (t.unit = -1) && (decide (1 ≤ t.names.length) && (decide (t.names.length ≤ 16) && decide t.names.Nodup))))
set_option maxHeartbeats 4000000 in
set_option maxRecDepth 100000 in
set_option maxHeartbeats 4000000 in
theorem kind1_pure (t : TypeD) (n : Int) : Pure Tryz.prog 101 [.agg t.c, i64 n] (boolD (kind1 t n)) := by
  obtain ⟨r, hr⟩ : ∃ r, r = kind1 t n := ⟨_, rfl⟩
  rw [← hr]
  unfold kind1 at hr
  obtain ⟨t1, t2, t3, t4, t5, t6, t7⟩ := t
  simp only at hr
  refine Pure.intro (want := [boolD r]) T_ok follows Tryz.func101 rfl (by kernel_rfl) (rs := [.tmp 4]) rfl (by kernel_rfl) ?_
  generalize hP : Tryz.prog = P at *
  have hT : T.ok P := hP ▸ T_ok
  have hm : P.follows .mixedOrders = true := hP ▸ follows
  unfold Tryz.f101
  dsimp only
  cbv
  ((repeat' (refine SplitP.mk (fun _ => ?_) (fun _ => ?_))); all_goals (try simp only [BE.den, IE.den, cmpDen, Bool.not_eq_true, Bool.not_eq_false, Bool.not_eq_eq_eq_not, Bool.not_true, Bool.not_false, dec_t, dec_f, beq_iff_eq, beq_eq_false_iff_ne, bne_iff_ne, ne_eq, bne_eq_false_iff_eq, ge_iff_le, gt_iff_lt, Int.not_lt, Int.not_le] at *); all_goals (refine .mk (.cons (.eq (.bool ?_)) .nil) rfl; simp only [BE.den, IE.den, cmpDen]; rw [hr, Bool.eq_iff_iff]; simp only [Bool.and_eq_true, Bool.or_eq_true, dec_t, dec_f, beq_iff_eq, bne_iff_ne, ge_iff_le, gt_iff_lt, Bool.false_eq_true, false_iff, true_iff]; first | omega | grind))
def kindQ (h : Int) (t : TypeD) : Bool := decide (t.lo = 0) && (decide (t.hi = h) && (decide (t.unit = -1) && decide (t.names.length = 0)))
set_option maxHeartbeats 4000000 in
set_option maxRecDepth 100000 in
set_option maxHeartbeats 4000000 in
theorem kind2_pure (t : TypeD) (n : Int) : Pure Tryz.prog 102 [.agg t.c, i64 n] (boolD (kindQ 1023 t)) := by
  obtain ⟨r, hr⟩ : ∃ r, r = kindQ 1023 t := ⟨_, rfl⟩
  rw [← hr]
  unfold kindQ at hr
  obtain ⟨t1, t2, t3, t4, t5, t6, t7⟩ := t
  simp only at hr
  refine Pure.intro (want := [boolD r]) T_ok follows Tryz.func102 rfl (by kernel_rfl) (rs := [.tmp 4]) rfl (by kernel_rfl) ?_
  generalize hP : Tryz.prog = P at *
  have hT : T.ok P := hP ▸ T_ok
  have hm : P.follows .mixedOrders = true := hP ▸ follows
  unfold Tryz.f102
  dsimp only
  cbv
  ((repeat' (refine SplitP.mk (fun _ => ?_) (fun _ => ?_))); all_goals (try simp only [BE.den, IE.den, cmpDen, Bool.not_eq_true, Bool.not_eq_false, Bool.not_eq_eq_eq_not, Bool.not_true, Bool.not_false, dec_t, dec_f, beq_iff_eq, beq_eq_false_iff_ne, bne_iff_ne, ne_eq, bne_eq_false_iff_eq, ge_iff_le, gt_iff_lt, Int.not_lt, Int.not_le] at *); all_goals (refine .mk (.cons (.eq (.bool ?_)) .nil) rfl; simp only [BE.den, IE.den, cmpDen]; rw [hr, Bool.eq_iff_iff]; simp only [Bool.and_eq_true, Bool.or_eq_true, dec_t, dec_f, beq_iff_eq, bne_iff_ne, ge_iff_le, gt_iff_lt, Bool.false_eq_true, false_iff, true_iff]; first | omega | grind))
set_option maxHeartbeats 4000000 in
set_option maxRecDepth 100000 in
set_option maxHeartbeats 4000000 in
theorem kind3_pure (t : TypeD) (n : Int) : Pure Tryz.prog 103 [.agg t.c, i64 n] (boolD (kindQ 4095 t)) := by
  obtain ⟨r, hr⟩ : ∃ r, r = kindQ 4095 t := ⟨_, rfl⟩
  rw [← hr]
  unfold kindQ at hr
  obtain ⟨t1, t2, t3, t4, t5, t6, t7⟩ := t
  simp only at hr
  refine Pure.intro (want := [boolD r]) T_ok follows Tryz.func103 rfl (by kernel_rfl) (rs := [.tmp 4]) rfl (by kernel_rfl) ?_
  generalize hP : Tryz.prog = P at *
  have hT : T.ok P := hP ▸ T_ok
  have hm : P.follows .mixedOrders = true := hP ▸ follows
  unfold Tryz.f103
  dsimp only
  cbv
  ((repeat' (refine SplitP.mk (fun _ => ?_) (fun _ => ?_))); all_goals (try simp only [BE.den, IE.den, cmpDen, Bool.not_eq_true, Bool.not_eq_false, Bool.not_eq_eq_eq_not, Bool.not_true, Bool.not_false, dec_t, dec_f, beq_iff_eq, beq_eq_false_iff_ne, bne_iff_ne, ne_eq, bne_eq_false_iff_eq, ge_iff_le, gt_iff_lt, Int.not_lt, Int.not_le] at *); all_goals (refine .mk (.cons (.eq (.bool ?_)) .nil) rfl; simp only [BE.den, IE.den, cmpDen]; rw [hr, Bool.eq_iff_iff]; simp only [Bool.and_eq_true, Bool.or_eq_true, dec_t, dec_f, beq_iff_eq, bne_iff_ne, ge_iff_le, gt_iff_lt, Bool.false_eq_true, false_iff, true_iff]; first | omega | grind))
set_option maxHeartbeats 4000000 in
set_option maxRecDepth 100000 in
set_option maxHeartbeats 4000000 in
theorem kind4_pure (t : TypeD) (n : Int) (hl : t.names.length ≤ 9223372036854775807) : Pure Tryz.prog 104 [.agg t.c, i64 n] (boolD (kind4 t)) := by
  have hd : (BE.cmp .leq (.len t.names) (.lit 16)).den = true → Pure Tryz.prog 105 [.slm 1 (some (.var t.nnames)) strC t.names] (boolD (decide t.names.Nodup)) := fun h => diffS_pure t.names (some (.var t.nnames)) (by have := of_decide_eq_true (show decide ((t.names.length : Int) ≤ 16) = true from h); omega)
  obtain ⟨r, hr⟩ : ∃ r, r = kind4 t := ⟨_, rfl⟩
  rw [← hr]
  unfold kind4 at hr
  obtain ⟨t1, t2, t3, t4, t5, t6, t7⟩ := t
  simp only at hr hd hl
  obtain ⟨df, hdf⟩ : ∃ d, d = decide t7.Nodup := ⟨_, rfl⟩
  rw [← hdf] at hd hr
  have hsub : binDen .sub .i64 (t7.length : Int) 1 = (t7.length : Int) - 1 := sub64 (by omega) (by omega)
  have HS := Lib.hid hsub
  clear hsub
  refine Pure.intro (want := [boolD r]) T_ok follows Tryz.func104 rfl (by kernel_rfl) (rs := [.tmp 4]) rfl (by kernel_rfl) ?_
  generalize hP : Tryz.prog = P at *
  have hT : T.ok P := hP ▸ T_ok
  have hm : P.follows .mixedOrders = true := hP ▸ follows
  unfold Tryz.f104
  dsimp only
  cbv
  have hsub : binDen .sub .i64 (t7.length : Int) 1 = (t7.length : Int) - 1 := HS.out
  clear HS
  repeat' (first | refine SplitP.mk (fun _ => ?_) (fun _ => ?_) | (refine CallP.pure _ (hd (by assumption)) rfl ?_; cbv))
  all_goals (try simp only [BE.den, IE.den, cmpDen, Bool.not_eq_true, Bool.not_eq_false, Bool.not_eq_eq_eq_not, Bool.not_true, Bool.not_false, dec_t, dec_f, beq_iff_eq, beq_eq_false_iff_ne, bne_iff_ne, ne_eq, bne_eq_false_iff_eq, ge_iff_le, gt_iff_lt, Int.not_lt, Int.not_le] at *)
  all_goals (try simp only [hsub] at *)
  all_goals (refine .mk (.cons (.eq (.bool ?_)) .nil) rfl; simp only [BE.den, IE.den, cmpDen]; rw [hr, Bool.eq_iff_iff]; simp only [Bool.and_eq_true, Bool.or_eq_true, dec_t, dec_f, beq_iff_eq, bne_iff_ne, ge_iff_le, gt_iff_lt, Bool.false_eq_true, false_iff, true_iff]; first | omega | grind)
set_option maxRecDepth 100000 in
set_option maxHeartbeats 4000000 in
theorem kinds_pure : Pure Tryz.prog 82 [] (.agg [.nilf, .fn (.func 101) [] [], .fn (.func 102) [] [], .fn (.func 103) [] [], .fn (.func 104) [] []]) := by
  refine Pure.intro (want := [.agg [.nilf, .fn (.func 101) [] [], .fn (.func 102) [] [], .fn (.func 103) [] [], .fn (.func 104) [] []]]) T_ok follows Tryz.func82 rfl (by kernel_rfl) (rs := [.cell 0 151]) rfl (by kernel_rfl) ?_
  generalize hP : Tryz.prog = P
  have hT : T.ok P := hP ▸ T_ok
  have hm : P.follows .mixedOrders = true := hP ▸ follows
  unfold Tryz.f82
  dsimp only
  cbv
  exact .mk (.cons (.eq (.refl _)) .nil) rfl
def kindB (t : TypeD) (n : Int) : Bool := if t.kind = 1 then kind1 t n else if t.kind = 2 then kindQ 1023 t else if t.kind = 3 then kindQ 4095 t else if t.kind = 4 then kind4 t else false
abbrev kindL (c : Int) (t : TypeD) : List D := [.int .i64 (.lit c), .int .i64 (.var t.lo), .int .i64 (.var t.hi), .str t.of, .int .i64 (.var t.unit), .slm 1 (some (.var t.nnames)) strC t.names]
theorem agg_kind {t : TypeD} {c : Int} (h : t.kind = c) : DEq (.agg t.c) (.agg (kindL c t)) := .aggs rfl fun i d d' h1 h2 => by
  match i with
  | 0 => cases h1; cases h2; exact .int h
  | 1 => cases h1; cases h2; exact .refl _
  | 2 => cases h1; cases h2; exact .refl _
  | 3 => cases h1; cases h2; exact .refl _
  | 4 => cases h1; cases h2; exact .refl _
  | 5 => cases h1; cases h2; exact .refl _
  | i + 6 => simp at h1
theorem kind_agg {t : TypeD} {c : Int} (h : t.kind = c) : DEq (.agg (kindL c t)) (.agg t.c) := .aggs rfl fun i d d' h1 h2 => by
  match i with
  | 0 => cases h1; cases h2; exact .int h.symm
  | 1 => cases h1; cases h2; exact .refl _
  | 2 => cases h1; cases h2; exact .refl _
  | 3 => cases h1; cases h2; exact .refl _
  | 4 => cases h1; cases h2; exact .refl _
  | 5 => cases h1; cases h2; exact .refl _
  | i + 6 => simp at h1
theorem typeOK_lit1 (S : SourceD) (t : TypeD) (q : Bool) (hk : t.kind = 1) (h : Pure Tryz.prog 101 [.agg t.c, i64 S.units.length] (boolD q)) : Pure Tryz.prog 65 [.agg S.c, .agg t.c] (boolD q) := by
  have h0 := kinds_pure
  refine Pure.args (.cons (.refl _) (.cons (agg_kind hk) .nil)) ?_
  replace h := Pure.args (args' := [.agg t.c, i64 S.units.length]) (args := [.agg (kindL 1 t), .int .i64 (.len S.units)]) (.cons (kind_agg hk) (.cons (.int (e := .len S.units) (e' := .var (S.units.length : Int)) rfl) .nil)) h
  obtain ⟨ni, is, nu, us, ns, ss, nr, rs, nc, cs, np, ps⟩ := S
  obtain ⟨t1, t2, t3, t4, t5, t6, t7⟩ := t
  simp only at h
  clear hk
  refine Pure.intro (want := [boolD q]) T_ok follows Tryz.func65 rfl (by kernel_rfl) (rs := [.tmp 4]) rfl (by kernel_rfl) ?_
  generalize hP : Tryz.prog = P at *
  have hT : T.ok P := hP ▸ T_ok
  have hm : P.follows .mixedOrders = true := hP ▸ follows
  unfold Tryz.f65
  dsimp only
  cbv
  refine PureP.mk _ h0 rfl ?_
  cbv
  refine CallP.pure _ h rfl ?_
  cbv
  exact .mk (.cons (.eq (.refl _)) .nil) rfl
theorem typeOK_lit2 (S : SourceD) (t : TypeD) (q : Bool) (hk : t.kind = 2) (h : Pure Tryz.prog 102 [.agg t.c, i64 S.units.length] (boolD q)) : Pure Tryz.prog 65 [.agg S.c, .agg t.c] (boolD q) := by
  have h0 := kinds_pure
  refine Pure.args (.cons (.refl _) (.cons (agg_kind hk) .nil)) ?_
  replace h := Pure.args (args' := [.agg t.c, i64 S.units.length]) (args := [.agg (kindL 2 t), .int .i64 (.len S.units)]) (.cons (kind_agg hk) (.cons (.int (e := .len S.units) (e' := .var (S.units.length : Int)) rfl) .nil)) h
  obtain ⟨ni, is, nu, us, ns, ss, nr, rs, nc, cs, np, ps⟩ := S
  obtain ⟨t1, t2, t3, t4, t5, t6, t7⟩ := t
  simp only at h
  clear hk
  refine Pure.intro (want := [boolD q]) T_ok follows Tryz.func65 rfl (by kernel_rfl) (rs := [.tmp 4]) rfl (by kernel_rfl) ?_
  generalize hP : Tryz.prog = P at *
  have hT : T.ok P := hP ▸ T_ok
  have hm : P.follows .mixedOrders = true := hP ▸ follows
  unfold Tryz.f65
  dsimp only
  cbv
  refine PureP.mk _ h0 rfl ?_
  cbv
  refine CallP.pure _ h rfl ?_
  cbv
  exact .mk (.cons (.eq (.refl _)) .nil) rfl
theorem typeOK_lit3 (S : SourceD) (t : TypeD) (q : Bool) (hk : t.kind = 3) (h : Pure Tryz.prog 103 [.agg t.c, i64 S.units.length] (boolD q)) : Pure Tryz.prog 65 [.agg S.c, .agg t.c] (boolD q) := by
  have h0 := kinds_pure
  refine Pure.args (.cons (.refl _) (.cons (agg_kind hk) .nil)) ?_
  replace h := Pure.args (args' := [.agg t.c, i64 S.units.length]) (args := [.agg (kindL 3 t), .int .i64 (.len S.units)]) (.cons (kind_agg hk) (.cons (.int (e := .len S.units) (e' := .var (S.units.length : Int)) rfl) .nil)) h
  obtain ⟨ni, is, nu, us, ns, ss, nr, rs, nc, cs, np, ps⟩ := S
  obtain ⟨t1, t2, t3, t4, t5, t6, t7⟩ := t
  simp only at h
  clear hk
  refine Pure.intro (want := [boolD q]) T_ok follows Tryz.func65 rfl (by kernel_rfl) (rs := [.tmp 4]) rfl (by kernel_rfl) ?_
  generalize hP : Tryz.prog = P at *
  have hT : T.ok P := hP ▸ T_ok
  have hm : P.follows .mixedOrders = true := hP ▸ follows
  unfold Tryz.f65
  dsimp only
  cbv
  refine PureP.mk _ h0 rfl ?_
  cbv
  refine CallP.pure _ h rfl ?_
  cbv
  exact .mk (.cons (.eq (.refl _)) .nil) rfl
theorem typeOK_lit4 (S : SourceD) (t : TypeD) (q : Bool) (hk : t.kind = 4) (h : Pure Tryz.prog 104 [.agg t.c, i64 S.units.length] (boolD q)) : Pure Tryz.prog 65 [.agg S.c, .agg t.c] (boolD q) := by
  have h0 := kinds_pure
  refine Pure.args (.cons (.refl _) (.cons (agg_kind hk) .nil)) ?_
  replace h := Pure.args (args' := [.agg t.c, i64 S.units.length]) (args := [.agg (kindL 4 t), .int .i64 (.len S.units)]) (.cons (kind_agg hk) (.cons (.int (e := .len S.units) (e' := .var (S.units.length : Int)) rfl) .nil)) h
  obtain ⟨ni, is, nu, us, ns, ss, nr, rs, nc, cs, np, ps⟩ := S
  obtain ⟨t1, t2, t3, t4, t5, t6, t7⟩ := t
  simp only at h
  clear hk
  refine Pure.intro (want := [boolD q]) T_ok follows Tryz.func65 rfl (by kernel_rfl) (rs := [.tmp 4]) rfl (by kernel_rfl) ?_
  generalize hP : Tryz.prog = P at *
  have hT : T.ok P := hP ▸ T_ok
  have hm : P.follows .mixedOrders = true := hP ▸ follows
  unfold Tryz.f65
  dsimp only
  cbv
  refine PureP.mk _ h0 rfl ?_
  cbv
  refine CallP.pure _ h rfl ?_
  cbv
  exact .mk (.cons (.eq (.refl _)) .nil) rfl
set_option maxRecDepth 100000 in
set_option maxHeartbeats 4000000 in
theorem typeOK_pure (S : SourceD) (t : TypeD) (hl : t.names.length ≤ 9223372036854775807) : Pure Tryz.prog 65 [.agg S.c, .agg t.c] (boolD (kindB t S.units.length)) := by
  by_cases k1 : t.kind = 1
  · rw [show kindB t S.units.length = kind1 t S.units.length from by unfold kindB; rw [if_pos k1]]
    exact typeOK_lit1 S t _ k1 (kind1_pure t _)
  by_cases k2 : t.kind = 2
  · rw [show kindB t S.units.length = kindQ 1023 t from by unfold kindB; rw [if_neg k1, if_pos k2]]
    exact typeOK_lit2 S t _ k2 (kind2_pure t _)
  by_cases k3 : t.kind = 3
  · rw [show kindB t S.units.length = kindQ 4095 t from by unfold kindB; rw [if_neg k1, if_neg k2, if_pos k3]]
    exact typeOK_lit3 S t _ k3 (kind3_pure t _)
  by_cases k4 : t.kind = 4
  · rw [show kindB t S.units.length = kind4 t from by unfold kindB; rw [if_neg k1, if_neg k2, if_neg k3, if_pos k4]]
    exact typeOK_lit4 S t _ k4 (kind4_pure t _ hl)
  rw [show kindB t S.units.length = false from by unfold kindB; rw [if_neg k1, if_neg k2, if_neg k3, if_neg k4]]
  obtain ⟨ni, is, nu, us, ns, ss, nr, rs, nc, cs, np, ps⟩ := S
  obtain ⟨t1, t2, t3, t4, t5, t6, t7⟩ := t
  simp only at k1 k2 k3 k4
  refine Pure.intro (want := [boolD false]) T_ok follows Tryz.func65 rfl (by kernel_rfl) (rs := [.tmp 4]) rfl (by kernel_rfl) ?_
  generalize hP : Tryz.prog = P at *
  have hT : T.ok P := hP ▸ T_ok
  have hm : P.follows .mixedOrders = true := hP ▸ follows
  unfold Tryz.f65
  dsimp only
  cbv
  refine SplitP.mk (fun g1 => ?_) (fun g1 => ?_)
  · exact .mk (.cons (.eq (.bool rfl)) .nil) rfl
  have g2 : ¬ t1 < 1 := of_decide_eq_false g1
  refine SplitP.mk (fun g3 => ?_) (fun g3 => ?_)
  · exact .mk (.cons (.eq (.bool rfl)) .nil) rfl
  have g4 : ¬ t1 > 4 := of_decide_eq_false g3
  omega
end Go.Proofs.YtdhfakajlnidiaaGreat
namespace Go.Proofs.YtdhfakajlnidiaaGreat
open Go.RowKit

/-! The check of the types: different numbers. -/
def IntAt (w : World) (a : Option Addr) (L : List Int) : Prop := ∀ k (hk : k < L.length), ∃ b off, a = some ⟨b, off, none⟩ ∧ b < w.heap.size ∧ InR .i64 L[k] ∧ w.cell? ⟨b, off + k, none⟩ = some (.int .i64 L[k])
theorem wf_i {x : Int} (h : InR .i64 x) : (Lit.int .i64 x).wf = true := by
  simpa [Lit.wf, InR] using h
/-- the numbers seen -/
def seenI (L : List Int) (k : Nat) (l : Lit) : Option Lit := if (L.take k).any (fun s => l.sameKey (.int .i64 s)) then some (.bool true) else none
theorem seenI_at {L : List Int} {k : Nat} (s : Int) : seenI L k (.int .i64 s) = if s ∈ L.take k then some (.bool true) else none := by
  unfold seenI
  have hiff : (L.take k).any (fun x => (Lit.int .i64 s).sameKey (.int .i64 x)) = true ↔ s ∈ L.take k := by simp [Lit.sameKey]
  by_cases h : s ∈ L.take k
  · rw [if_pos h, if_pos (hiff.2 h)]
  · rw [if_neg h, if_neg (fun h2 => h (hiff.1 h2))]
theorem seenI_succ {L : List Int} {k : Nat} (hk : k < L.length) (l : Lit) : (if l.sameKey (.int .i64 L[k]) then some (.bool true) else seenI L k l) = seenI L (k + 1) l := by
  unfold seenI
  rw [take_succ' hk, List.any_append]
  simp only [List.any_cons, List.any_nil, Bool.or_false]
  cases l.sameKey (.int .i64 L[k]) <;> simp

set_option maxRecDepth 20000 in
set_option maxHeartbeats 2000000 in
theorem diffI_any (a : Option Addr) (cap : Nat) (L : List Int) (w : World) (hs : IntAt w a L) (hl : L.length ≤ 100000) :
    Calls Tryz.prog 60 #[.slice a L.length cap] w fun e w' => e = .returned (.bool (decide L.Nodup)) ∧ Below w.heap.size w w' := by
  have Hs := Lib.hid hs
  clear hs
  have hmm := @run_makeMap_hint Tryz.prog 84 3 4 Tryz.underlying84 .i64 L.length
  go_enter Tryz.func60, Tryz.ntmps60
  go_wp2
  go_loopw [11] (fun i wr => ∃ k : Nat, k ≤ L.length ∧ i = .int .i64 k ∧ GM Tryz.prog 3 4 wr w.heap.size k (seenI L k) ∧ Hid ((L.take k).Nodup) ∧ Below w.heap.size w wr) (fun i _ => L.length - (intOf i).toNat)
  case atStart => exact ⟨0, Nat.zero_le _, rfl, (GM.made ..).ext (fun l => by simp [seenI]), Lib.hid (by simp), (Below.refl _ _).alloc (Nat.le_refl _) _⟩
  case round =>
    obtain ⟨k, hk, rfl, hm, Hn, hbw⟩ := hrel
    have hsz := hbw.size
    by_cases hlt : k < L.length
    · obtain ⟨b, off, rfl, hb, hsl, c0⟩ := Hs.out k hlt
      rw [← hbw.cell (p := ⟨b, _, none⟩) hb] at c0
      have hat := seenI_at (L := L) (k := k) L[k]
      have hsc := seenI_succ hlt
      generalize hf : L[k] = f at *
      have Hf := Lib.hid hf
      have Hsc := Lib.hid hsc
      have hkey := Lib.hid (Maps.keyOf_int_mk Tryz.underlying3 (wf_i hsl))
      clear hsl
      by_cases hin : f ∈ L.take k
      · rw [if_pos hin] at hat
        have Hat := Lib.hid hat
        have Hin := Lib.hid hin
        clear hf hsc hat hin hmm
        go_wp2_with (first | (at_lookup; refine wpList_lookup_gm_bool _ rfl _ _ 84 rfl 3 4 keyI Tryz.underlying84 Tryz.underlying4 (zero4 _) _ k _ rfl hm _ _ rfl hkey.out true (by rw [Hat.out]) ?_) | go_in)
        go_ret
        exact ⟨ret_bool (by rw [← Hf.out] at Hin; simp [not_nodup_take hlt Hin.out]), hbw⟩
      · rw [if_neg hin] at hat
        have Hat := Lib.hid hat
        have Hin := Lib.hid hin
        clear hf hsc hat hin hmm
        go_wp2_with (first | (at_lookup; refine wpList_lookup_gm_bool _ rfl _ _ 84 rfl 3 4 keyI Tryz.underlying84 Tryz.underlying4 (zero4 _) _ k _ rfl hm _ _ rfl hkey.out false (by rw [Hat.out]) ?_) | (at_mapUpdate; refine wpList_mapUpdate_gm _ rfl _ _ _ 84 rfl 3 4 keyI Tryz.underlying84 _ k _ rfl hm (by unfold maxLen; omega) _ _ _ rfl rfl hkey.out trivial (.bool true) [] (plainElem_bool Tryz.underlying4 true) ?_; intro w1 hm1 hg1) | go_in)
        go_roundw
        case rel => exact ⟨k + 1, by omega, by go_num, hm1.ext Hsc.out, Lib.hid (take_nodup_succ hlt Hn.out (by rw [Hf.out]; exact Hin.out)), hbw.grown hg1 hsz (fun j hj => by cases hj; exact Nat.le_refl _)⟩
        case measure => simp [intOf]; omega
    · have hq : k = L.length := by omega
      subst hq
      go_wp2
      go_ret
      exact ⟨ret_bool (by have := Hn.out; simpa using this), hbw⟩
theorem intAt_of {w : World} {E : Env} {nb : Option BE} {L : List Int} {v : Value} (h : DRep w E (.slm 1 nb intC L) v) (hG : ∀ b, E.G b → b < w.heap.size) : ∃ a cap, v = .slice a L.length cap ∧ IntAt w a L := by
  cases h with
  | @slm _ _ _ _ _ _ a cap u hnb hc hm hx ha hh =>
    refine ⟨a, cap, rfl, fun k hk => ?_⟩
    obtain ⟨b, o, rfl, hg, hcl⟩ := ha (fun e => by rw [e] at hk; cases hk)
    have h1 := hcl k 0 hk (by decide)
    have h2 := hh k L[k] 0 _ (List.getElem?_eq_getElem hk) rfl
    rw [show o + k * 1 + 0 = o + k by omega] at h1
    generalize u k 0 = x at h1 h2
    cases h2 with
    | int hs => exact ⟨b, o, rfl, hG b hg, hs, h1⟩
set_option maxRecDepth 100000 in
set_option maxHeartbeats 4000000 in
theorem diffI_pure (L : List Int) (nb : Option BE) (hl : L.length ≤ 100000) : Pure Tryz.prog 60 [.slm 1 nb intC L] (boolD (decide L.Nodup)) := by
  refine ⟨⟨_, _, Tryz.func60, rfl, by kernel_rfl⟩, fun w G vs hL hG hv => ?_⟩
  obtain ⟨h1, h2⟩ := hv
  obtain ⟨vl⟩ := vs
  match vl, h1 with
  | [v], _ =>
    obtain ⟨a, cap, rfl, hs⟩ := intAt_of (h2 0 _ v rfl rfl) hG
    refine (diffI_any a cap L w hs hl).mono ?_
    rintro e w' ⟨rfl, hb⟩
    exact ⟨_, G, rfl, hb, fun _ h => h, fun _ h => .inl h, fun b h => Nat.lt_of_lt_of_le (hG b h) hb.size, .bool (e := .var (decide L.Nodup))⟩
end Go.Proofs.YtdhfakajlnidiaaGreat
namespace Go.Proofs.YtdhfakajlnidiaaGreat
open Go.RowKit

/-! The check of the types: purposes, schemas. -/
theorem typeOf_ex (S : SourceD) (i j : Int) : ∃ t b, typeOf? S i j = (if b = true then some t else none) ∧ Pure Tryz.prog 58 [.agg S.c, i64 i, i64 j] (.tup [.agg t.c, boolD b]) := by
  have h := typeOf_pure S i j
  cases ho : typeOf? S i j with
  | none => exact ⟨_, false, rfl, by rw [ho] at h; exact h⟩
  | some t => exact ⟨t, true, rfl, by rw [ho] at h; exact h⟩
theorem termTy_ex (S : SourceD) (r : RuleD) (t : TermD) (n : Int) (hn : n ≤ (r.froms.length : Int)) : ∃ y b, termTy? S r.froms t n = (if b = true then some y else none) ∧ Pure Tryz.prog 76 [.agg (S.c ++ r.c), .agg t.c, i64 n] (.tup [.agg y.c, boolD b]) := by
  have h := termType_pure S r t n hn
  cases ho : termTy? S r.froms t n with
  | none => exact ⟨_, false, rfl, by rw [ho] at h; exact h⟩
  | some y => exact ⟨y, true, rfl, by rw [ho] at h; exact h⟩
def refIn (S : SourceD) (r : RefD) : Bool := (typeOf? S r.schema r.field).isSome
def purpB (S : SourceD) (pu : PurposeD) : Bool := pu.may.all (refIn S) && (decide (0 ≤ pu.most) && decide (pu.most ≤ 64))
set_option maxRecDepth 100000 in
set_option maxHeartbeats 4000000 in
theorem purposeOK_pure (S : SourceD) (pu : PurposeD) (hl : pu.may.length < 9223372036854775807) : Pure Tryz.prog 44 [.agg S.c, .agg pu.c] (boolD (purpB S pu)) := by
  have hty := fun i j => typeOf_ex S i j
  obtain ⟨r, hr⟩ : ∃ r, r = purpB S pu := ⟨_, rfl⟩
  rw [← hr]
  unfold purpB at hr
  have hRI : ∀ x : RefD, ∃ t b, refIn S x = b ∧ Pure Tryz.prog 58 [.agg S.c, i64 x.schema, i64 x.field] (.tup [.agg (TypeD.c t), boolD b]) := fun x => by
    obtain ⟨t, b, h1, h2⟩ := hty x.schema x.field
    exact ⟨t, b, by unfold refIn; rw [h1]; cases b <;> rfl, h2⟩
  clear hty
  obtain ⟨RI, hR⟩ : ∃ f, f = refIn S := ⟨_, rfl⟩
  rw [← hR] at hRI hr
  clear hR
  obtain ⟨ni, is, nu, us, ns, ss, nr, rs, nc, cs, np, ps⟩ := S
  obtain ⟨p1, p2, l, p4⟩ := pu
  simp only at hr hl
  obtain ⟨n, hn⟩ : ∃ n : Nat, n = l.length := ⟨_, rfl⟩
  refine Pure.intro (want := [boolD r]) T_ok follows Tryz.func44 rfl (by kernel_rfl) (rs := [.tmp 4]) rfl (by kernel_rfl) ?_
  generalize hP : Tryz.prog = P at *
  have hT : T.ok P := hP ▸ T_ok
  have hm : P.follows .mixedOrders = true := hP ▸ follows
  unfold Tryz.f44
  dsimp only
  cbv
  refine CodeP.loopc hT hm (X := Nat) (fun k => [(12, .int .i64 (.nat k))]) (fun k => k ≤ l.length ∧ r = ((l.drop k).all RI && (decide (0 ≤ p4) && decide (p4 ≤ 64)))) (fun k => n - k) 0 ⟨by simp, hr⟩ (Nat.zero_le _) ?_ rfl ?_
  · (cbv; (repeat' (first | exact SnD.refl _ | exact trivial | exact SnD.nat0 | refine And.intro ?_ ?_)))
  intro k ⟨hk, hq⟩
  cbv
  refine SplitP.mk (fun hs => ?_) (fun hs => ?_)
  · have hkn : k < l.length := by
      have h5 : decide ((k : Int) < (l.length : Int)) = true := hs
      have := of_decide_eq_true h5
      omega
    clear hs
    refine ElemP.mk (by show (0 : Int) ≤ (k : Int) ∧ (k : Int) < (l.length : Int); omega) (fun y hy => ?_)
    replace hy : l[k]? = some y := hy
    rw [drop_cons hy, List.all_cons] at hq
    obtain ⟨ty, b, hb, hp⟩ := hRI y
    rw [hb] at hq
    clear hRI hb
    obtain ⟨y1, y2, y3, y4⟩ := y
    obtain ⟨t1, t2, t3, t4, t5, t6, t7⟩ := ty
    cbv
    refine CallP.pure _ hp rfl ?_
    cbv
    refine SplitP.mk (fun h => ?_) (fun h => ?_)
    · have h3 : (!b) = true := h
      refine .mk (.cons (.eq (.bool ?_)) .nil) rfl
      rw [BE.lit_d, BE.var_d]
      rw [hq]; cases b <;> simp_all
    · have h3 : (!b) = false := h
      refine BackP.intro (k + 1) ⟨by omega, by rw [hq]; cases b <;> simp_all⟩ (by show n - (k + 1) < n - k; omega) ⟨?_, ?_, rfl⟩
      · (cbv; (repeat' (first | exact SnD.refl _ | exact trivial | exact SnD.nat0 | refine And.intro ?_ ?_)))
        exact .inc (by omega)
      · (cbv; (repeat' (first | exact trivial | exact BkEq.refl _ | exact SnD.refl _ | exact SnDs.nil | refine BkEq.cells ?_ | refine SnDs.cons ?_ ?_ | refine And.intro ?_ ?_)))
  · have hkn : l.length ≤ k := by
      have h5 : decide ((k : Int) < (l.length : Int)) = false := hs
      have := of_decide_eq_false h5
      omega
    clear hs
    rw [List.drop_of_length_le (by omega), List.all_nil, Bool.true_and] at hq
    clear hr
    have hr := hq
    clear hq
    ((repeat' (refine SplitP.mk (fun _ => ?_) (fun _ => ?_))); all_goals (try simp only [BE.den, IE.den, cmpDen, Bool.not_eq_true, Bool.not_eq_false, Bool.not_eq_eq_eq_not, Bool.not_true, Bool.not_false, dec_t, dec_f, beq_iff_eq, beq_eq_false_iff_ne, bne_iff_ne, ne_eq, bne_eq_false_iff_eq, ge_iff_le, gt_iff_lt, Int.not_lt, Int.not_le] at *); all_goals (refine .mk (.cons (.eq (.bool ?_)) .nil) rfl; simp only [BE.den, IE.den, cmpDen]; rw [hr, Bool.eq_iff_iff]; simp only [Bool.and_eq_true, Bool.or_eq_true, dec_t, dec_f, beq_iff_eq, bne_iff_ne, ge_iff_le, gt_iff_lt, Bool.false_eq_true, false_iff, true_iff]; first | omega | grind))
def wOK (n : Int) : Bool := decide (0 ≤ n) && decide (n ≤ 9)
def fieldB (s : SourceD) (f : FieldD) : Bool := kindB f.type s.units.length && [f.w0, f.w1, f.w2, f.w3].all wOK
def selfB (l : List FieldD) : Bool := match l[0]? with | some f => decide (f.type.kind = 3) | none => false
def schB (s : SourceD) (x : SchemaD) : Bool :=
  (decide (0 ≤ x.issuer) && decide (x.issuer < s.issuers.length) && decide (1 ≤ x.version) && decide (x.version ≤ 255) && decide (1 ≤ x.fields.length) && decide (x.fields.length ≤ 12)) && (selfB x.fields && x.fields.all (fieldB s))
set_option maxRecDepth 100000 in
set_option maxHeartbeats 4000000 in
theorem schemaOK_pure (S : SourceD) (x : SchemaD) (hN : ∀ f ∈ x.fields, f.type.names.length ≤ 9223372036854775807) : Pure Tryz.prog 41 [.agg S.c, .agg x.c] (boolD (schB S x)) := by
  obtain ⟨r, hr⟩ : ∃ r, r = schB S x := ⟨_, rfl⟩
  rw [← hr]
  unfold schB at hr
  have hKO : ∀ f : FieldD, f ∈ x.fields → ∃ b, kindB f.type S.units.length = b ∧ Pure Tryz.prog 65 [.agg S.c, .agg f.type.c] (boolD b) := fun f hf => ⟨_, rfl, typeOK_pure S f.type (hN f hf)⟩
  have hFB : ∀ f, fieldB S f = (kindB f.type S.units.length && [f.w0, f.w1, f.w2, f.w3].all wOK) := fun f => rfl
  clear hN
  obtain ⟨KO, hK⟩ : ∃ f : FieldD → Bool, f = fun f => kindB f.type S.units.length := ⟨_, rfl⟩
  obtain ⟨FB, hF⟩ : ∃ f, f = fieldB S := ⟨_, rfl⟩
  replace hKO : ∀ f : FieldD, f ∈ x.fields → ∃ b, KO f = b ∧ Pure Tryz.prog 65 [.agg S.c, .agg f.type.c] (boolD b) := fun f hf => by rw [hK]; exact hKO f hf
  replace hFB : ∀ f, FB f = (KO f && [f.w0, f.w1, f.w2, f.w3].all wOK) := fun f => by rw [hF, hK]; exact hFB f
  rw [← hF] at hr
  clear hF hK
  obtain ⟨ni, is, nu, us, ns, ss, nr, rs, nc, cs, np, ps⟩ := S
  obtain ⟨x1, x2, x3, x4, x5, l, x7, x8⟩ := x
  simp only at hr hKO
  obtain ⟨n, hn⟩ : ∃ n : Nat, n = l.length := ⟨_, rfl⟩
  obtain ⟨sb, hsb⟩ : ∃ b, b = selfB l := ⟨_, rfl⟩
  rw [← hsb] at hr
  unfold selfB at hsb
  refine Pure.intro (want := [boolD r]) T_ok follows Tryz.func41 rfl (by kernel_rfl) (rs := [.tmp 4]) rfl (by kernel_rfl) ?_
  generalize hP : Tryz.prog = P at *
  have hT : T.ok P := hP ▸ T_ok
  have hm : P.follows .mixedOrders = true := hP ▸ follows
  unfold Tryz.f41
  dsimp only
  cbv
  refine SplitP.mk (fun g => ?_) (fun g => ?_)
  · clear hKO hFB
    have g' : x3 < 0 := of_decide_eq_true g
    clear g
    refine .mk (.cons (.eq (.bool ?_)) .nil) rfl
    show false = r
    rw [hr]
    symm
    rw [Bool.and_eq_false_iff]
    refine .inl ?_
    rw [Bool.eq_false_iff]
    intro e
    simp only [Bool.and_eq_true, decide_eq_true_eq] at e
    first
      | omega
      | exact absurd e.1.1.1.1.2 (Int.not_lt.2 g')
  have g1 : ¬ x3 < 0 := of_decide_eq_false g
  clear g
  refine SplitP.mk (fun g => ?_) (fun g => ?_)
  · clear hKO hFB
    have g' : x3 ≥ (is.length : Int) := of_decide_eq_true g
    clear g
    refine .mk (.cons (.eq (.bool ?_)) .nil) rfl
    show false = r
    rw [hr]
    symm
    rw [Bool.and_eq_false_iff]
    refine .inl ?_
    rw [Bool.eq_false_iff]
    intro e
    simp only [Bool.and_eq_true, decide_eq_true_eq] at e
    first
      | omega
      | exact absurd e.1.1.1.1.2 (Int.not_lt.2 g')
  have g2 : ¬ x3 ≥ (is.length : Int) := of_decide_eq_false g
  clear g
  refine SplitP.mk (fun g => ?_) (fun g => ?_)
  · clear hKO hFB
    have g' : x4 < 1 := of_decide_eq_true g
    clear g
    refine .mk (.cons (.eq (.bool ?_)) .nil) rfl
    show false = r
    rw [hr]
    symm
    rw [Bool.and_eq_false_iff]
    refine .inl ?_
    rw [Bool.eq_false_iff]
    intro e
    simp only [Bool.and_eq_true, decide_eq_true_eq] at e
    first
      | omega
      | exact absurd e.1.1.1.1.2 (Int.not_lt.2 g')
  have g3 : ¬ x4 < 1 := of_decide_eq_false g
  clear g
  refine SplitP.mk (fun g => ?_) (fun g => ?_)
  · clear hKO hFB
    have g' : x4 > 255 := of_decide_eq_true g
    clear g
    refine .mk (.cons (.eq (.bool ?_)) .nil) rfl
    show false = r
    rw [hr]
    symm
    rw [Bool.and_eq_false_iff]
    refine .inl ?_
    rw [Bool.eq_false_iff]
    intro e
    simp only [Bool.and_eq_true, decide_eq_true_eq] at e
    first
      | omega
      | exact absurd e.1.1.1.1.2 (Int.not_lt.2 g')
  have g4 : ¬ x4 > 255 := of_decide_eq_false g
  clear g
  refine SplitP.mk (fun g => ?_) (fun g => ?_)
  · clear hKO hFB
    have g' : (l.length : Int) < 1 := of_decide_eq_true g
    clear g
    refine .mk (.cons (.eq (.bool ?_)) .nil) rfl
    show false = r
    rw [hr]
    symm
    rw [Bool.and_eq_false_iff]
    refine .inl ?_
    rw [Bool.eq_false_iff]
    intro e
    simp only [Bool.and_eq_true, decide_eq_true_eq] at e
    first
      | omega
      | exact absurd e.1.1.1.1.2 (Int.not_lt.2 g')
  have g5 : ¬ (l.length : Int) < 1 := of_decide_eq_false g
  clear g
  refine SplitP.mk (fun g => ?_) (fun g => ?_)
  · clear hKO hFB
    have g' : (l.length : Int) > 12 := of_decide_eq_true g
    clear g
    refine .mk (.cons (.eq (.bool ?_)) .nil) rfl
    show false = r
    rw [hr]
    symm
    rw [Bool.and_eq_false_iff]
    refine .inl ?_
    rw [Bool.eq_false_iff]
    intro e
    simp only [Bool.and_eq_true, decide_eq_true_eq] at e
    first
      | omega
      | exact absurd e.1.1.1.1.2 (Int.not_lt.2 g')
  have g6 : ¬ (l.length : Int) > 12 := of_decide_eq_false g
  clear g
  have hlen : 1 ≤ l.length ∧ l.length ≤ 12 := by omega
  have hpre : ((decide (0 ≤ x3) && decide (x3 < (is.length : Int)) && decide (1 ≤ x4) && decide (x4 ≤ 255) && decide (1 ≤ l.length) && decide (l.length ≤ 12)) : Bool) = true := by
    simp only [Bool.and_eq_true, decide_eq_true_eq]
    exact ⟨⟨⟨⟨⟨Int.not_lt.1 g1, Int.not_le.1 g2⟩, by omega⟩, by omega⟩, by omega⟩, by omega⟩
  rw [hpre, Bool.true_and] at hr
  clear hpre
  refine ElemP.mk (by show (0 : Int) ≤ 0 ∧ (0 : Int) < (l.length : Int); omega) (fun f0 hf0 => ?_)
  replace hf0 : l[0]? = some f0 := hf0
  rw [hf0] at hsb
  simp only at hsb
  obtain ⟨z1, ⟨z2, z3, z4, z5, z6, z7, z8⟩, z9, z10, z11, z12⟩ := f0
  simp only at hsb
  cbv
  refine SplitP.mk (fun g => ?_) (fun g => ?_)
  · clear hKO hFB
    have h3 : (z2 != 3) = true := g
    have h4 : z2 ≠ 3 := by simpa using h3
    rw [hsb, decide_eq_false h4] at hr
    refine .mk (.cons (.eq (.bool ?_)) .nil) rfl
    rw [BE.lit_d, BE.var_d]
    exact hr.symm
  have h3 : (z2 != 3) = false := g
  have h4 : z2 = 3 := by simpa using h3
  rw [hsb, decide_eq_true h4, Bool.true_and] at hr
  clear h3 g hf0 hsb h4
  refine CodeP.loopc hT hm (X := Nat) (fun k => [(55, .int .i64 (.nat k))]) (fun k => k ≤ l.length ∧ r = (l.drop k).all FB) (fun k => n - k) 0 ⟨by simp, hr⟩ (Nat.zero_le _) ?_ rfl ?_
  · (cbv; (repeat' (first | exact SnD.refl _ | exact trivial | exact SnD.nat0 | refine And.intro ?_ ?_)))
  intro k ⟨hk, hq⟩
  cbv
  refine SplitP.mk (fun hs => ?_) (fun hs => ?_)
  · have hkn : k < l.length := by
      have h5 : decide ((k : Int) < (l.length : Int)) = true := hs
      have := of_decide_eq_true h5
      omega
    clear hs
    refine ElemP.mk (by show (0 : Int) ≤ (k : Int) ∧ (k : Int) < (l.length : Int); omega) (fun y hy => ?_)
    replace hy : l[k]? = some y := hy
    rw [drop_cons hy, List.all_cons, hFB] at hq
    obtain ⟨b, hb, hp⟩ := hKO y (List.mem_of_getElem? hy)
    rw [hb] at hq
    clear hKO hb hFB hy
    obtain ⟨y1, ⟨y2, y3, y4, y5, y6, y7, y8⟩, y9, y10, y11, y12⟩ := y
    cbv
    refine CallP.pure _ hp rfl ?_
    clear hp
    cbv
    refine SplitP.mk (fun h => ?_) (fun h => ?_)
    · have h3 : (!b) = true := h
      refine .mk (.cons (.eq (.bool ?_)) .nil) rfl
      rw [BE.lit_d, BE.var_d]
      rw [hq]; cases b <;> simp_all
    have h3 : (!b) = false := h
    have h4 : b = true := by simpa using h3
    rw [h4, Bool.true_and] at hq
    simp only [List.all_cons, List.all_nil, Bool.and_true, wOK] at hq
    clear h h3 h4
    refine CodeP.rounds hT hm 5 ?_
    cbv
    refine SplitP.mk (fun g => ?_) (fun g => ?_)
    · have g' : ¬ 0 ≤ y9 := by have h := of_decide_eq_true (show decide (y9 < 0) = true from g); omega
      rw [decide_eq_false g'] at hq
      refine .mk (.cons (.eq (.bool ?_)) .nil) rfl
      rw [BE.lit_d, BE.var_d]
      rw [hq]; simp
    have gay9 : 0 ≤ y9 := by have h := of_decide_eq_false (show decide (y9 < 0) = false from g); omega
    clear g
    refine SplitP.mk (fun g => ?_) (fun g => ?_)
    · have g' : ¬ y9 ≤ 9 := by have h := of_decide_eq_true (show decide (y9 > 9) = true from g); omega
      rw [decide_eq_false g'] at hq
      refine .mk (.cons (.eq (.bool ?_)) .nil) rfl
      rw [BE.lit_d, BE.var_d]
      rw [hq]; simp
    have gby9 : y9 ≤ 9 := by have h := of_decide_eq_false (show decide (y9 > 9) = false from g); omega
    clear g
    refine SplitP.mk (fun g => ?_) (fun g => ?_)
    · have g' : ¬ 0 ≤ y10 := by have h := of_decide_eq_true (show decide (y10 < 0) = true from g); omega
      rw [decide_eq_false g'] at hq
      refine .mk (.cons (.eq (.bool ?_)) .nil) rfl
      rw [BE.lit_d, BE.var_d]
      rw [hq]; simp
    have gay10 : 0 ≤ y10 := by have h := of_decide_eq_false (show decide (y10 < 0) = false from g); omega
    clear g
    refine SplitP.mk (fun g => ?_) (fun g => ?_)
    · have g' : ¬ y10 ≤ 9 := by have h := of_decide_eq_true (show decide (y10 > 9) = true from g); omega
      rw [decide_eq_false g'] at hq
      refine .mk (.cons (.eq (.bool ?_)) .nil) rfl
      rw [BE.lit_d, BE.var_d]
      rw [hq]; simp
    have gby10 : y10 ≤ 9 := by have h := of_decide_eq_false (show decide (y10 > 9) = false from g); omega
    clear g
    refine SplitP.mk (fun g => ?_) (fun g => ?_)
    · have g' : ¬ 0 ≤ y11 := by have h := of_decide_eq_true (show decide (y11 < 0) = true from g); omega
      rw [decide_eq_false g'] at hq
      refine .mk (.cons (.eq (.bool ?_)) .nil) rfl
      rw [BE.lit_d, BE.var_d]
      rw [hq]; simp
    have gay11 : 0 ≤ y11 := by have h := of_decide_eq_false (show decide (y11 < 0) = false from g); omega
    clear g
    refine SplitP.mk (fun g => ?_) (fun g => ?_)
    · have g' : ¬ y11 ≤ 9 := by have h := of_decide_eq_true (show decide (y11 > 9) = true from g); omega
      rw [decide_eq_false g'] at hq
      refine .mk (.cons (.eq (.bool ?_)) .nil) rfl
      rw [BE.lit_d, BE.var_d]
      rw [hq]; simp
    have gby11 : y11 ≤ 9 := by have h := of_decide_eq_false (show decide (y11 > 9) = false from g); omega
    clear g
    refine SplitP.mk (fun g => ?_) (fun g => ?_)
    · have g' : ¬ 0 ≤ y12 := by have h := of_decide_eq_true (show decide (y12 < 0) = true from g); omega
      rw [decide_eq_false g'] at hq
      refine .mk (.cons (.eq (.bool ?_)) .nil) rfl
      rw [BE.lit_d, BE.var_d]
      rw [hq]; simp
    have gay12 : 0 ≤ y12 := by have h := of_decide_eq_false (show decide (y12 < 0) = false from g); omega
    clear g
    refine SplitP.mk (fun g => ?_) (fun g => ?_)
    · have g' : ¬ y12 ≤ 9 := by have h := of_decide_eq_true (show decide (y12 > 9) = true from g); omega
      rw [decide_eq_false g'] at hq
      refine .mk (.cons (.eq (.bool ?_)) .nil) rfl
      rw [BE.lit_d, BE.var_d]
      rw [hq]; simp
    have gby12 : y12 ≤ 9 := by have h := of_decide_eq_false (show decide (y12 > 9) = false from g); omega
    clear g
    refine BackP.intro (k + 1) ⟨by omega, by rw [hq]; simp only [decide_eq_true, Bool.true_and, Bool.and_true, *]⟩ (by show n - (k + 1) < n - k; omega) ⟨?_, ?_, rfl⟩
    · (cbv; (repeat' (first | exact SnD.refl _ | exact trivial | exact SnD.nat0 | refine And.intro ?_ ?_)))
      exact .inc (by omega)
    · (cbv; (repeat' (first | exact trivial | exact BkEq.refl _ | exact SnD.refl _ | exact SnDs.nil | refine BkEq.cells ?_ | refine SnDs.cons ?_ ?_ | refine And.intro ?_ ?_)))
  · have hkn : l.length ≤ k := by
      have h5 : decide ((k : Int) < (l.length : Int)) = false := hs
      have := of_decide_eq_false h5
      omega
    clear hs
    rw [List.drop_of_length_le (by omega), List.all_nil] at hq
    refine .mk (.cons (.eq (.bool ?_)) .nil) rfl
    rw [BE.lit_d, BE.var_d]
    exact hq.symm
end Go.Proofs.YtdhfakajlnidiaaGreat
