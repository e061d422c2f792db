import Derived.Test.YtogenjbabgibbaaKD
namespace Go.Proofs.Ytogenjbabgibbaa
open Go.RowKit

/-- the names of a type that stands in memory -/
theorem typeOK_any (s : SourceD) (p : SrcAt) (t : TyD) (an : Option Addr) (kn : Nat) (w : World) (hn : Sl 1 RStr w an t.names) (hl : t.names.length ≤ 100000) :
    Calls Try.prog 41 #[s.val p, t.val an kn] w fun e w' => e = .returned (.bool (kindB t s.units.length)) ∧ Below w.heap.size w w' := by
  by_cases h : 1 ≤ t.kind ∧ t.kind ≤ 4
  case neg => exact typeOK_out s p t an kn w h
  have h' : t.kind = 1 ∨ t.kind = 2 ∨ t.kind = 3 ∨ t.kind = 4 := by omega
  clear h
  obtain ⟨kd, lo, hi, of_, un, names⟩ := t
  simp only at hn hl h'
  rcases h' with rfl | rfl | rfl | rfl
  · exact typeOK_1 s p lo hi un of_ names an kn w _ fun w' _ => kind1_any ⟨1, lo, hi, of_, un, names⟩ _ an kn w'
  · exact typeOK_2 s p lo hi un of_ names an kn w _ fun w' _ => kind2_any ⟨2, lo, hi, of_, un, names⟩ _ an kn w'
  · exact typeOK_3 s p lo hi un of_ names an kn w _ fun w' _ => kind3_any ⟨3, lo, hi, of_, un, names⟩ _ an kn w'
  · exact typeOK_4 s p lo hi un of_ names an kn w _ fun w' hb => kind4_any ⟨4, lo, hi, of_, un, names⟩ _ an kn w' (hn.below RStr.stab hb) hl

def isNumB (t : TermD) : Bool := decide (t.var = -1) && decide (0 ≤ t.n) && decide (t.n ≤ 1048576)
def ordB (t : TyD) : Bool := decide (t.kind = 1) || decide (t.kind = 2)
abbrev TermD.val (t : TermD) : Value := .agg #[.string t.name, .string t.path, .int .i64 t.var, .int .i64 t.field, .int .i64 t.n]
theorem isNum_any (t : TermD) (w : World) : Calls Try.prog 73 #[t.val] w fun e w' => e = .returned (.bool (isNumB t)) ∧ Below w.heap.size w w' := by
  go_enter Try.func73, Try.ntmps73
  go_wp2
  all_goals go_ret
  all_goals exact ⟨ret_bool (by simp [isNumB, *]; try grind), alloc1 w _ _⟩
theorem ord_any (t : TyD) (an : Option Addr) (kn : Nat) (w : World) : Calls Try.prog 78 #[t.val an kn] w fun e w' => e = .returned (.bool (ordB t)) ∧ Below w.heap.size w w' := by
  go_enter Try.func78, Try.ntmps78
  go_wp2
  all_goals go_ret
  all_goals exact ⟨ret_bool (by simp [ordB, *]; try grind), alloc1 w _ _⟩

/-- the type of a field, if it is there -/
def typeOf? (s : SourceD) (i j : Int) : Option TyD :=
  if 0 ≤ i ∧ 0 ≤ j then (match s.schemas[i.toNat]? with | some x => (match x.fields[j.toNat]? with | some f => some f.ty | none => none) | none => none) else none
def thereB (s : SourceD) (i j : Int) : Bool := (typeOf? s i j).isSome
theorem typeOf?_in {s : SourceD} {i j : Int} (hi : 0 ≤ i) (hj : 0 ≤ j) (h1 : i.toNat < s.schemas.length) (h2 : j.toNat < s.schemas[i.toNat].fields.length) : typeOf? s i j = some (s.schemas[i.toNat].fields[j.toNat]).ty := by
  unfold typeOf?
  rw [if_pos ⟨hi, hj⟩, List.getElem?_eq_getElem h1]
  simp only
  rw [List.getElem?_eq_getElem h2]
theorem typeOf?_out1 {s : SourceD} {i j : Int} (h : ¬ (0 ≤ i ∧ i < s.schemas.length ∧ 0 ≤ j)) : typeOf? s i j = none := by
  unfold typeOf?
  by_cases h0 : 0 ≤ i ∧ 0 ≤ j
  · rw [if_pos h0, List.getElem?_eq_none (by omega)]
  · rw [if_neg h0]
theorem typeOf?_out2 {s : SourceD} {i j : Int} (h1 : i.toNat < s.schemas.length) (h2 : ¬ j < s.schemas[i.toNat].fields.length) : typeOf? s i j = none := by
  unfold typeOf?
  by_cases h0 : 0 ≤ i ∧ 0 ≤ j
  · rw [if_pos h0, List.getElem?_eq_getElem h1]
    simp only
    rw [List.getElem?_eq_none (by omega)]
  · rw [if_neg h0]

set_option maxRecDepth 20000 in
set_option maxHeartbeats 1000000 in
theorem there_any (s : SourceD) (p : SrcAt) (i j : Int) (w : World) (hs : Src w s p) :
    Calls Try.prog 36 #[s.val p, .int .i64 i, .int .i64 j] w fun e w' => e = .returned (.bool (thereB s i j)) ∧ Below w.heap.size w w' := by
  by_cases hin : 0 ≤ i ∧ i < s.schemas.length ∧ 0 ≤ j
  case neg =>
    have Hin := Lib.hid hin
    clear hin hs
    go_enter Try.func36, Try.ntmps36
    go_wp2
    all_goals (try (exfalso; have := Hin.out; omega))
    all_goals go_ret
    all_goals exact ⟨ret_bool (by simp [thereB, typeOf?_out1 Hin.out]), alloc1 w _ _⟩
  obtain ⟨hi0, hi1, hj0⟩ := hin
  obtain ⟨b, off, e1, hb, _, a0, k0, a1, k1, c0, c1, c2, c3, c4, c5, hf⟩ := SchemaD.out hs.h2 i.toNat (by omega)
  have hin := typeOf?_in hi0 hj0 (s := s) (by omega)
  have hout := typeOf?_out2 (s := s) (i := i) (j := j) (by omega)
  generalize s.schemas[i.toNat] = x at *
  have Hin := Lib.hid hin
  have Hout := Lib.hid hout
  clear hin hout hf c0 c1 c2 c3 c5 hs
  go_enter Try.func36, Try.ntmps36
  go_wp2
  all_goals go_ret
  all_goals exact ⟨ret_bool (by
    unfold thereB
    by_cases hj : j < x.fields.length
    · rw [Hin.out (by omega)]; simpa using hj
    · rw [Hout.out (by omega)]; simpa using hj), alloc1 w _ _⟩

/-- a type as typeOf returns it -/
def RTy (w : World) (v : Value) (t : TyD) : Prop := ∃ an kn, v = t.val an kn ∧ Sl 1 RStr w an t.names
theorem RTy.below {w w' : World} {v : Value} {t : TyD} (h : RTy w v t) (hb : Below w.heap.size w w') : RTy w' v t := let ⟨an, kn, h1, h2⟩ := h; ⟨an, kn, h1, h2.below RStr.stab hb⟩
def tyZero : TyD := ⟨0, 0, 0, ⟨#[]⟩, 0, []⟩

/-- where a field's type stands -/
theorem typeOf_mem {s : SourceD} {p : SrcAt} {i j : Int} {t : TyD} (ht : typeOf? s i j = some t) {w : World} (hs : Src w s p) :
    ∃ (b off nf k0 b2 off2 : Nat) (an : Option Addr) (kn : Nat), p.a2 = some ⟨b, off, none⟩ ∧ b < w.heap.size ∧ b2 < w.heap.size ∧ (0 ≤ i ∧ i < s.schemas.length ∧ 0 ≤ j ∧ j < nf) ∧
      w.cell? ⟨b, off + i.toNat * 6 + 4, none⟩ = some (.slice (some ⟨b2, off2, none⟩) nf k0) ∧
      w.cell? ⟨b2, off2 + j.toNat * 11 + 1, none⟩ = some (.int .i64 t.kind) ∧ w.cell? ⟨b2, off2 + j.toNat * 11 + 2, none⟩ = some (.int .i64 t.lo) ∧
      w.cell? ⟨b2, off2 + j.toNat * 11 + 3, none⟩ = some (.int .i64 t.hi) ∧ w.cell? ⟨b2, off2 + j.toNat * 11 + 4, none⟩ = some (.string t.of_) ∧
      w.cell? ⟨b2, off2 + j.toNat * 11 + 5, none⟩ = some (.int .i64 t.unit) ∧ w.cell? ⟨b2, off2 + j.toNat * 11 + 6, none⟩ = some (.slice an t.names.length kn) ∧ Sl 1 RStr w an t.names := by
  by_cases hin : 0 ≤ i ∧ i < s.schemas.length ∧ 0 ≤ j
  case neg => rw [typeOf?_out1 hin] at ht; cases ht
  obtain ⟨hi0, hi1, hj0⟩ := hin
  have hlt : i.toNat < s.schemas.length := by omega
  by_cases hj1 : j.toNat < s.schemas[i.toNat].fields.length
  case neg => rw [typeOf?_out2 hlt (by omega)] at ht; cases ht
  rw [typeOf?_in hi0 hj0 hlt hj1] at ht
  simp only [Option.some.injEq] at ht
  obtain ⟨b, off, e1, hb, _, a0, k0, a1, k1, c0, c1, c2, c3, c4, c5, hf⟩ := SchemaD.out hs.h2 i.toNat hlt
  obtain ⟨b2, off2, e2, hb2, _, an, kn, d0, d1, d2, d3, d4, d5, d6, d7, d8, d9, d10, hn⟩ := FieldD.out hf j.toNat hj1
  subst e2 ht
  exact ⟨b, off, _, k0, b2, off2, an, kn, e1, hb, hb2, ⟨hi0, hi1, hj0, by omega⟩, c4, d1, d2, d3, d4, d5, d6, hn⟩

set_option maxRecDepth 20000 in
set_option maxHeartbeats 1000000 in
/-- typeOf where the field is there -/
theorem typeOf_in (s : SourceD) (p : SrcAt) (i j : Int) (t : TyD) (ht : typeOf? s i j = some t) (w : World) (hs : Src w s p) :
    Calls Try.prog 40 #[s.val p, .int .i64 i, .int .i64 j] w fun e w' => (∃ v, e = .returned (.tuple #[v, .bool true]) ∧ RTy w' v t) ∧ Below w.heap.size w w' := by
  obtain ⟨b, off, nf, k0, b2, off2, an, kn, e1, hb, hb2, ⟨hi0, hi1, hj0, hj1⟩, c4, d1, d2, d3, d4, d5, d6, hn⟩ := typeOf_mem ht hs
  have Hn := Lib.hid hn
  clear hn hs ht
  go_enter Try.func40, Try.ntmps40
  go_wp2
  refine bodyPost_ret (v := .tuple #[t.val an kn, .bool true]) (by simp [results, Try.f40, go_sem]) rfl ?_
  refine ⟨⟨_, rfl, an, kn, rfl, Hn.out.below RStr.stab ?_⟩, ?_⟩
  all_goals (repeat (first | exact Below.refl _ _ | refine Below.alloc ?_ (by simp) _ | refine Below.setCell ?_ (by simp) _))
set_option maxRecDepth 20000 in
set_option maxHeartbeats 1000000 in
/-- typeOf where the field is not there -/
theorem typeOf_no (s : SourceD) (p : SrcAt) (i j : Int) (ht : typeOf? s i j = none) (w : World) (hs : Src w s p) :
    Calls Try.prog 40 #[s.val p, .int .i64 i, .int .i64 j] w fun e w' => e = .returned (.tuple #[tyZero.val none 0, .bool false]) ∧ Below w.heap.size w w' := by
  by_cases hin : 0 ≤ i ∧ i < s.schemas.length ∧ 0 ≤ j
  case neg =>
    have Hin := Lib.hid hin
    clear hin hs
    go_enter Try.func40, Try.ntmps40
    go_wp2
    all_goals (try (exfalso; have := Hin.out; omega))
    all_goals refine bodyPost_ret (v := .tuple #[tyZero.val none 0, .bool false]) (by simp [results, Try.f40, go_sem, tyZero]) rfl ⟨rfl, ?_⟩
    all_goals (repeat (first | exact Below.refl _ _ | refine Below.alloc ?_ (by simp) _ | refine Below.setCell ?_ (by simp) _))
  obtain ⟨hi0, hi1, hj0⟩ := hin
  have hlt : i.toNat < s.schemas.length := by omega
  by_cases hj1 : j.toNat < s.schemas[i.toNat].fields.length
  case pos => rw [typeOf?_in hi0 hj0 hlt hj1] at ht; cases ht
  obtain ⟨b, off, e1, hb, _, a0, k0, a1, k1, c0, c1, c2, c3, c4, c5, hf⟩ := SchemaD.out hs.h2 i.toNat hlt
  generalize s.schemas[i.toNat].fields.length = nf at hj1 c4
  clear c0 c1 c2 c3 c5 hf hs ht
  have hj2 : (nf : Int) ≤ j := by omega
  go_enter Try.func40, Try.ntmps40
  go_wp2
  refine bodyPost_ret (v := .tuple #[tyZero.val none 0, .bool false]) (by simp [results, Try.f40, go_sem, tyZero]) rfl ⟨rfl, ?_⟩
  (repeat (first | exact Below.refl _ _ | refine Below.alloc ?_ (by simp) _ | refine Below.setCell ?_ (by simp) _))
end Go.Proofs.Ytogenjbabgibbaa
