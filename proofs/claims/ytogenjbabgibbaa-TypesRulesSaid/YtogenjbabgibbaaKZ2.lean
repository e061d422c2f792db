import Derived.Test.YtogenjbabgibbaaKZ1
import Derived.Test.YtogenjbabgibbaaKU
import Derived.Test.YtogenjbabgibbaaKV
import Derived.Test.YtogenjbabgibbaaKX
namespace Go.Proofs.Ytogenjbabgibbaa
open Go.RowKit
/-- the lengths under which the walks hold -/
structure Few (s : SourceD) : Prop where
  names : ∀ x ∈ s.schemas, ∀ f ∈ x.fields, f.ty.names.length ≤ 100000
  fields : ∀ x ∈ s.schemas, x.fields.length ≤ 100000
theorem typeOf?_mem {s : SourceD} {i j : Int} {t : TyD} (h : typeOf? s i j = some t) : ∃ x ∈ s.schemas, ∃ f ∈ x.fields, f.ty = t := by
  unfold typeOf? at h
  by_cases h0 : 0 ≤ i ∧ 0 ≤ j
  · rw [if_pos h0] at h
    cases h1 : s.schemas[i.toNat]? with
    | none => rw [h1] at h; cases h
    | some x =>
      rw [h1] at h
      simp only at h
      cases h2 : x.fields[j.toNat]? with
      | none => rw [h2] at h; cases h
      | some f =>
        rw [h2] at h
        simp only [Option.some.injEq] at h
        exact ⟨x, List.mem_of_getElem? h1, f, List.mem_of_getElem? h2, h⟩
  · rw [if_neg h0] at h; cases h
theorem Few.short {s : SourceD} (h : Few s) : Short s := fun i j t ht => by
  obtain ⟨x, hx, f, hf, rfl⟩ := typeOf?_mem ht
  exact h.names x hx f hf
theorem good_of {s : SourceD} (h : s.schemas.all (schB s) = true) : Good s := fun i j t ht => by
  obtain ⟨x, hx, f, hf, rfl⟩ := typeOf?_mem ht
  have h1 := List.all_eq_true.1 h x hx
  unfold schB at h1
  simp only [Bool.and_eq_true] at h1
  have h2 := List.all_eq_true.1 h1.2.2 f hf
  unfold fieldB at h2
  simp only [Bool.and_eq_true] at h2
  exact h2.1
def limB (s : SourceD) : Bool := (decide (s.issuers.length ≤ 8) && (decide (s.units.length ≤ 64) && (decide (s.schemas.length ≤ 16) && (decide (s.rules.length ≤ 16) && (decide (s.converts ≤ 16) && decide (s.purposes.length ≤ 8)))))) && !(s.purposes.any fun x => decide (64 < x.may.length))
theorem pred52 (l : List PurposeD) (w : World) : PredI 52 #[] #[] RPurposeD l (fun x => decide (64 < x.may.length)) w := fun W x es _ hb hr => by
  obtain ⟨a0, k0, rfl, _⟩ := RPurposeD.flat hr
  clear hb hr
  show Calls Try.prog 52 #[.agg #[.string x.name, .slice a0 x.may.length k0, .int .i64 x.most]] W _
  go_enter Try.func52, Try.ntmps52
  go_wp2
  go_ret
  exact ⟨ret_bool (by simp; try omega), alloc1 _ _ _⟩
set_option maxRecDepth 20000 in
set_option maxHeartbeats 4000000 in
theorem limited_any (s : SourceD) (p : SrcAt) (w : World) (hs : Src w s p) :
    Calls Try.prog 23 #[s.val p] w fun e w' => e = .returned (.bool (limB s)) ∧ Below w.heap.size w w' := by
  obtain ⟨a0, k0, a1, k1, a2, k2, a3, k3, a4, k4, a5, k5⟩ := p
  by_cases hd : s.issuers.length ≤ 8 ∧ s.units.length ≤ 64 ∧ s.schemas.length ≤ 16 ∧ s.rules.length ≤ 16 ∧ s.converts ≤ 16 ∧ s.purposes.length ≤ 8
  case neg =>
    have Hd := Lib.hid hd
    clear hs hd
    go_enter Try.func23, Try.ntmps23
    go_wp2_with fail
    all_goals (try (exfalso; have := Hd.out; omega))
    all_goals go_ret
    all_goals exact ⟨ret_bool (by have := Hd.out; simp [limB]; intros; omega), by (repeat (first | exact Below.refl _ _ | refine Below.alloc ?_ (by first | (simp; done) | (simp; omega)) _ | refine Below.setCell ?_ (by first | (simp; done) | (simp; omega)) _ | refine below_drewN ?_ _))⟩
  have Hv := Lib.hid (show limB s = !(s.purposes.any fun x => decide (64 < x.may.length)) by simp [limB, hd])
  obtain ⟨h1, h2, h3, h4, h5, h6⟩ := hd
  have Hs := Lib.hid hs
  clear hs
  have e52 : ∀ args w, (callFunc 52 args).run Try.prog w = .ok (.enter 52 args) w := enters_of Try.func52 (by kernel_rfl) rfl
  go_enter Try.func23, Try.ntmps23
  go_wp2_with fail
  all_goals (try (exfalso; omega))
  generalize hw0 : World.alloc _ _ = w0
  obtain ⟨X0, hsz, hb0⟩ := blk1 hw0
  have x0 : w0.cell? ⟨w.heap.size, 0, none⟩ = some (.slice a0 s.issuers.length k0) := X0.cell 0
  have x1 : w0.cell? ⟨w.heap.size, 1, none⟩ = some (.slice a1 s.units.length k1) := X0.cell 1
  have x2 : w0.cell? ⟨w.heap.size, 2, none⟩ = some (.slice a2 s.schemas.length k2) := X0.cell 2
  have x3 : w0.cell? ⟨w.heap.size, 3, none⟩ = some (.slice a3 s.rules.length k3) := X0.cell 3
  have x4 : w0.cell? ⟨w.heap.size, 4, none⟩ = some (.slice a4 s.converts k4) := X0.cell 4
  have x5 : w0.cell? ⟨w.heap.size, 5, none⟩ = some (.slice a5 s.purposes.length k5) := X0.cell 5
  have hl_x : w.heap.size < w0.heap.size := by omega
  have hwl : w.heap.size ≤ w0.heap.size := hb0.size
  have Hb := Lib.hid hb0
  clear hw0 hb0 hsz X0
  refine (conP a5 k5 s.purposes 52 #[] #[] _ _ (((Hs.out.below Hb.out).h5)) (pred52 _ _) (by omega) e52).mono ?_
  rintro e w1 ⟨rfl, hb1⟩
  replace x0 := cell_kept hb1 x0 hl_x
  replace x1 := cell_kept hb1 x1 hl_x
  replace x2 := cell_kept hb1 x2 hl_x
  replace x3 := cell_kept hb1 x3 hl_x
  replace x4 := cell_kept hb1 x4 hl_x
  replace x5 := cell_kept hb1 x5 hl_x
  replace Hb := Lib.hid (Hb.out.trans (hb1.mono hwl))
  replace hl_x := Nat.lt_of_lt_of_le hl_x hb1.size
  replace hwl := Nat.le_trans hwl hb1.size
  clear hb1
  go_wp2
  go_ret
  exact ⟨ret_bool (by rw [Hv.out]), Hb.out⟩
theorem pred27 (s : SourceD) (p : SrcAt) (l : List UnitD) (w : World) (hs : Src w s p) : PredI 27 #[s.val p] #[] RUnitD l (unitB s.units) w := fun W x es _ hb hr => by
  obtain ⟨rfl, _⟩ := RUnitD.flat hr
  exact unitOK_any s p x W (hs.below hb)
theorem pred29 (s : SourceD) (p : SrcAt) (w : World) (hf : Few s) : PredI 29 #[s.val p] #[] RSchemaD s.schemas (schB s) w := fun W x es hx _ hr => by
  obtain ⟨a0, k0, a1, k1, rfl, h, _⟩ := RSchemaD.flat hr
  exact schemaOK_any s p x a0 k0 a1 k1 W (by first | exact h | exact h.1) W (Below.refl _ _) (hf.names x hx)
theorem pred32 (s : SourceD) (p : SrcAt) (w : World) (hs : Src w s p) (hl : ∀ x ∈ s.purposes, x.may.length ≤ 100000) : PredI 32 #[s.val p] #[] RPurposeD s.purposes (purpB s) w := fun W x es hx hb hr => by
  obtain ⟨a0, k0, rfl, h, _⟩ := RPurposeD.flat hr
  exact purposeOK_any s p x a0 k0 W (hs.below hb) h W (Below.refl _ _) (hl x hx)
theorem pred24 (s : SourceD) (b : Nat) (a0 a1 a2 a3 a4 a5 : Option Addr) (k0 k1 k2 k3 k4 k5 : Nat) (l : List RuleD) (w : World) (hs : Src w s ⟨a0, k0, a1, k1, a2, k2, a3, k3, a4, k4, a5, k5⟩) (hlb : b < w.heap.size)
    (H : ∀ i v, [.slice a0 s.issuers.length k0, .slice a1 s.units.length k1, .slice a2 s.schemas.length k2, .slice a3 s.rules.length k3, .slice a4 s.converts k4, .slice a5 s.purposes.length k5][i]? = some v → w.cell? ⟨b, i, none⟩ = some v) (hsh : Short s) (hgd : Good s) (hsf : ShortF s) :
    PredI 24 #[] #[.pointer (some ⟨b, 0, none⟩)] RRuleD l (ruleB s) w := fun W x es _ hb hr => by
  have c0 : W.cell? ⟨b, 0, none⟩ = some (.slice a0 s.issuers.length k0) := (hb.cell (p := ⟨b, 0, none⟩) hlb).trans (H 0 _ rfl)
  have c1 : W.cell? ⟨b, 1, none⟩ = some (.slice a1 s.units.length k1) := (hb.cell (p := ⟨b, 1, none⟩) hlb).trans (H 1 _ rfl)
  have c2 : W.cell? ⟨b, 2, none⟩ = some (.slice a2 s.schemas.length k2) := (hb.cell (p := ⟨b, 2, none⟩) hlb).trans (H 2 _ rfl)
  have c3 : W.cell? ⟨b, 3, none⟩ = some (.slice a3 s.rules.length k3) := (hb.cell (p := ⟨b, 3, none⟩) hlb).trans (H 3 _ rfl)
  have c4 : W.cell? ⟨b, 4, none⟩ = some (.slice a4 s.converts k4) := (hb.cell (p := ⟨b, 4, none⟩) hlb).trans (H 4 _ rfl)
  have c5 : W.cell? ⟨b, 5, none⟩ = some (.slice a5 s.purposes.length k5) := (hb.cell (p := ⟨b, 5, none⟩) hlb).trans (H 5 _ rfl)
  have hl_c : b < W.heap.size := Nat.lt_of_lt_of_le hlb hb.size
  obtain ⟨f2, l2, f3, l3, f4, l4, rfl, g2, g3, g4, _⟩ := RRuleD.flat hr
  have Hs := Lib.hid (hs.below hb)
  have Hr := Lib.hid (show Rul W x ⟨f2, l2, f3, l3, f4, l4⟩ from ⟨g2, g3, g4⟩)
  have hne : b ≠ W.heap.size := by omega
  clear hs hr H hb hlb g2 g3 g4
  show Calls Try.prog 24 #[.agg #[.string x.head, .int .i64 x.schema, .slice f2 x.froms.length l2, .slice f3 x.where_.length l3, .slice f4 x.sets.length l4], .pointer (some ⟨b, 0, none⟩)] W _
  go_enter Try.func24, Try.ntmps24
  go_wp2_with (go_at_call 25; refine (ruleOK_any s ⟨a0, k0, a1, k1, a2, k2, a3, k3, a4, k4, a5, k5⟩ x ⟨f2, l2, f3, l3, f4, l4⟩ W Hs.out Hr.out _ (alloc1 _ _ _) hsh hgd hsf).mono ?_; rintro e w' ⟨rfl, hb'⟩)
  go_ret
  exact ⟨rfl, (alloc1 _ _ _).trans (hb'.mono (by simp))⟩
def checkB (s : SourceD) : Int := if limB s then (if s.units.all (unitB s.units) && (s.schemas.all (schB s) && (s.rules.all (ruleB s) && s.purposes.all (purpB s))) then 0 else 120) else 2
end Go.Proofs.Ytogenjbabgibbaa
