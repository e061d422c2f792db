import Derived.Test.YtogenjbabgibbaaKG
import Derived.Test.YtogenjbabgibbaaKH
import Derived.Test.YtogenjbabgibbaaKI
namespace Go.Proofs.Ytogenjbabgibbaa
open Go.RowKit

abbrev RefD.val (r : RefD) : Value := .agg #[.string r.name, .string r.path, .int .i64 r.schema, .int .i64 r.field]
/-- names of types are few -/
def Short (s : SourceD) : Prop := ∀ i j t, typeOf? s i j = some t → t.names.length ≤ 100000
def unitAt (us : List UnitD) (n : Int) : Bool := match us[n.toNat]? with | some u => unitB us u | none => false
/-- a type is valid, and its unit -/
def goodT (s : SourceD) (t : TyD) : Bool := kindB t s.units.length && (decide (t.unit = -1) || unitAt s.units t.unit)
def soundB (s : SourceD) (r : RefD) : Bool := match typeOf? s r.schema r.field with | some t => goodT s t | none => false
theorem kindB_unit {t : TyD} {n : Nat} (h : kindB t n = true) : -1 ≤ t.unit ∧ t.unit < n := by
  unfold kindB at h
  split at h
  · simp [kind1] at h; omega
  split at h
  · simp [kind2] at h; omega
  split at h
  · simp [kind3] at h; omega
  split at h
  · simp [kind4] at h; omega
  · cases h
theorem unitAt_in {us : List UnitD} {n : Int} (h : n.toNat < us.length) : unitAt us n = unitB us us[n.toNat] := by
  unfold unitAt; rw [List.getElem?_eq_getElem h]

theorem runit_at (s : SourceD) (p : SrcAt) (n : Int) (w : World) (hs : Src w s p) (h0 : 0 ≤ n) (h1 : n < s.units.length) :
    Calls Try.prog 33 #[s.val p, .int .i64 n] w fun e w' => e = .returned (.bool (unitAt s.units n)) ∧ Below w.heap.size w w' := by
  obtain ⟨k, rfl⟩ := Int.eq_ofNat_of_zero_le h0
  have hk : k < s.units.length := by omega
  have := runit_in s p k w hs hk
  rw [unitAt_in (by simpa using hk)]
  simpa using this
set_option maxRecDepth 20000 in
set_option maxHeartbeats 2000000 in
theorem rsound_any (s : SourceD) (p : SrcAt) (r : RefD) (w : World) (hs : Src w s p) (hsh : Short s) :
    Calls Try.prog 38 #[s.val p, r.val] w fun e w' => e = .returned (.bool (soundB s r)) ∧ Below w.heap.size w w' := by
  have Hs := Lib.hid hs
  clear hs
  cases ht : typeOf? s r.schema r.field with
  | none =>
    have hth : thereB s r.schema r.field = false := by simp [thereB, ht]
    have Ht := Lib.hid ht
    clear ht
    go_enter Try.func38, Try.ntmps38
    go_wp2_with fail
    generalize hw0 : World.alloc _ _ = w0
    obtain ⟨X0, X1, hsz, hb0⟩ := blk2 hw0
    have x0 : w0.cell? ⟨w.heap.size, 0, none⟩ = some (.slice p.a0 s.issuers.length p.k0) := X0.cell 0
    have x1 : w0.cell? ⟨w.heap.size, 1, none⟩ = some (.slice p.a1 s.units.length p.k1) := X0.cell 1
    have x2 : w0.cell? ⟨w.heap.size, 2, none⟩ = some (.slice p.a2 s.schemas.length p.k2) := X0.cell 2
    have x3 : w0.cell? ⟨w.heap.size, 3, none⟩ = some (.slice p.a3 s.rules.length p.k3) := X0.cell 3
    have x4 : w0.cell? ⟨w.heap.size, 4, none⟩ = some (.slice p.a4 s.converts p.k4) := X0.cell 4
    have x5 : w0.cell? ⟨w.heap.size, 5, none⟩ = some (.slice p.a5 s.purposes.length p.k5) := X0.cell 5
    have hl_x : w.heap.size < w0.heap.size := by omega
    have y0 : w0.cell? ⟨w.heap.size + 1, 0, none⟩ = some (.string r.name) := X1.cell 0
    have y1 : w0.cell? ⟨w.heap.size + 1, 1, none⟩ = some (.string r.path) := X1.cell 1
    have y2 : w0.cell? ⟨w.heap.size + 1, 2, none⟩ = some (.int .i64 r.schema) := X1.cell 2
    have y3 : w0.cell? ⟨w.heap.size + 1, 3, none⟩ = some (.int .i64 r.field) := X1.cell 3
    have hl_y : w.heap.size + 1 < w0.heap.size := by omega
    have hwl : w.heap.size ≤ w0.heap.size := hb0.size
    have Hb := Lib.hid hb0
    clear hw0 hb0 hsz X0 X1
    refine (there_any s p r.schema r.field _ (Hs.out.below Hb.out)).mono ?_
    rintro e w1 ⟨rfl, hb1⟩
    rw [hth]
    replace x0 := cell_kept hb1 x0 hl_x
    replace x1 := cell_kept hb1 x1 hl_x
    replace x2 := cell_kept hb1 x2 hl_x
    replace x3 := cell_kept hb1 x3 hl_x
    replace x4 := cell_kept hb1 x4 hl_x
    replace x5 := cell_kept hb1 x5 hl_x
    replace y0 := cell_kept hb1 y0 hl_y
    replace y1 := cell_kept hb1 y1 hl_y
    replace y2 := cell_kept hb1 y2 hl_y
    replace y3 := cell_kept hb1 y3 hl_y
    replace Hb := Lib.hid (Hb.out.trans (hb1.mono hwl))
    replace hl_x := Nat.lt_of_lt_of_le hl_x hb1.size
    replace hl_y := Nat.lt_of_lt_of_le hl_y hb1.size
    replace hwl := Nat.le_trans hwl hb1.size
    clear hb1
    go_wp2
    go_ret
    exact ⟨ret_bool (by simp [soundB, Ht.out]), Hb.out⟩
  | some t =>
    have hth : thereB s r.schema r.field = true := by simp [thereB, ht]
    have Ht := Lib.hid ht
    have hl := hsh _ _ _ ht
    clear ht hsh
    go_enter Try.func38, Try.ntmps38
    go_wp2_with fail
    generalize hw0 : World.alloc _ _ = w0
    obtain ⟨X0, X1, hsz, hb0⟩ := blk2 hw0
    have x0 : w0.cell? ⟨w.heap.size, 0, none⟩ = some (.slice p.a0 s.issuers.length p.k0) := X0.cell 0
    have x1 : w0.cell? ⟨w.heap.size, 1, none⟩ = some (.slice p.a1 s.units.length p.k1) := X0.cell 1
    have x2 : w0.cell? ⟨w.heap.size, 2, none⟩ = some (.slice p.a2 s.schemas.length p.k2) := X0.cell 2
    have x3 : w0.cell? ⟨w.heap.size, 3, none⟩ = some (.slice p.a3 s.rules.length p.k3) := X0.cell 3
    have x4 : w0.cell? ⟨w.heap.size, 4, none⟩ = some (.slice p.a4 s.converts p.k4) := X0.cell 4
    have x5 : w0.cell? ⟨w.heap.size, 5, none⟩ = some (.slice p.a5 s.purposes.length p.k5) := X0.cell 5
    have hl_x : w.heap.size < w0.heap.size := by omega
    have y0 : w0.cell? ⟨w.heap.size + 1, 0, none⟩ = some (.string r.name) := X1.cell 0
    have y1 : w0.cell? ⟨w.heap.size + 1, 1, none⟩ = some (.string r.path) := X1.cell 1
    have y2 : w0.cell? ⟨w.heap.size + 1, 2, none⟩ = some (.int .i64 r.schema) := X1.cell 2
    have y3 : w0.cell? ⟨w.heap.size + 1, 3, none⟩ = some (.int .i64 r.field) := X1.cell 3
    have hl_y : w.heap.size + 1 < w0.heap.size := by omega
    have hwl : w.heap.size ≤ w0.heap.size := hb0.size
    have Hb := Lib.hid hb0
    clear hw0 hb0 hsz X0 X1
    refine (there_any s p r.schema r.field _ (Hs.out.below Hb.out)).mono ?_
    rintro e w1 ⟨rfl, hb1⟩
    rw [hth]
    replace x0 := cell_kept hb1 x0 hl_x
    replace x1 := cell_kept hb1 x1 hl_x
    replace x2 := cell_kept hb1 x2 hl_x
    replace x3 := cell_kept hb1 x3 hl_x
    replace x4 := cell_kept hb1 x4 hl_x
    replace x5 := cell_kept hb1 x5 hl_x
    replace y0 := cell_kept hb1 y0 hl_y
    replace y1 := cell_kept hb1 y1 hl_y
    replace y2 := cell_kept hb1 y2 hl_y
    replace y3 := cell_kept hb1 y3 hl_y
    replace Hb := Lib.hid (Hb.out.trans (hb1.mono hwl))
    replace hl_x := Nat.lt_of_lt_of_le hl_x hb1.size
    replace hl_y := Nat.lt_of_lt_of_le hl_y hb1.size
    replace hwl := Nat.le_trans hwl hb1.size
    clear hb1
    go_wp2_with fail
    refine (rtypeOf_in s p r.schema r.field t Ht.out _ (Hs.out.below Hb.out)).mono ?_
    rintro e w1 ⟨⟨_, rfl, an, kn, rfl, hn⟩, hb1⟩
    replace x0 := cell_kept hb1 x0 hl_x
    replace x1 := cell_kept hb1 x1 hl_x
    replace x2 := cell_kept hb1 x2 hl_x
    replace x3 := cell_kept hb1 x3 hl_x
    replace x4 := cell_kept hb1 x4 hl_x
    replace x5 := cell_kept hb1 x5 hl_x
    replace y0 := cell_kept hb1 y0 hl_y
    replace y1 := cell_kept hb1 y1 hl_y
    replace y2 := cell_kept hb1 y2 hl_y
    replace y3 := cell_kept hb1 y3 hl_y
    replace Hb := Lib.hid (Hb.out.trans (hb1.mono hwl))
    replace hl_x := Nat.lt_of_lt_of_le hl_x hb1.size
    replace hl_y := Nat.lt_of_lt_of_le hl_y hb1.size
    replace hwl := Nat.le_trans hwl hb1.size
    clear hb1
    have Hn := Lib.hid hn
    clear hn
    go_wp2_with fail
    generalize hw0 : World.alloc _ _ = w2
    obtain ⟨X0, hsz, hb1⟩ := blk1 hw0
    have z0 : w2.cell? ⟨w1.heap.size, 0, none⟩ = some (.int .i64 t.kind) := X0.cell 0
    have z1 : w2.cell? ⟨w1.heap.size, 1, none⟩ = some (.int .i64 t.lo) := X0.cell 1
    have z2 : w2.cell? ⟨w1.heap.size, 2, none⟩ = some (.int .i64 t.hi) := X0.cell 2
    have z3 : w2.cell? ⟨w1.heap.size, 3, none⟩ = some (.string t.of_) := X0.cell 3
    have z4 : w2.cell? ⟨w1.heap.size, 4, none⟩ = some (.int .i64 t.unit) := X0.cell 4
    have z5 : w2.cell? ⟨w1.heap.size, 5, none⟩ = some (.slice an t.names.length kn) := X0.cell 5
    have hl_z : w1.heap.size < w2.heap.size := by omega
    replace x0 := cell_kept hb1 x0 hl_x
    replace x1 := cell_kept hb1 x1 hl_x
    replace x2 := cell_kept hb1 x2 hl_x
    replace x3 := cell_kept hb1 x3 hl_x
    replace x4 := cell_kept hb1 x4 hl_x
    replace x5 := cell_kept hb1 x5 hl_x
    replace y0 := cell_kept hb1 y0 hl_y
    replace y1 := cell_kept hb1 y1 hl_y
    replace y2 := cell_kept hb1 y2 hl_y
    replace y3 := cell_kept hb1 y3 hl_y
    replace Hb := Lib.hid (Hb.out.trans (hb1.mono hwl))
    replace hl_x := Nat.lt_of_lt_of_le hl_x hb1.size
    replace hl_y := Nat.lt_of_lt_of_le hl_y hb1.size
    replace hwl := Nat.le_trans hwl hb1.size
    replace Hn := Lib.hid (Hn.out.below RStr.stab hb1)
    clear hb1
    clear hw0 hsz X0
    refine (rtype_any s p t an kn _ Hn.out hl).mono ?_
    rintro e w3 ⟨rfl, hb1⟩
    replace x0 := cell_kept hb1 x0 hl_x
    replace x1 := cell_kept hb1 x1 hl_x
    replace x2 := cell_kept hb1 x2 hl_x
    replace x3 := cell_kept hb1 x3 hl_x
    replace x4 := cell_kept hb1 x4 hl_x
    replace x5 := cell_kept hb1 x5 hl_x
    replace y0 := cell_kept hb1 y0 hl_y
    replace y1 := cell_kept hb1 y1 hl_y
    replace y2 := cell_kept hb1 y2 hl_y
    replace y3 := cell_kept hb1 y3 hl_y
    replace z0 := cell_kept hb1 z0 hl_z
    replace z1 := cell_kept hb1 z1 hl_z
    replace z2 := cell_kept hb1 z2 hl_z
    replace z3 := cell_kept hb1 z3 hl_z
    replace z4 := cell_kept hb1 z4 hl_z
    replace z5 := cell_kept hb1 z5 hl_z
    replace Hb := Lib.hid (Hb.out.trans (hb1.mono hwl))
    replace hl_x := Nat.lt_of_lt_of_le hl_x hb1.size
    replace hl_y := Nat.lt_of_lt_of_le hl_y hb1.size
    replace hl_z := Nat.lt_of_lt_of_le hl_z hb1.size
    replace hwl := Nat.le_trans hwl hb1.size
    clear Hn
    clear hb1
    cases hkb : kindB t s.units.length with
    | false =>
      go_wp2
      go_ret
      exact ⟨ret_bool (by simp [soundB, Ht.out, goodT, hkb]), Hb.out⟩
    | true =>
      have hku := kindB_unit hkb
      by_cases hu : t.unit = -1
      · go_wp2
        go_ret
        exact ⟨ret_bool (by simp [soundB, Ht.out, goodT, hkb, hu]), Hb.out⟩
      · have d1 : (t.unit == -1) = false := by simpa using hu
        go_wp2_with fail
        refine (runit_at s p t.unit _ (Hs.out.below Hb.out) (by omega) (by omega)).mono ?_
        rintro e w4 ⟨rfl, hb1⟩
        replace x0 := cell_kept hb1 x0 hl_x
        replace x1 := cell_kept hb1 x1 hl_x
        replace x2 := cell_kept hb1 x2 hl_x
        replace x3 := cell_kept hb1 x3 hl_x
        replace x4 := cell_kept hb1 x4 hl_x
        replace x5 := cell_kept hb1 x5 hl_x
        replace y0 := cell_kept hb1 y0 hl_y
        replace y1 := cell_kept hb1 y1 hl_y
        replace y2 := cell_kept hb1 y2 hl_y
        replace y3 := cell_kept hb1 y3 hl_y
        replace z0 := cell_kept hb1 z0 hl_z
        replace z1 := cell_kept hb1 z1 hl_z
        replace z2 := cell_kept hb1 z2 hl_z
        replace z3 := cell_kept hb1 z3 hl_z
        replace z4 := cell_kept hb1 z4 hl_z
        replace z5 := cell_kept hb1 z5 hl_z
        replace Hb := Lib.hid (Hb.out.trans (hb1.mono hwl))
        replace hl_x := Nat.lt_of_lt_of_le hl_x hb1.size
        replace hl_y := Nat.lt_of_lt_of_le hl_y hb1.size
        replace hl_z := Nat.lt_of_lt_of_le hl_z hb1.size
        replace hwl := Nat.le_trans hwl hb1.size
        clear hb1
        go_wp2
        go_ret
        exact ⟨ret_bool (by simp [soundB, Ht.out, goodT, hkb, hu]), Hb.out⟩
end Go.Proofs.Ytogenjbabgibbaa
