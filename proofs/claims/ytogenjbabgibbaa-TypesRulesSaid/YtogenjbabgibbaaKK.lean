import Derived.Test.YtogenjbabgibbaaKL
namespace Go.Proofs.Ytogenjbabgibbaa
open Go.RowKit
def goodO (s : SourceD) (t : TyD) : Option TyD := if goodT s t then some t else none
def usable? (s : SourceD) (r : RefD) : Option TyD := match typeOf? s r.schema r.field with | some t => goodO s t | none => none
/-- what usable returns -/
def UsRes (w : World) (e : Ending) : Option TyD → Prop
  | some t => ∃ an kn, e = .returned (.tuple #[t.val an kn, .bool true]) ∧ Sl 1 RStr w an t.names
  | none => ∃ (t : TyD) (an : Option Addr) (kn : Nat), e = .returned (.tuple #[t.val an kn, .bool false])
theorem typeOK_eq (s : SourceD) (p : SrcAt) (t : TyD) (an : Option Addr) (kn : Nat) (w : World) (hn : Sl 1 RStr w an t.names) (hl : t.names.length ≤ 100000) (r : Bool) (hr : kindB t s.units.length = r) :
    Calls Try.prog 41 #[s.val p, t.val an kn] w fun e w' => e = .returned (.bool r) ∧ Below w.heap.size w w' := by
  subst hr
  exact typeOK_any s p t an kn w hn hl
theorem unitOK_eq (s : SourceD) (p : SrcAt) (u : UnitD) (w : World) (hs : Src w s p) (r : Bool) (hr : unitB s.units u = r) :
    Calls Try.prog 27 #[s.val p, u.val] w fun e w' => e = .returned (.bool r) ∧ Below w.heap.size w w' := by
  subst hr
  exact unitOK_any s p u w hs
set_option maxRecDepth 20000 in
set_option maxHeartbeats 2000000 in
theorem usable_no (s : SourceD) (p : SrcAt) (r : RefD) (wb : World) (hs : Src wb s p) (w : World) (hbb : Below wb.heap.size wb w) (ht : typeOf? s r.schema r.field = none) :
    Calls Try.prog 37 #[s.val p, r.val] w fun e w' => UsRes wb e none ∧ Below w.heap.size w w' := by
  have Hs := Lib.hid (hs.below hbb)
  clear hs hbb
  have Ht := Lib.hid ht
  clear ht
  go_enter Try.func37, Try.ntmps37
  go_wp2_with fail
  generalize hw0 : World.alloc _ _ = w0
  obtain ⟨X0, X1, X2, hsz, hb0⟩ := blk3 hw0
  have x0 : w0.cell? ⟨w.heap.size, 0, none⟩ = some (.slice p.a0 s.issuers.length p.k0) := X0.cell 0
  have x1 : w0.cell? ⟨w.heap.size, 1, none⟩ = some (.slice p.a1 s.units.length p.k1) := X0.cell 1
  have x2 : w0.cell? ⟨w.heap.size, 2, none⟩ = some (.slice p.a2 s.schemas.length p.k2) := X0.cell 2
  have x3 : w0.cell? ⟨w.heap.size, 3, none⟩ = some (.slice p.a3 s.rules.length p.k3) := X0.cell 3
  have x4 : w0.cell? ⟨w.heap.size, 4, none⟩ = some (.slice p.a4 s.converts p.k4) := X0.cell 4
  have x5 : w0.cell? ⟨w.heap.size, 5, none⟩ = some (.slice p.a5 s.purposes.length p.k5) := X0.cell 5
  have hl_x : w.heap.size < w0.heap.size := by omega
  have y0 : w0.cell? ⟨w.heap.size + 1, 0, none⟩ = some (.string r.name) := X1.cell 0
  have y1 : w0.cell? ⟨w.heap.size + 1, 1, none⟩ = some (.string r.path) := X1.cell 1
  have y2 : w0.cell? ⟨w.heap.size + 1, 2, none⟩ = some (.int .i64 r.schema) := X1.cell 2
  have y3 : w0.cell? ⟨w.heap.size + 1, 3, none⟩ = some (.int .i64 r.field) := X1.cell 3
  have hl_y : w.heap.size + 1 < w0.heap.size := by omega
  have z0 : w0.cell? ⟨w.heap.size + 1 + 1, 0, none⟩ = some (.int .i64 0) := X2.cell 0
  have z1 : w0.cell? ⟨w.heap.size + 1 + 1, 1, none⟩ = some (.int .i64 0) := X2.cell 1
  have z2 : w0.cell? ⟨w.heap.size + 1 + 1, 2, none⟩ = some (.int .i64 0) := X2.cell 2
  have z3 : w0.cell? ⟨w.heap.size + 1 + 1, 3, none⟩ = some (.string ⟨#[]⟩) := X2.cell 3
  have z4 : w0.cell? ⟨w.heap.size + 1 + 1, 4, none⟩ = some (.int .i64 0) := X2.cell 4
  have z5 : w0.cell? ⟨w.heap.size + 1 + 1, 5, none⟩ = some (.slice none 0 0) := X2.cell 5
  have hl_z : w.heap.size + 1 + 1 < w0.heap.size := by omega
  have HBz := Lib.hid X2
  have hwl : w.heap.size ≤ w0.heap.size := hb0.size
  have Hb := Lib.hid hb0
  clear hw0 hb0 hsz X0 X1 X2
  refine (typeOf_no s p r.schema r.field Ht.out _ (Hs.out.below Hb.out)).mono ?_
  rintro e w1 ⟨rfl, hb1⟩
  replace x0 := cell_kept hb1 x0 hl_x
  replace x1 := cell_kept hb1 x1 hl_x
  replace x2 := cell_kept hb1 x2 hl_x
  replace x3 := cell_kept hb1 x3 hl_x
  replace x4 := cell_kept hb1 x4 hl_x
  replace x5 := cell_kept hb1 x5 hl_x
  replace y0 := cell_kept hb1 y0 hl_y
  replace y1 := cell_kept hb1 y1 hl_y
  replace y2 := cell_kept hb1 y2 hl_y
  replace y3 := cell_kept hb1 y3 hl_y
  replace z0 := cell_kept hb1 z0 hl_z
  replace z1 := cell_kept hb1 z1 hl_z
  replace z2 := cell_kept hb1 z2 hl_z
  replace z3 := cell_kept hb1 z3 hl_z
  replace z4 := cell_kept hb1 z4 hl_z
  replace z5 := cell_kept hb1 z5 hl_z
  replace HBz := Lib.hid (HBz.out.below hb1 hl_z)
  replace Hb := Lib.hid (Hb.out.trans (hb1.mono hwl))
  replace hl_x := Nat.lt_of_lt_of_le hl_x hb1.size
  replace hl_y := Nat.lt_of_lt_of_le hl_y hb1.size
  replace hl_z := Nat.lt_of_lt_of_le hl_z hb1.size
  replace hwl := Nat.le_trans hwl hb1.size
  clear hb1
  have z_0 := HBz.out.frozen 0
  have z_1 := HBz.out.frozen 1
  have z_2 := HBz.out.frozen 2
  have z_3 := HBz.out.frozen 3
  have z_4 := HBz.out.frozen 4
  have z_5 := HBz.out.frozen 5
  go_wp2_with fail
  clear z_0 z_1 z_2 z_3 z_4 z_5
  generalize hw0 : World.setCell _ _ _ = w2
  obtain ⟨X0, hoth, hsz, hbel, hblk⟩ := stored (vs := [.int .i64 0, .int .i64 0, .int .i64 0, .string ⟨#[]⟩, .int .i64 0, .slice none 0 0]) HBz.out rfl hw0
  replace x0 := hoth x0 (by omega)
  replace x1 := hoth x1 (by omega)
  replace x2 := hoth x2 (by omega)
  replace x3 := hoth x3 (by omega)
  replace x4 := hoth x4 (by omega)
  replace x5 := hoth x5 (by omega)
  replace y0 := hoth y0 (by omega)
  replace y1 := hoth y1 (by omega)
  replace y2 := hoth y2 (by omega)
  replace y3 := hoth y3 (by omega)
  replace z0 : w2.cell? ⟨w.heap.size + 1 + 1, 0, none⟩ = some (.int .i64 0) := X0.cell 0
  replace z1 : w2.cell? ⟨w.heap.size + 1 + 1, 1, none⟩ = some (.int .i64 0) := X0.cell 1
  replace z2 : w2.cell? ⟨w.heap.size + 1 + 1, 2, none⟩ = some (.int .i64 0) := X0.cell 2
  replace z3 : w2.cell? ⟨w.heap.size + 1 + 1, 3, none⟩ = some (.string ⟨#[]⟩) := X0.cell 3
  replace z4 : w2.cell? ⟨w.heap.size + 1 + 1, 4, none⟩ = some (.int .i64 0) := X0.cell 4
  replace z5 : w2.cell? ⟨w.heap.size + 1 + 1, 5, none⟩ = some (.slice none 0 0) := X0.cell 5
  replace HBz := Lib.hid X0
  have hb1 := hbel w.heap.size (by omega)
  replace Hb := Lib.hid (Hb.out.trans hb1)
  replace hl_x : w.heap.size < w2.heap.size := by omega
  replace hl_y : w.heap.size + 1 < w2.heap.size := by omega
  replace hl_z : w.heap.size + 1 + 1 < w2.heap.size := by omega
  replace hwl : w.heap.size ≤ w2.heap.size := by omega
  clear hw0 hoth hsz hbel hblk X0 hb1
  go_quiet (fail)
  generalize hw0 : World.drewN _ _ = w3
  have hb1 : Below w2.heap.size w2 w3 := hw0 ▸ below_drewN (Below.refl _ _) _
  clear hw0
  replace x0 := cell_kept hb1 x0 hl_x
  replace x1 := cell_kept hb1 x1 hl_x
  replace x2 := cell_kept hb1 x2 hl_x
  replace x3 := cell_kept hb1 x3 hl_x
  replace x4 := cell_kept hb1 x4 hl_x
  replace x5 := cell_kept hb1 x5 hl_x
  replace y0 := cell_kept hb1 y0 hl_y
  replace y1 := cell_kept hb1 y1 hl_y
  replace y2 := cell_kept hb1 y2 hl_y
  replace y3 := cell_kept hb1 y3 hl_y
  replace z0 := cell_kept hb1 z0 hl_z
  replace z1 := cell_kept hb1 z1 hl_z
  replace z2 := cell_kept hb1 z2 hl_z
  replace z3 := cell_kept hb1 z3 hl_z
  replace z4 := cell_kept hb1 z4 hl_z
  replace z5 := cell_kept hb1 z5 hl_z
  replace HBz := Lib.hid (HBz.out.below hb1 hl_z)
  replace Hb := Lib.hid (Hb.out.trans (hb1.mono hwl))
  replace hl_x := Nat.lt_of_lt_of_le hl_x hb1.size
  replace hl_y := Nat.lt_of_lt_of_le hl_y hb1.size
  replace hl_z := Nat.lt_of_lt_of_le hl_z hb1.size
  replace hwl := Nat.le_trans hwl hb1.size
  clear hb1
  have z_0 := HBz.out.frozen 0
  have z_1 := HBz.out.frozen 1
  have z_2 := HBz.out.frozen 2
  have z_3 := HBz.out.frozen 3
  have z_4 := HBz.out.frozen 4
  have z_5 := HBz.out.frozen 5
  go_wp2_with fail
  clear z_0 z_1 z_2 z_3 z_4 z_5
  generalize hw0 : World.setCell _ _ _ = w4
  obtain ⟨X0, hoth, hsz, hbel, hblk⟩ := stored (vs := [.int .i64 0, .int .i64 0, .int .i64 0, .string ⟨#[]⟩, .int .i64 0, .slice none 0 0]) HBz.out rfl hw0
  replace x0 := hoth x0 (by omega)
  replace x1 := hoth x1 (by omega)
  replace x2 := hoth x2 (by omega)
  replace x3 := hoth x3 (by omega)
  replace x4 := hoth x4 (by omega)
  replace x5 := hoth x5 (by omega)
  replace y0 := hoth y0 (by omega)
  replace y1 := hoth y1 (by omega)
  replace y2 := hoth y2 (by omega)
  replace y3 := hoth y3 (by omega)
  replace z0 : w4.cell? ⟨w.heap.size + 1 + 1, 0, none⟩ = some (.int .i64 0) := X0.cell 0
  replace z1 : w4.cell? ⟨w.heap.size + 1 + 1, 1, none⟩ = some (.int .i64 0) := X0.cell 1
  replace z2 : w4.cell? ⟨w.heap.size + 1 + 1, 2, none⟩ = some (.int .i64 0) := X0.cell 2
  replace z3 : w4.cell? ⟨w.heap.size + 1 + 1, 3, none⟩ = some (.string ⟨#[]⟩) := X0.cell 3
  replace z4 : w4.cell? ⟨w.heap.size + 1 + 1, 4, none⟩ = some (.int .i64 0) := X0.cell 4
  replace z5 : w4.cell? ⟨w.heap.size + 1 + 1, 5, none⟩ = some (.slice none 0 0) := X0.cell 5
  replace HBz := Lib.hid X0
  have hb1 := hbel w.heap.size (by omega)
  replace Hb := Lib.hid (Hb.out.trans hb1)
  replace hl_x : w.heap.size < w4.heap.size := by omega
  replace hl_y : w.heap.size + 1 < w4.heap.size := by omega
  replace hl_z : w.heap.size + 1 + 1 < w4.heap.size := by omega
  replace hwl : w.heap.size ≤ w4.heap.size := by omega
  clear hw0 hoth hsz hbel hblk X0 hb1
  refine bodyPost_ret (v := .tuple #[tyZero.val none 0, .bool false]) (by simp [results, Try.f37, go_sem, tyZero, *]) rfl ⟨⟨tyZero, none, 0, rfl⟩, Hb.out⟩
set_option maxRecDepth 20000 in
set_option maxHeartbeats 4000000 in
theorem usable_unit (s : SourceD) (p : SrcAt) (r : RefD) (wb : World) (hs : Src wb s p) (w : World) (hbb : Below wb.heap.size wb w) (t : TyD) (ht : typeOf? s r.schema r.field = some t) (hl : t.names.length ≤ 100000) (hk : kindB t s.units.length = true) (hu : ¬ t.unit = -1) :
    Calls Try.prog 37 #[s.val p, r.val] w fun e w' => UsRes wb e (goodO s t) ∧ Below w.heap.size w w' := by
  have hku := kindB_unit hk
  have d0 : (0 : Int) ≤ t.unit := by omega
  have d1 : decide ((0 : Int) ≤ t.unit) = true := decide_eq_true d0
  have d2 : t.unit < (s.units.length : Int) := hku.2
  have hui : t.unit.toNat < s.units.length := by omega
  have Hu := Lib.hid hu
  clear hu
  obtain ⟨b, off, e1, hl_c, _, c0, c1, c2, c3, c4⟩ := UnitD.out ((hs.below hbb).h1) t.unit.toNat hui
  obtain ⟨a0, k0, a1, k1, a2, k2, a3, k3, a4, k4, a5, k5⟩ := p
  simp only at e1
  subst e1
  have hua := Lib.hid (unitAt_in hui)
  generalize s.units[t.unit.toNat] = u at *
  have Hs := Lib.hid (hs.below hbb)
  have Hsb := Lib.hid hs
  have Hbb := Lib.hid hbb
  have Ht := Lib.hid ht
  clear hs hbb ht
  go_enter Try.func37, Try.ntmps37
  go_wp2_with fail
  generalize hw0 : World.alloc _ _ = w0
  obtain ⟨X0, X1, X2, hsz, hb0⟩ := blk3 hw0
  replace c0 := cell_kept hb0 c0 hl_c
  replace c1 := cell_kept hb0 c1 hl_c
  replace c2 := cell_kept hb0 c2 hl_c
  replace c3 := cell_kept hb0 c3 hl_c
  replace c4 := cell_kept hb0 c4 hl_c
  have hw_c := hl_c
  replace hl_c := Nat.lt_of_lt_of_le hl_c hb0.size
  have x0 : w0.cell? ⟨w.heap.size, 0, none⟩ = some (.slice a0 s.issuers.length k0) := X0.cell 0
  have x1 : w0.cell? ⟨w.heap.size, 1, none⟩ = some (.slice (some ⟨b, off, none⟩) s.units.length k1) := X0.cell 1
  have x2 : w0.cell? ⟨w.heap.size, 2, none⟩ = some (.slice a2 s.schemas.length k2) := X0.cell 2
  have x3 : w0.cell? ⟨w.heap.size, 3, none⟩ = some (.slice a3 s.rules.length k3) := X0.cell 3
  have x4 : w0.cell? ⟨w.heap.size, 4, none⟩ = some (.slice a4 s.converts k4) := X0.cell 4
  have x5 : w0.cell? ⟨w.heap.size, 5, none⟩ = some (.slice a5 s.purposes.length k5) := X0.cell 5
  have hl_x : w.heap.size < w0.heap.size := by omega
  have y0 : w0.cell? ⟨w.heap.size + 1, 0, none⟩ = some (.string r.name) := X1.cell 0
  have y1 : w0.cell? ⟨w.heap.size + 1, 1, none⟩ = some (.string r.path) := X1.cell 1
  have y2 : w0.cell? ⟨w.heap.size + 1, 2, none⟩ = some (.int .i64 r.schema) := X1.cell 2
  have y3 : w0.cell? ⟨w.heap.size + 1, 3, none⟩ = some (.int .i64 r.field) := X1.cell 3
  have hl_y : w.heap.size + 1 < w0.heap.size := by omega
  have z0 : w0.cell? ⟨w.heap.size + 1 + 1, 0, none⟩ = some (.int .i64 0) := X2.cell 0
  have z1 : w0.cell? ⟨w.heap.size + 1 + 1, 1, none⟩ = some (.int .i64 0) := X2.cell 1
  have z2 : w0.cell? ⟨w.heap.size + 1 + 1, 2, none⟩ = some (.int .i64 0) := X2.cell 2
  have z3 : w0.cell? ⟨w.heap.size + 1 + 1, 3, none⟩ = some (.string ⟨#[]⟩) := X2.cell 3
  have z4 : w0.cell? ⟨w.heap.size + 1 + 1, 4, none⟩ = some (.int .i64 0) := X2.cell 4
  have z5 : w0.cell? ⟨w.heap.size + 1 + 1, 5, none⟩ = some (.slice none 0 0) := X2.cell 5
  have hl_z : w.heap.size + 1 + 1 < w0.heap.size := by omega
  have HBz := Lib.hid X2
  have hwl : w.heap.size ≤ w0.heap.size := hb0.size
  have Hb := Lib.hid hb0
  clear hw0 hb0 hsz X0 X1 X2
  refine (typeOf_at s ⟨a0, k0, some ⟨b, off, none⟩, k1, a2, k2, a3, k3, a4, k4, a5, k5⟩ r.schema r.field t Ht.out wb Hsb.out _ (Hbb.out.trans (Hb.out.mono Hbb.out.size))).mono ?_
  rintro e w1 ⟨⟨an, kn, rfl, hn⟩, hb1⟩
  have Hn := Lib.hid hn
  clear hn
  replace x0 := cell_kept hb1 x0 hl_x
  replace x1 := cell_kept hb1 x1 hl_x
  replace x2 := cell_kept hb1 x2 hl_x
  replace x3 := cell_kept hb1 x3 hl_x
  replace x4 := cell_kept hb1 x4 hl_x
  replace x5 := cell_kept hb1 x5 hl_x
  replace y0 := cell_kept hb1 y0 hl_y
  replace y1 := cell_kept hb1 y1 hl_y
  replace y2 := cell_kept hb1 y2 hl_y
  replace y3 := cell_kept hb1 y3 hl_y
  replace z0 := cell_kept hb1 z0 hl_z
  replace z1 := cell_kept hb1 z1 hl_z
  replace z2 := cell_kept hb1 z2 hl_z
  replace z3 := cell_kept hb1 z3 hl_z
  replace z4 := cell_kept hb1 z4 hl_z
  replace z5 := cell_kept hb1 z5 hl_z
  replace c0 := cell_kept hb1 c0 hl_c
  replace c1 := cell_kept hb1 c1 hl_c
  replace c2 := cell_kept hb1 c2 hl_c
  replace c3 := cell_kept hb1 c3 hl_c
  replace c4 := cell_kept hb1 c4 hl_c
  replace HBz := Lib.hid (HBz.out.below hb1 hl_z)
  replace Hb := Lib.hid (Hb.out.trans (hb1.mono hwl))
  replace hl_x := Nat.lt_of_lt_of_le hl_x hb1.size
  replace hl_y := Nat.lt_of_lt_of_le hl_y hb1.size
  replace hl_z := Nat.lt_of_lt_of_le hl_z hb1.size
  replace hl_c := Nat.lt_of_lt_of_le hl_c hb1.size
  replace hwl := Nat.le_trans hwl hb1.size
  clear hb1
  have z_0 := HBz.out.frozen 0
  have z_1 := HBz.out.frozen 1
  have z_2 := HBz.out.frozen 2
  have z_3 := HBz.out.frozen 3
  have z_4 := HBz.out.frozen 4
  have z_5 := HBz.out.frozen 5
  go_wp2_with fail
  clear z_0 z_1 z_2 z_3 z_4 z_5
  generalize hw0 : World.setCell _ _ _ = w2
  obtain ⟨X0, hoth, hsz, hbel, hblk⟩ := stored (vs := [.int .i64 t.kind, .int .i64 t.lo, .int .i64 t.hi, .string t.of_, .int .i64 t.unit, .slice an t.names.length kn]) HBz.out rfl hw0
  replace x0 := hoth x0 (by omega)
  replace x1 := hoth x1 (by omega)
  replace x2 := hoth x2 (by omega)
  replace x3 := hoth x3 (by omega)
  replace x4 := hoth x4 (by omega)
  replace x5 := hoth x5 (by omega)
  replace y0 := hoth y0 (by omega)
  replace y1 := hoth y1 (by omega)
  replace y2 := hoth y2 (by omega)
  replace y3 := hoth y3 (by omega)
  replace c0 := hoth c0 (by omega)
  replace c1 := hoth c1 (by omega)
  replace c2 := hoth c2 (by omega)
  replace c3 := hoth c3 (by omega)
  replace c4 := hoth c4 (by omega)
  replace z0 : w2.cell? ⟨w.heap.size + 1 + 1, 0, none⟩ = some (.int .i64 t.kind) := X0.cell 0
  replace z1 : w2.cell? ⟨w.heap.size + 1 + 1, 1, none⟩ = some (.int .i64 t.lo) := X0.cell 1
  replace z2 : w2.cell? ⟨w.heap.size + 1 + 1, 2, none⟩ = some (.int .i64 t.hi) := X0.cell 2
  replace z3 : w2.cell? ⟨w.heap.size + 1 + 1, 3, none⟩ = some (.string t.of_) := X0.cell 3
  replace z4 : w2.cell? ⟨w.heap.size + 1 + 1, 4, none⟩ = some (.int .i64 t.unit) := X0.cell 4
  replace z5 : w2.cell? ⟨w.heap.size + 1 + 1, 5, none⟩ = some (.slice an t.names.length kn) := X0.cell 5
  replace HBz := Lib.hid X0
  have hb1 := hbel w.heap.size (by omega)
  replace Hb := Lib.hid (Hb.out.trans hb1)
  replace hl_x : w.heap.size < w2.heap.size := by omega
  replace hl_y : w.heap.size + 1 < w2.heap.size := by omega
  replace hl_z : w.heap.size + 1 + 1 < w2.heap.size := by omega
  replace hl_c : b < w2.heap.size := by omega
  replace hwl : w.heap.size ≤ w2.heap.size := by omega
  clear hw0 hoth hsz hbel hblk X0 hb1
  have Hnw := Lib.hid (Hn.out.below RStr.stab Hbb.out)
  cases hub : unitB s.units u with
  | false =>
    refine wp_region_grown (by kernel_rfl) (by kernel_rfl) ?_
    repeat (go_big_quiet_step (first | (go_at_call 41; exact calls_grown (typeOK_eq s ⟨a0, k0, some ⟨b, off, none⟩, k1, a2, k2, a3, k3, a4, k4, a5, k5⟩ t an kn _ (Hnw.out.below RStr.stab (Hb.out.trans ((grown_below _ _).mono hwl))) hl true hk)) | (go_at_call 27; exact calls_grown (unitOK_eq s ⟨a0, k0, some ⟨b, off, none⟩, k1, a2, k2, a3, k3, a4, k4, a5, k5⟩ u _ (Hs.out.below (Hb.out.trans ((grown_below _ _).mono hwl))) false hub))))
    refine wpQuiet_nil ?_
    intro w3 hw0
    have hb1 : Below w2.heap.size w2 w3 := by obtain ⟨n, rfl⟩ := hw0; exact grown_below _ n
    clear hw0
    replace x0 := cell_kept hb1 x0 hl_x
    replace x1 := cell_kept hb1 x1 hl_x
    replace x2 := cell_kept hb1 x2 hl_x
    replace x3 := cell_kept hb1 x3 hl_x
    replace x4 := cell_kept hb1 x4 hl_x
    replace x5 := cell_kept hb1 x5 hl_x
    replace y0 := cell_kept hb1 y0 hl_y
    replace y1 := cell_kept hb1 y1 hl_y
    replace y2 := cell_kept hb1 y2 hl_y
    replace y3 := cell_kept hb1 y3 hl_y
    replace z0 := cell_kept hb1 z0 hl_z
    replace z1 := cell_kept hb1 z1 hl_z
    replace z2 := cell_kept hb1 z2 hl_z
    replace z3 := cell_kept hb1 z3 hl_z
    replace z4 := cell_kept hb1 z4 hl_z
    replace z5 := cell_kept hb1 z5 hl_z
    replace c0 := cell_kept hb1 c0 hl_c
    replace c1 := cell_kept hb1 c1 hl_c
    replace c2 := cell_kept hb1 c2 hl_c
    replace c3 := cell_kept hb1 c3 hl_c
    replace c4 := cell_kept hb1 c4 hl_c
    replace HBz := Lib.hid (HBz.out.below hb1 hl_z)
    replace Hb := Lib.hid (Hb.out.trans (hb1.mono hwl))
    replace hl_x := Nat.lt_of_lt_of_le hl_x hb1.size
    replace hl_y := Nat.lt_of_lt_of_le hl_y hb1.size
    replace hl_z := Nat.lt_of_lt_of_le hl_z hb1.size
    replace hl_c := Nat.lt_of_lt_of_le hl_c hb1.size
    replace hwl := Nat.le_trans hwl hb1.size
    clear hb1
    have z_0 := HBz.out.frozen 0
    have z_1 := HBz.out.frozen 1
    have z_2 := HBz.out.frozen 2
    have z_3 := HBz.out.frozen 3
    have z_4 := HBz.out.frozen 4
    have z_5 := HBz.out.frozen 5
    go_wp2_with fail
    clear z_0 z_1 z_2 z_3 z_4 z_5
    generalize hw0 : World.setCell _ _ _ = w5
    obtain ⟨X0, hoth, hsz, hbel, hblk⟩ := stored (vs := [.int .i64 t.kind, .int .i64 t.lo, .int .i64 t.hi, .string t.of_, .int .i64 t.unit, .slice an t.names.length kn]) HBz.out rfl hw0
    replace x0 := hoth x0 (by omega)
    replace x1 := hoth x1 (by omega)
    replace x2 := hoth x2 (by omega)
    replace x3 := hoth x3 (by omega)
    replace x4 := hoth x4 (by omega)
    replace x5 := hoth x5 (by omega)
    replace y0 := hoth y0 (by omega)
    replace y1 := hoth y1 (by omega)
    replace y2 := hoth y2 (by omega)
    replace y3 := hoth y3 (by omega)
    replace z0 : w5.cell? ⟨w.heap.size + 1 + 1, 0, none⟩ = some (.int .i64 t.kind) := X0.cell 0
    replace z1 : w5.cell? ⟨w.heap.size + 1 + 1, 1, none⟩ = some (.int .i64 t.lo) := X0.cell 1
    replace z2 : w5.cell? ⟨w.heap.size + 1 + 1, 2, none⟩ = some (.int .i64 t.hi) := X0.cell 2
    replace z3 : w5.cell? ⟨w.heap.size + 1 + 1, 3, none⟩ = some (.string t.of_) := X0.cell 3
    replace z4 : w5.cell? ⟨w.heap.size + 1 + 1, 4, none⟩ = some (.int .i64 t.unit) := X0.cell 4
    replace z5 : w5.cell? ⟨w.heap.size + 1 + 1, 5, none⟩ = some (.slice an t.names.length kn) := X0.cell 5
    replace HBz := Lib.hid X0
    have hb1 := hbel w.heap.size (by omega)
    replace Hb := Lib.hid (Hb.out.trans hb1)
    replace hl_x : w.heap.size < w5.heap.size := by omega
    replace hl_y : w.heap.size + 1 < w5.heap.size := by omega
    replace hl_z : w.heap.size + 1 + 1 < w5.heap.size := by omega
    replace hwl : w.heap.size ≤ w5.heap.size := by omega
    clear hw0 hoth hsz hbel hblk X0 hb1
    refine bodyPost_ret (v := .tuple #[t.val an kn, .bool false]) (by simp [results, Try.f37, go_sem, *]) rfl ⟨?_, Hb.out⟩
    unfold goodO; rw [if_neg (by simp [goodT, hk, Hu.out, hua.out, hub])]
    exact ⟨t, an, kn, rfl⟩
  | true =>
    refine wp_region_grown (by kernel_rfl) (by kernel_rfl) ?_
    repeat (go_big_quiet_step (first | (go_at_call 41; exact calls_grown (typeOK_eq s ⟨a0, k0, some ⟨b, off, none⟩, k1, a2, k2, a3, k3, a4, k4, a5, k5⟩ t an kn _ (Hnw.out.below RStr.stab (Hb.out.trans ((grown_below _ _).mono hwl))) hl true hk)) | (go_at_call 27; exact calls_grown (unitOK_eq s ⟨a0, k0, some ⟨b, off, none⟩, k1, a2, k2, a3, k3, a4, k4, a5, k5⟩ u _ (Hs.out.below (Hb.out.trans ((grown_below _ _).mono hwl))) true hub))))
    refine wpQuiet_nil ?_
    intro w3 hw0
    have hb1 : Below w2.heap.size w2 w3 := by obtain ⟨n, rfl⟩ := hw0; exact grown_below _ n
    clear hw0
    replace x0 := cell_kept hb1 x0 hl_x
    replace x1 := cell_kept hb1 x1 hl_x
    replace x2 := cell_kept hb1 x2 hl_x
    replace x3 := cell_kept hb1 x3 hl_x
    replace x4 := cell_kept hb1 x4 hl_x
    replace x5 := cell_kept hb1 x5 hl_x
    replace y0 := cell_kept hb1 y0 hl_y
    replace y1 := cell_kept hb1 y1 hl_y
    replace y2 := cell_kept hb1 y2 hl_y
    replace y3 := cell_kept hb1 y3 hl_y
    replace z0 := cell_kept hb1 z0 hl_z
    replace z1 := cell_kept hb1 z1 hl_z
    replace z2 := cell_kept hb1 z2 hl_z
    replace z3 := cell_kept hb1 z3 hl_z
    replace z4 := cell_kept hb1 z4 hl_z
    replace z5 := cell_kept hb1 z5 hl_z
    replace c0 := cell_kept hb1 c0 hl_c
    replace c1 := cell_kept hb1 c1 hl_c
    replace c2 := cell_kept hb1 c2 hl_c
    replace c3 := cell_kept hb1 c3 hl_c
    replace c4 := cell_kept hb1 c4 hl_c
    replace HBz := Lib.hid (HBz.out.below hb1 hl_z)
    replace Hb := Lib.hid (Hb.out.trans (hb1.mono hwl))
    replace hl_x := Nat.lt_of_lt_of_le hl_x hb1.size
    replace hl_y := Nat.lt_of_lt_of_le hl_y hb1.size
    replace hl_z := Nat.lt_of_lt_of_le hl_z hb1.size
    replace hl_c := Nat.lt_of_lt_of_le hl_c hb1.size
    replace hwl := Nat.le_trans hwl hb1.size
    clear hb1
    have z_0 := HBz.out.frozen 0
    have z_1 := HBz.out.frozen 1
    have z_2 := HBz.out.frozen 2
    have z_3 := HBz.out.frozen 3
    have z_4 := HBz.out.frozen 4
    have z_5 := HBz.out.frozen 5
    go_wp2_with fail
    clear z_0 z_1 z_2 z_3 z_4 z_5
    generalize hw0 : World.setCell _ _ _ = w5
    obtain ⟨X0, hoth, hsz, hbel, hblk⟩ := stored (vs := [.int .i64 t.kind, .int .i64 t.lo, .int .i64 t.hi, .string t.of_, .int .i64 t.unit, .slice an t.names.length kn]) HBz.out rfl hw0
    replace x0 := hoth x0 (by omega)
    replace x1 := hoth x1 (by omega)
    replace x2 := hoth x2 (by omega)
    replace x3 := hoth x3 (by omega)
    replace x4 := hoth x4 (by omega)
    replace x5 := hoth x5 (by omega)
    replace y0 := hoth y0 (by omega)
    replace y1 := hoth y1 (by omega)
    replace y2 := hoth y2 (by omega)
    replace y3 := hoth y3 (by omega)
    replace z0 : w5.cell? ⟨w.heap.size + 1 + 1, 0, none⟩ = some (.int .i64 t.kind) := X0.cell 0
    replace z1 : w5.cell? ⟨w.heap.size + 1 + 1, 1, none⟩ = some (.int .i64 t.lo) := X0.cell 1
    replace z2 : w5.cell? ⟨w.heap.size + 1 + 1, 2, none⟩ = some (.int .i64 t.hi) := X0.cell 2
    replace z3 : w5.cell? ⟨w.heap.size + 1 + 1, 3, none⟩ = some (.string t.of_) := X0.cell 3
    replace z4 : w5.cell? ⟨w.heap.size + 1 + 1, 4, none⟩ = some (.int .i64 t.unit) := X0.cell 4
    replace z5 : w5.cell? ⟨w.heap.size + 1 + 1, 5, none⟩ = some (.slice an t.names.length kn) := X0.cell 5
    replace HBz := Lib.hid X0
    have hb1 := hbel w.heap.size (by omega)
    replace Hb := Lib.hid (Hb.out.trans hb1)
    replace hl_x : w.heap.size < w5.heap.size := by omega
    replace hl_y : w.heap.size + 1 < w5.heap.size := by omega
    replace hl_z : w.heap.size + 1 + 1 < w5.heap.size := by omega
    replace hwl : w.heap.size ≤ w5.heap.size := by omega
    clear hw0 hoth hsz hbel hblk X0 hb1
    refine bodyPost_ret (v := .tuple #[t.val an kn, .bool true]) (by simp [results, Try.f37, go_sem, *]) rfl ⟨?_, Hb.out⟩
    unfold goodO; rw [if_pos (by simp [goodT, hk, Hu.out, hua.out, hub])]
    exact ⟨an, kn, rfl, Hn.out⟩
set_option maxRecDepth 20000 in
set_option maxHeartbeats 4000000 in
theorem usable_in (s : SourceD) (p : SrcAt) (r : RefD) (wb : World) (hs : Src wb s p) (w : World) (hbb : Below wb.heap.size wb w) (t : TyD) (ht : typeOf? s r.schema r.field = some t) (hl : t.names.length ≤ 100000) :
    Calls Try.prog 37 #[s.val p, r.val] w fun e w' => UsRes wb e (goodO s t) ∧ Below w.heap.size w w' := by
  by_cases hcase : kindB t s.units.length = true ∧ ¬ t.unit = -1
  case pos => exact usable_unit s p r wb hs w hbb t ht hl hcase.1 hcase.2
  have Hcase := Lib.hid hcase
  clear hcase
  have Hs := Lib.hid (hs.below hbb)
  have Hsb := Lib.hid hs
  have Hbb := Lib.hid hbb
  have Ht := Lib.hid ht
  clear hs hbb ht
  go_enter Try.func37, Try.ntmps37
  go_wp2_with fail
  generalize hw0 : World.alloc _ _ = w0
  obtain ⟨X0, X1, X2, hsz, hb0⟩ := blk3 hw0
  have x0 : w0.cell? ⟨w.heap.size, 0, none⟩ = some (.slice p.a0 s.issuers.length p.k0) := X0.cell 0
  have x1 : w0.cell? ⟨w.heap.size, 1, none⟩ = some (.slice p.a1 s.units.length p.k1) := X0.cell 1
  have x2 : w0.cell? ⟨w.heap.size, 2, none⟩ = some (.slice p.a2 s.schemas.length p.k2) := X0.cell 2
  have x3 : w0.cell? ⟨w.heap.size, 3, none⟩ = some (.slice p.a3 s.rules.length p.k3) := X0.cell 3
  have x4 : w0.cell? ⟨w.heap.size, 4, none⟩ = some (.slice p.a4 s.converts p.k4) := X0.cell 4
  have x5 : w0.cell? ⟨w.heap.size, 5, none⟩ = some (.slice p.a5 s.purposes.length p.k5) := X0.cell 5
  have hl_x : w.heap.size < w0.heap.size := by omega
  have y0 : w0.cell? ⟨w.heap.size + 1, 0, none⟩ = some (.string r.name) := X1.cell 0
  have y1 : w0.cell? ⟨w.heap.size + 1, 1, none⟩ = some (.string r.path) := X1.cell 1
  have y2 : w0.cell? ⟨w.heap.size + 1, 2, none⟩ = some (.int .i64 r.schema) := X1.cell 2
  have y3 : w0.cell? ⟨w.heap.size + 1, 3, none⟩ = some (.int .i64 r.field) := X1.cell 3
  have hl_y : w.heap.size + 1 < w0.heap.size := by omega
  have z0 : w0.cell? ⟨w.heap.size + 1 + 1, 0, none⟩ = some (.int .i64 0) := X2.cell 0
  have z1 : w0.cell? ⟨w.heap.size + 1 + 1, 1, none⟩ = some (.int .i64 0) := X2.cell 1
  have z2 : w0.cell? ⟨w.heap.size + 1 + 1, 2, none⟩ = some (.int .i64 0) := X2.cell 2
  have z3 : w0.cell? ⟨w.heap.size + 1 + 1, 3, none⟩ = some (.string ⟨#[]⟩) := X2.cell 3
  have z4 : w0.cell? ⟨w.heap.size + 1 + 1, 4, none⟩ = some (.int .i64 0) := X2.cell 4
  have z5 : w0.cell? ⟨w.heap.size + 1 + 1, 5, none⟩ = some (.slice none 0 0) := X2.cell 5
  have hl_z : w.heap.size + 1 + 1 < w0.heap.size := by omega
  have HBz := Lib.hid X2
  have hwl : w.heap.size ≤ w0.heap.size := hb0.size
  have Hb := Lib.hid hb0
  clear hw0 hb0 hsz X0 X1 X2
  refine (typeOf_at s p r.schema r.field t Ht.out wb Hsb.out _ (Hbb.out.trans (Hb.out.mono Hbb.out.size))).mono ?_
  rintro e w1 ⟨⟨an, kn, rfl, hn⟩, hb1⟩
  have Hn := Lib.hid hn
  clear hn
  replace x0 := cell_kept hb1 x0 hl_x
  replace x1 := cell_kept hb1 x1 hl_x
  replace x2 := cell_kept hb1 x2 hl_x
  replace x3 := cell_kept hb1 x3 hl_x
  replace x4 := cell_kept hb1 x4 hl_x
  replace x5 := cell_kept hb1 x5 hl_x
  replace y0 := cell_kept hb1 y0 hl_y
  replace y1 := cell_kept hb1 y1 hl_y
  replace y2 := cell_kept hb1 y2 hl_y
  replace y3 := cell_kept hb1 y3 hl_y
  replace z0 := cell_kept hb1 z0 hl_z
  replace z1 := cell_kept hb1 z1 hl_z
  replace z2 := cell_kept hb1 z2 hl_z
  replace z3 := cell_kept hb1 z3 hl_z
  replace z4 := cell_kept hb1 z4 hl_z
  replace z5 := cell_kept hb1 z5 hl_z
  replace HBz := Lib.hid (HBz.out.below hb1 hl_z)
  replace Hb := Lib.hid (Hb.out.trans (hb1.mono hwl))
  replace hl_x := Nat.lt_of_lt_of_le hl_x hb1.size
  replace hl_y := Nat.lt_of_lt_of_le hl_y hb1.size
  replace hl_z := Nat.lt_of_lt_of_le hl_z hb1.size
  replace hwl := Nat.le_trans hwl hb1.size
  clear hb1
  have z_0 := HBz.out.frozen 0
  have z_1 := HBz.out.frozen 1
  have z_2 := HBz.out.frozen 2
  have z_3 := HBz.out.frozen 3
  have z_4 := HBz.out.frozen 4
  have z_5 := HBz.out.frozen 5
  go_wp2_with fail
  clear z_0 z_1 z_2 z_3 z_4 z_5
  generalize hw0 : World.setCell _ _ _ = w2
  obtain ⟨X0, hoth, hsz, hbel, hblk⟩ := stored (vs := [.int .i64 t.kind, .int .i64 t.lo, .int .i64 t.hi, .string t.of_, .int .i64 t.unit, .slice an t.names.length kn]) HBz.out rfl hw0
  replace x0 := hoth x0 (by omega)
  replace x1 := hoth x1 (by omega)
  replace x2 := hoth x2 (by omega)
  replace x3 := hoth x3 (by omega)
  replace x4 := hoth x4 (by omega)
  replace x5 := hoth x5 (by omega)
  replace y0 := hoth y0 (by omega)
  replace y1 := hoth y1 (by omega)
  replace y2 := hoth y2 (by omega)
  replace y3 := hoth y3 (by omega)
  replace z0 : w2.cell? ⟨w.heap.size + 1 + 1, 0, none⟩ = some (.int .i64 t.kind) := X0.cell 0
  replace z1 : w2.cell? ⟨w.heap.size + 1 + 1, 1, none⟩ = some (.int .i64 t.lo) := X0.cell 1
  replace z2 : w2.cell? ⟨w.heap.size + 1 + 1, 2, none⟩ = some (.int .i64 t.hi) := X0.cell 2
  replace z3 : w2.cell? ⟨w.heap.size + 1 + 1, 3, none⟩ = some (.string t.of_) := X0.cell 3
  replace z4 : w2.cell? ⟨w.heap.size + 1 + 1, 4, none⟩ = some (.int .i64 t.unit) := X0.cell 4
  replace z5 : w2.cell? ⟨w.heap.size + 1 + 1, 5, none⟩ = some (.slice an t.names.length kn) := X0.cell 5
  replace HBz := Lib.hid X0
  have hb1 := hbel w.heap.size (by omega)
  replace Hb := Lib.hid (Hb.out.trans hb1)
  replace hl_x : w.heap.size < w2.heap.size := by omega
  replace hl_y : w.heap.size + 1 < w2.heap.size := by omega
  replace hl_z : w.heap.size + 1 + 1 < w2.heap.size := by omega
  replace hwl : w.heap.size ≤ w2.heap.size := by omega
  clear hw0 hoth hsz hbel hblk X0 hb1
  have Hnw := Lib.hid (Hn.out.below RStr.stab Hbb.out)
  cases hk : kindB t s.units.length with
  | false =>
    refine wp_region_grown (by kernel_rfl) (by kernel_rfl) ?_
    repeat (go_big_quiet_step (first | (go_at_call 41; exact calls_grown (typeOK_eq s p t an kn _ (Hnw.out.below RStr.stab (Hb.out.trans ((grown_below _ _).mono hwl))) hl false hk))))
    refine wpQuiet_nil ?_
    intro w3 hw0
    have hb1 : Below w2.heap.size w2 w3 := by obtain ⟨n, rfl⟩ := hw0; exact grown_below _ n
    clear hw0
    replace x0 := cell_kept hb1 x0 hl_x
    replace x1 := cell_kept hb1 x1 hl_x
    replace x2 := cell_kept hb1 x2 hl_x
    replace x3 := cell_kept hb1 x3 hl_x
    replace x4 := cell_kept hb1 x4 hl_x
    replace x5 := cell_kept hb1 x5 hl_x
    replace y0 := cell_kept hb1 y0 hl_y
    replace y1 := cell_kept hb1 y1 hl_y
    replace y2 := cell_kept hb1 y2 hl_y
    replace y3 := cell_kept hb1 y3 hl_y
    replace z0 := cell_kept hb1 z0 hl_z
    replace z1 := cell_kept hb1 z1 hl_z
    replace z2 := cell_kept hb1 z2 hl_z
    replace z3 := cell_kept hb1 z3 hl_z
    replace z4 := cell_kept hb1 z4 hl_z
    replace z5 := cell_kept hb1 z5 hl_z
    replace HBz := Lib.hid (HBz.out.below hb1 hl_z)
    replace Hb := Lib.hid (Hb.out.trans (hb1.mono hwl))
    replace hl_x := Nat.lt_of_lt_of_le hl_x hb1.size
    replace hl_y := Nat.lt_of_lt_of_le hl_y hb1.size
    replace hl_z := Nat.lt_of_lt_of_le hl_z hb1.size
    replace hwl := Nat.le_trans hwl hb1.size
    clear hb1
    have z_0 := HBz.out.frozen 0
    have z_1 := HBz.out.frozen 1
    have z_2 := HBz.out.frozen 2
    have z_3 := HBz.out.frozen 3
    have z_4 := HBz.out.frozen 4
    have z_5 := HBz.out.frozen 5
    go_wp2_with fail
    clear z_0 z_1 z_2 z_3 z_4 z_5
    generalize hw0 : World.setCell _ _ _ = w4
    obtain ⟨X0, hoth, hsz, hbel, hblk⟩ := stored (vs := [.int .i64 t.kind, .int .i64 t.lo, .int .i64 t.hi, .string t.of_, .int .i64 t.unit, .slice an t.names.length kn]) HBz.out rfl hw0
    replace x0 := hoth x0 (by omega)
    replace x1 := hoth x1 (by omega)
    replace x2 := hoth x2 (by omega)
    replace x3 := hoth x3 (by omega)
    replace x4 := hoth x4 (by omega)
    replace x5 := hoth x5 (by omega)
    replace y0 := hoth y0 (by omega)
    replace y1 := hoth y1 (by omega)
    replace y2 := hoth y2 (by omega)
    replace y3 := hoth y3 (by omega)
    replace z0 : w4.cell? ⟨w.heap.size + 1 + 1, 0, none⟩ = some (.int .i64 t.kind) := X0.cell 0
    replace z1 : w4.cell? ⟨w.heap.size + 1 + 1, 1, none⟩ = some (.int .i64 t.lo) := X0.cell 1
    replace z2 : w4.cell? ⟨w.heap.size + 1 + 1, 2, none⟩ = some (.int .i64 t.hi) := X0.cell 2
    replace z3 : w4.cell? ⟨w.heap.size + 1 + 1, 3, none⟩ = some (.string t.of_) := X0.cell 3
    replace z4 : w4.cell? ⟨w.heap.size + 1 + 1, 4, none⟩ = some (.int .i64 t.unit) := X0.cell 4
    replace z5 : w4.cell? ⟨w.heap.size + 1 + 1, 5, none⟩ = some (.slice an t.names.length kn) := X0.cell 5
    replace HBz := Lib.hid X0
    have hb1 := hbel w.heap.size (by omega)
    replace Hb := Lib.hid (Hb.out.trans hb1)
    replace hl_x : w.heap.size < w4.heap.size := by omega
    replace hl_y : w.heap.size + 1 < w4.heap.size := by omega
    replace hl_z : w.heap.size + 1 + 1 < w4.heap.size := by omega
    replace hwl : w.heap.size ≤ w4.heap.size := by omega
    clear hw0 hoth hsz hbel hblk X0 hb1
    refine bodyPost_ret (v := .tuple #[t.val an kn, .bool false]) (by simp [results, Try.f37, go_sem, *]) rfl ⟨?_, Hb.out⟩
    unfold goodO; rw [if_neg (by simp [goodT, hk])]
    exact ⟨t, an, kn, rfl⟩
  | true =>
    have hku := kindB_unit hk
    by_cases hu : t.unit = -1
    · have d1 : decide ((0 : Int) ≤ t.unit) = false := by rw [hu]; rfl
      have Hu := Lib.hid hu
      clear hu
      refine wp_region_grown (by kernel_rfl) (by kernel_rfl) ?_
      repeat (go_big_quiet_step (first | (go_at_call 41; exact calls_grown (typeOK_eq s p t an kn _ (Hnw.out.below RStr.stab (Hb.out.trans ((grown_below _ _).mono hwl))) hl true hk))))
      refine wpQuiet_nil ?_
      intro w3 hw0
      have hb1 : Below w2.heap.size w2 w3 := by obtain ⟨n, rfl⟩ := hw0; exact grown_below _ n
      clear hw0
      replace x0 := cell_kept hb1 x0 hl_x
      replace x1 := cell_kept hb1 x1 hl_x
      replace x2 := cell_kept hb1 x2 hl_x
      replace x3 := cell_kept hb1 x3 hl_x
      replace x4 := cell_kept hb1 x4 hl_x
      replace x5 := cell_kept hb1 x5 hl_x
      replace y0 := cell_kept hb1 y0 hl_y
      replace y1 := cell_kept hb1 y1 hl_y
      replace y2 := cell_kept hb1 y2 hl_y
      replace y3 := cell_kept hb1 y3 hl_y
      replace z0 := cell_kept hb1 z0 hl_z
      replace z1 := cell_kept hb1 z1 hl_z
      replace z2 := cell_kept hb1 z2 hl_z
      replace z3 := cell_kept hb1 z3 hl_z
      replace z4 := cell_kept hb1 z4 hl_z
      replace z5 := cell_kept hb1 z5 hl_z
      replace HBz := Lib.hid (HBz.out.below hb1 hl_z)
      replace Hb := Lib.hid (Hb.out.trans (hb1.mono hwl))
      replace hl_x := Nat.lt_of_lt_of_le hl_x hb1.size
      replace hl_y := Nat.lt_of_lt_of_le hl_y hb1.size
      replace hl_z := Nat.lt_of_lt_of_le hl_z hb1.size
      replace hwl := Nat.le_trans hwl hb1.size
      clear hb1
      have z_0 := HBz.out.frozen 0
      have z_1 := HBz.out.frozen 1
      have z_2 := HBz.out.frozen 2
      have z_3 := HBz.out.frozen 3
      have z_4 := HBz.out.frozen 4
      have z_5 := HBz.out.frozen 5
      go_wp2_with fail
      clear z_0 z_1 z_2 z_3 z_4 z_5
      generalize hw0 : World.setCell _ _ _ = w4
      obtain ⟨X0, hoth, hsz, hbel, hblk⟩ := stored (vs := [.int .i64 t.kind, .int .i64 t.lo, .int .i64 t.hi, .string t.of_, .int .i64 t.unit, .slice an t.names.length kn]) HBz.out rfl hw0
      replace x0 := hoth x0 (by omega)
      replace x1 := hoth x1 (by omega)
      replace x2 := hoth x2 (by omega)
      replace x3 := hoth x3 (by omega)
      replace x4 := hoth x4 (by omega)
      replace x5 := hoth x5 (by omega)
      replace y0 := hoth y0 (by omega)
      replace y1 := hoth y1 (by omega)
      replace y2 := hoth y2 (by omega)
      replace y3 := hoth y3 (by omega)
      replace z0 : w4.cell? ⟨w.heap.size + 1 + 1, 0, none⟩ = some (.int .i64 t.kind) := X0.cell 0
      replace z1 : w4.cell? ⟨w.heap.size + 1 + 1, 1, none⟩ = some (.int .i64 t.lo) := X0.cell 1
      replace z2 : w4.cell? ⟨w.heap.size + 1 + 1, 2, none⟩ = some (.int .i64 t.hi) := X0.cell 2
      replace z3 : w4.cell? ⟨w.heap.size + 1 + 1, 3, none⟩ = some (.string t.of_) := X0.cell 3
      replace z4 : w4.cell? ⟨w.heap.size + 1 + 1, 4, none⟩ = some (.int .i64 t.unit) := X0.cell 4
      replace z5 : w4.cell? ⟨w.heap.size + 1 + 1, 5, none⟩ = some (.slice an t.names.length kn) := X0.cell 5
      replace HBz := Lib.hid X0
      have hb1 := hbel w.heap.size (by omega)
      replace Hb := Lib.hid (Hb.out.trans hb1)
      replace hl_x : w.heap.size < w4.heap.size := by omega
      replace hl_y : w.heap.size + 1 < w4.heap.size := by omega
      replace hl_z : w.heap.size + 1 + 1 < w4.heap.size := by omega
      replace hwl : w.heap.size ≤ w4.heap.size := by omega
      clear hw0 hoth hsz hbel hblk X0 hb1
      refine bodyPost_ret (v := .tuple #[t.val an kn, .bool true]) (by simp [results, Try.f37, go_sem, *]) rfl ⟨?_, Hb.out⟩
      unfold goodO; rw [if_pos (by simp [goodT, hk, Hu.out])]
      exact ⟨an, kn, rfl, Hn.out⟩
    · exact absurd ⟨hk, hu⟩ Hcase.out
theorem usable_any (s : SourceD) (p : SrcAt) (r : RefD) (wb : World) (hs : Src wb s p) (w : World) (hbb : Below wb.heap.size wb w) (hsh : Short s) :
    Calls Try.prog 37 #[s.val p, r.val] w fun e w' => UsRes wb e (usable? s r) ∧ Below w.heap.size w w' := by
  unfold usable?
  cases ht : typeOf? s r.schema r.field with
  | none => exact usable_no s p r wb hs w hbb ht
  | some t => exact usable_in s p r wb hs w hbb t ht (hsh _ _ _ ht)
end Go.Proofs.Ytogenjbabgibbaa
