import Derived.Test.YtogenjbabgibbaaKK
import Derived.Test.YtogenjbabgibbaaTail
namespace Go.Proofs.Ytogenjbabgibbaa
open Go.RowKit
structure RuleAt where
  a2 : Option Addr
  k2 : Nat
  a3 : Option Addr
  k3 : Nat
  a4 : Option Addr
  k4 : Nat
abbrev RuleD.val (r : RuleD) (q : RuleAt) : Value := .agg #[.string r.head, .int .i64 r.schema, .slice q.a2 r.froms.length q.k2, .slice q.a3 r.where_.length q.k3, .slice q.a4 r.sets.length q.k4]
abbrev rcVal (s : SourceD) (p : SrcAt) (r : RuleD) (q : RuleAt) : Value := .agg #[.slice p.a0 s.issuers.length p.k0, .slice p.a1 s.units.length p.k1, .slice p.a2 s.schemas.length p.k2, .slice p.a3 s.rules.length p.k3, .slice p.a4 s.converts p.k4, .slice p.a5 s.purposes.length p.k5, .string r.head, .int .i64 r.schema, .slice q.a2 r.froms.length q.k2, .slice q.a3 r.where_.length q.k3, .slice q.a4 r.sets.length q.k4]
abbrev TermD.val' (t : TermD) : Value := .agg #[.string t.name, .string t.path, .int .i64 t.var, .int .i64 t.field, .int .i64 t.n]
structure Rul (w : World) (r : RuleD) (q : RuleAt) : Prop where
  h2 : Sl 8 RFromD w q.a2 r.froms
  h3 : Sl 11 RAtomD w q.a3 r.where_
  h4 : Sl 7 RSetD w q.a4 r.sets
theorem Rul.below {w w' : World} {r : RuleD} {q : RuleAt} (h : Rul w r q) (hb : Below w.heap.size w w') : Rul w' r q :=
  ⟨h.h2.below RFromD.stab hb, h.h3.below RAtomD.stab hb, h.h4.below RSetD.stab hb⟩
/-- the type of a term that is a field of one of the first n variables -/
def termTy? (s : SourceD) (fs : List FromD) (t : TermD) (n : Int) : Option TyD := if 0 ≤ t.var ∧ t.var < n then (match fs[t.var.toNat]? with | some f => typeOf? s f.schema t.field | none => none) else none
set_option maxRecDepth 20000 in
set_option maxHeartbeats 2000000 in
theorem termType_out (s : SourceD) (p : SrcAt) (r : RuleD) (q : RuleAt) (t : TermD) (n : Int) (w : World) (h : ¬ (0 ≤ t.var ∧ t.var < n)) :
    Calls Try.prog 72 #[rcVal s p r q, t.val', .int .i64 n] w fun e w' => (∃ (y : TyD) (an : Option Addr) (kn : Nat), e = .returned (.tuple #[y.val an kn, .bool false])) ∧ Below w.heap.size w w' := by
  have H := Lib.hid h
  clear h
  go_enter Try.func72, Try.ntmps72
  go_wp2_with fail
  all_goals (try (exfalso; have := H.out; omega))
  all_goals go_wp2
  all_goals (refine bodyPost_ret (v := .tuple #[tyZero.val none 0, .bool false]) (by simp [results, Try.f72, go_sem, tyZero]) rfl ⟨⟨tyZero, none, 0, rfl⟩, ?_⟩)
  all_goals (repeat (first | exact Below.refl _ _ | refine Below.alloc ?_ (by first | (simp; done) | (simp; omega)) _ | refine Below.setCell ?_ (by first | (simp; done) | (simp; omega)) _ | refine below_drewN ?_ _))
set_option maxRecDepth 20000 in
set_option maxHeartbeats 2000000 in
theorem termType_in (s : SourceD) (p : SrcAt) (r : RuleD) (q : RuleAt) (t : TermD) (n : Int) (wb : World) (hs : Src wb s p) (hr : Rul wb r q) (w : World) (hbb : Below wb.heap.size wb w)
    (h0 : 0 ≤ t.var) (h1 : t.var < n) (h2 : n ≤ r.froms.length) (f : FromD) (hf : r.froms[t.var.toNat]? = some f) :
    Calls Try.prog 72 #[rcVal s p r q, t.val', .int .i64 n] w fun e w' => UsRes wb e (typeOf? s f.schema t.field) ∧ Below w.heap.size w w' := by
  have hlt : t.var.toNat < r.froms.length := by omega
  have h3 : t.var < (r.froms.length : Int) := by omega
  obtain ⟨b, off, e1, hl_c, _, c0, c1, c2, c3, c4, c5, c6, c7⟩ := FromD.out ((hr.below hbb).h2) t.var.toNat hlt
  rw [List.getElem?_eq_getElem hlt, Option.some.injEq] at hf
  rw [hf] at c0 c1 c2 c3 c4 c5 c6 c7
  obtain ⟨f2, l2, f3, l3, f4, l4⟩ := q
  simp only at e1
  subst e1
  have Hbb := Lib.hid hbb
  have Hsb := Lib.hid hs
  clear hs hr hbb hf
  cases hty : typeOf? s f.schema t.field with
  | none =>
    have hno := fun w' h' => typeOf_no s p f.schema t.field hty w' h'
    have Hno := Lib.hid hno
    clear hno hty
    go_enter Try.func72, Try.ntmps72
    go_wp2_with fail
    generalize hw0 : World.alloc _ _ = w0
    obtain ⟨X0, X1, X2, hsz, hb0⟩ := blk3 hw0
    replace c0 := cell_kept hb0 c0 hl_c
    replace c1 := cell_kept hb0 c1 hl_c
    replace c2 := cell_kept hb0 c2 hl_c
    replace c3 := cell_kept hb0 c3 hl_c
    replace c4 := cell_kept hb0 c4 hl_c
    replace c5 := cell_kept hb0 c5 hl_c
    replace c6 := cell_kept hb0 c6 hl_c
    replace c7 := cell_kept hb0 c7 hl_c
    have hw_c := hl_c
    replace hl_c := Nat.lt_of_lt_of_le hl_c hb0.size
    have x0 : w0.cell? ⟨w.heap.size, 0, none⟩ = some (.slice p.a0 s.issuers.length p.k0) := X0.cell 0
    have x1 : w0.cell? ⟨w.heap.size, 1, none⟩ = some (.slice p.a1 s.units.length p.k1) := X0.cell 1
    have x2 : w0.cell? ⟨w.heap.size, 2, none⟩ = some (.slice p.a2 s.schemas.length p.k2) := X0.cell 2
    have x3 : w0.cell? ⟨w.heap.size, 3, none⟩ = some (.slice p.a3 s.rules.length p.k3) := X0.cell 3
    have x4 : w0.cell? ⟨w.heap.size, 4, none⟩ = some (.slice p.a4 s.converts p.k4) := X0.cell 4
    have x5 : w0.cell? ⟨w.heap.size, 5, none⟩ = some (.slice p.a5 s.purposes.length p.k5) := X0.cell 5
    have x6 : w0.cell? ⟨w.heap.size, 6, none⟩ = some (.string r.head) := X0.cell 6
    have x7 : w0.cell? ⟨w.heap.size, 7, none⟩ = some (.int .i64 r.schema) := X0.cell 7
    have x8 : w0.cell? ⟨w.heap.size, 8, none⟩ = some (.slice (some ⟨b, off, none⟩) r.froms.length l2) := X0.cell 8
    have x9 : w0.cell? ⟨w.heap.size, 9, none⟩ = some (.slice f3 r.where_.length l3) := X0.cell 9
    have x10 : w0.cell? ⟨w.heap.size, 10, none⟩ = some (.slice f4 r.sets.length l4) := X0.cell 10
    have hl_x : w.heap.size < w0.heap.size := by omega
    have y0 : w0.cell? ⟨w.heap.size + 1, 0, none⟩ = some (.string t.name) := X1.cell 0
    have y1 : w0.cell? ⟨w.heap.size + 1, 1, none⟩ = some (.string t.path) := X1.cell 1
    have y2 : w0.cell? ⟨w.heap.size + 1, 2, none⟩ = some (.int .i64 t.var) := X1.cell 2
    have y3 : w0.cell? ⟨w.heap.size + 1, 3, none⟩ = some (.int .i64 t.field) := X1.cell 3
    have y4 : w0.cell? ⟨w.heap.size + 1, 4, none⟩ = some (.int .i64 t.n) := X1.cell 4
    have hl_y : w.heap.size + 1 < w0.heap.size := by omega
    have z0 : w0.cell? ⟨w.heap.size + 1 + 1, 0, none⟩ = some (.int .i64 0) := X2.cell 0
    have z1 : w0.cell? ⟨w.heap.size + 1 + 1, 1, none⟩ = some (.int .i64 0) := X2.cell 1
    have z2 : w0.cell? ⟨w.heap.size + 1 + 1, 2, none⟩ = some (.int .i64 0) := X2.cell 2
    have z3 : w0.cell? ⟨w.heap.size + 1 + 1, 3, none⟩ = some (.string ⟨#[]⟩) := X2.cell 3
    have z4 : w0.cell? ⟨w.heap.size + 1 + 1, 4, none⟩ = some (.int .i64 0) := X2.cell 4
    have z5 : w0.cell? ⟨w.heap.size + 1 + 1, 5, none⟩ = some (.slice none 0 0) := X2.cell 5
    have hl_z : w.heap.size + 1 + 1 < w0.heap.size := by omega
    have HBz := Lib.hid X2
    have hwl : w.heap.size ≤ w0.heap.size := hb0.size
    have Hb := Lib.hid hb0
    clear hw0 hb0 hsz X0 X1 X2
    refine wp_region_grown_tail 15 (by kernel_rfl) (by kernel_rfl) (by kernel_rfl) ?_
    simp only [List.take_succ_cons, List.take_zero, List.drop_succ_cons, List.drop_zero]
    repeat (go_big_quiet_step (first | (go_at_call 40; exact calls_grown (Hno.out _ (Hsb.out.below (Hbb.out.trans (Below.mono (Hb.out.trans ((grown_below _ _).mono hwl)) Hbb.out.size)))))))
    refine wpQuiet_nil ?_
    intro w1 hw0
    have hb1 : Below w0.heap.size w0 w1 := by obtain ⟨n, rfl⟩ := hw0; exact grown_below _ n
    clear hw0
    replace x0 := cell_kept hb1 x0 hl_x
    replace x1 := cell_kept hb1 x1 hl_x
    replace x2 := cell_kept hb1 x2 hl_x
    replace x3 := cell_kept hb1 x3 hl_x
    replace x4 := cell_kept hb1 x4 hl_x
    replace x5 := cell_kept hb1 x5 hl_x
    replace x6 := cell_kept hb1 x6 hl_x
    replace x7 := cell_kept hb1 x7 hl_x
    replace x8 := cell_kept hb1 x8 hl_x
    replace x9 := cell_kept hb1 x9 hl_x
    replace x10 := cell_kept hb1 x10 hl_x
    replace y0 := cell_kept hb1 y0 hl_y
    replace y1 := cell_kept hb1 y1 hl_y
    replace y2 := cell_kept hb1 y2 hl_y
    replace y3 := cell_kept hb1 y3 hl_y
    replace y4 := cell_kept hb1 y4 hl_y
    replace z0 := cell_kept hb1 z0 hl_z
    replace z1 := cell_kept hb1 z1 hl_z
    replace z2 := cell_kept hb1 z2 hl_z
    replace z3 := cell_kept hb1 z3 hl_z
    replace z4 := cell_kept hb1 z4 hl_z
    replace z5 := cell_kept hb1 z5 hl_z
    replace c0 := cell_kept hb1 c0 hl_c
    replace c1 := cell_kept hb1 c1 hl_c
    replace c2 := cell_kept hb1 c2 hl_c
    replace c3 := cell_kept hb1 c3 hl_c
    replace c4 := cell_kept hb1 c4 hl_c
    replace c5 := cell_kept hb1 c5 hl_c
    replace c6 := cell_kept hb1 c6 hl_c
    replace c7 := cell_kept hb1 c7 hl_c
    replace HBz := Lib.hid (HBz.out.below hb1 hl_z)
    replace Hb := Lib.hid (Hb.out.trans (hb1.mono hwl))
    replace hl_x := Nat.lt_of_lt_of_le hl_x hb1.size
    replace hl_y := Nat.lt_of_lt_of_le hl_y hb1.size
    replace hl_z := Nat.lt_of_lt_of_le hl_z hb1.size
    replace hl_c := Nat.lt_of_lt_of_le hl_c hb1.size
    replace hwl := Nat.le_trans hwl hb1.size
    clear hb1
    have z_0 := HBz.out.frozen 0
    have z_1 := HBz.out.frozen 1
    have z_2 := HBz.out.frozen 2
    have z_3 := HBz.out.frozen 3
    have z_4 := HBz.out.frozen 4
    have z_5 := HBz.out.frozen 5
    go_wp2_with fail
    clear z_0 z_1 z_2 z_3 z_4 z_5
    generalize hw0 : World.setCell _ _ _ = w2
    obtain ⟨X0, hoth, hsz, hbel, hblk⟩ := stored (vs := [.int .i64 0, .int .i64 0, .int .i64 0, .string ⟨#[]⟩, .int .i64 0, .slice none 0 0]) HBz.out rfl hw0
    replace x0 := hoth x0 (by omega)
    replace x1 := hoth x1 (by omega)
    replace x2 := hoth x2 (by omega)
    replace x3 := hoth x3 (by omega)
    replace x4 := hoth x4 (by omega)
    replace x5 := hoth x5 (by omega)
    replace x6 := hoth x6 (by omega)
    replace x7 := hoth x7 (by omega)
    replace x8 := hoth x8 (by omega)
    replace x9 := hoth x9 (by omega)
    replace x10 := hoth x10 (by omega)
    replace y0 := hoth y0 (by omega)
    replace y1 := hoth y1 (by omega)
    replace y2 := hoth y2 (by omega)
    replace y3 := hoth y3 (by omega)
    replace y4 := hoth y4 (by omega)
    replace c0 := hoth c0 (by omega)
    replace c1 := hoth c1 (by omega)
    replace c2 := hoth c2 (by omega)
    replace c3 := hoth c3 (by omega)
    replace c4 := hoth c4 (by omega)
    replace c5 := hoth c5 (by omega)
    replace c6 := hoth c6 (by omega)
    replace c7 := hoth c7 (by omega)
    replace z0 : w2.cell? ⟨w.heap.size + 1 + 1, 0, none⟩ = some (.int .i64 0) := X0.cell 0
    replace z1 : w2.cell? ⟨w.heap.size + 1 + 1, 1, none⟩ = some (.int .i64 0) := X0.cell 1
    replace z2 : w2.cell? ⟨w.heap.size + 1 + 1, 2, none⟩ = some (.int .i64 0) := X0.cell 2
    replace z3 : w2.cell? ⟨w.heap.size + 1 + 1, 3, none⟩ = some (.string ⟨#[]⟩) := X0.cell 3
    replace z4 : w2.cell? ⟨w.heap.size + 1 + 1, 4, none⟩ = some (.int .i64 0) := X0.cell 4
    replace z5 : w2.cell? ⟨w.heap.size + 1 + 1, 5, none⟩ = some (.slice none 0 0) := X0.cell 5
    replace HBz := Lib.hid X0
    have hb1 := hbel w.heap.size (by omega)
    replace Hb := Lib.hid (Hb.out.trans hb1)
    replace hl_x : w.heap.size < w2.heap.size := by omega
    replace hl_y : w.heap.size + 1 < w2.heap.size := by omega
    replace hl_z : w.heap.size + 1 + 1 < w2.heap.size := by omega
    replace hl_c : b < w2.heap.size := by omega
    replace hwl : w.heap.size ≤ w2.heap.size := by omega
    clear hw0 hoth hsz hbel hblk X0 hb1
    refine bodyPost_ret (v := .tuple #[tyZero.val none 0, .bool false]) (by simp [results, Try.f72, go_sem, tyZero, *]) rfl ⟨⟨tyZero, none, 0, rfl⟩, Hb.out⟩
  | some ty =>
    obtain ⟨an, kn, hn, hc⟩ := typeOf_fix s p f.schema t.field ty hty wb Hsb.out
    have Hn := Lib.hid hn
    have Hc := Lib.hid hc
    clear hn hc hty
    go_enter Try.func72, Try.ntmps72
    go_wp2_with fail
    generalize hw0 : World.alloc _ _ = w0
    obtain ⟨X0, X1, X2, hsz, hb0⟩ := blk3 hw0
    replace c0 := cell_kept hb0 c0 hl_c
    replace c1 := cell_kept hb0 c1 hl_c
    replace c2 := cell_kept hb0 c2 hl_c
    replace c3 := cell_kept hb0 c3 hl_c
    replace c4 := cell_kept hb0 c4 hl_c
    replace c5 := cell_kept hb0 c5 hl_c
    replace c6 := cell_kept hb0 c6 hl_c
    replace c7 := cell_kept hb0 c7 hl_c
    have hw_c := hl_c
    replace hl_c := Nat.lt_of_lt_of_le hl_c hb0.size
    have x0 : w0.cell? ⟨w.heap.size, 0, none⟩ = some (.slice p.a0 s.issuers.length p.k0) := X0.cell 0
    have x1 : w0.cell? ⟨w.heap.size, 1, none⟩ = some (.slice p.a1 s.units.length p.k1) := X0.cell 1
    have x2 : w0.cell? ⟨w.heap.size, 2, none⟩ = some (.slice p.a2 s.schemas.length p.k2) := X0.cell 2
    have x3 : w0.cell? ⟨w.heap.size, 3, none⟩ = some (.slice p.a3 s.rules.length p.k3) := X0.cell 3
    have x4 : w0.cell? ⟨w.heap.size, 4, none⟩ = some (.slice p.a4 s.converts p.k4) := X0.cell 4
    have x5 : w0.cell? ⟨w.heap.size, 5, none⟩ = some (.slice p.a5 s.purposes.length p.k5) := X0.cell 5
    have x6 : w0.cell? ⟨w.heap.size, 6, none⟩ = some (.string r.head) := X0.cell 6
    have x7 : w0.cell? ⟨w.heap.size, 7, none⟩ = some (.int .i64 r.schema) := X0.cell 7
    have x8 : w0.cell? ⟨w.heap.size, 8, none⟩ = some (.slice (some ⟨b, off, none⟩) r.froms.length l2) := X0.cell 8
    have x9 : w0.cell? ⟨w.heap.size, 9, none⟩ = some (.slice f3 r.where_.length l3) := X0.cell 9
    have x10 : w0.cell? ⟨w.heap.size, 10, none⟩ = some (.slice f4 r.sets.length l4) := X0.cell 10
    have hl_x : w.heap.size < w0.heap.size := by omega
    have y0 : w0.cell? ⟨w.heap.size + 1, 0, none⟩ = some (.string t.name) := X1.cell 0
    have y1 : w0.cell? ⟨w.heap.size + 1, 1, none⟩ = some (.string t.path) := X1.cell 1
    have y2 : w0.cell? ⟨w.heap.size + 1, 2, none⟩ = some (.int .i64 t.var) := X1.cell 2
    have y3 : w0.cell? ⟨w.heap.size + 1, 3, none⟩ = some (.int .i64 t.field) := X1.cell 3
    have y4 : w0.cell? ⟨w.heap.size + 1, 4, none⟩ = some (.int .i64 t.n) := X1.cell 4
    have hl_y : w.heap.size + 1 < w0.heap.size := by omega
    have z0 : w0.cell? ⟨w.heap.size + 1 + 1, 0, none⟩ = some (.int .i64 0) := X2.cell 0
    have z1 : w0.cell? ⟨w.heap.size + 1 + 1, 1, none⟩ = some (.int .i64 0) := X2.cell 1
    have z2 : w0.cell? ⟨w.heap.size + 1 + 1, 2, none⟩ = some (.int .i64 0) := X2.cell 2
    have z3 : w0.cell? ⟨w.heap.size + 1 + 1, 3, none⟩ = some (.string ⟨#[]⟩) := X2.cell 3
    have z4 : w0.cell? ⟨w.heap.size + 1 + 1, 4, none⟩ = some (.int .i64 0) := X2.cell 4
    have z5 : w0.cell? ⟨w.heap.size + 1 + 1, 5, none⟩ = some (.slice none 0 0) := X2.cell 5
    have hl_z : w.heap.size + 1 + 1 < w0.heap.size := by omega
    have HBz := Lib.hid X2
    have hwl : w.heap.size ≤ w0.heap.size := hb0.size
    have Hb := Lib.hid hb0
    clear hw0 hb0 hsz X0 X1 X2
    refine wp_region_grown_tail 15 (by kernel_rfl) (by kernel_rfl) (by kernel_rfl) ?_
    simp only [List.take_succ_cons, List.take_zero, List.drop_succ_cons, List.drop_zero]
    repeat (go_big_quiet_step (first | (go_at_call 40; exact calls_grown (Hc.out _ (Hbb.out.trans (Below.mono (Hb.out.trans ((grown_below _ _).mono hwl)) Hbb.out.size))))))
    refine wpQuiet_nil ?_
    intro w1 hw0
    have hb1 : Below w0.heap.size w0 w1 := by obtain ⟨n, rfl⟩ := hw0; exact grown_below _ n
    clear hw0
    replace x0 := cell_kept hb1 x0 hl_x
    replace x1 := cell_kept hb1 x1 hl_x
    replace x2 := cell_kept hb1 x2 hl_x
    replace x3 := cell_kept hb1 x3 hl_x
    replace x4 := cell_kept hb1 x4 hl_x
    replace x5 := cell_kept hb1 x5 hl_x
    replace x6 := cell_kept hb1 x6 hl_x
    replace x7 := cell_kept hb1 x7 hl_x
    replace x8 := cell_kept hb1 x8 hl_x
    replace x9 := cell_kept hb1 x9 hl_x
    replace x10 := cell_kept hb1 x10 hl_x
    replace y0 := cell_kept hb1 y0 hl_y
    replace y1 := cell_kept hb1 y1 hl_y
    replace y2 := cell_kept hb1 y2 hl_y
    replace y3 := cell_kept hb1 y3 hl_y
    replace y4 := cell_kept hb1 y4 hl_y
    replace z0 := cell_kept hb1 z0 hl_z
    replace z1 := cell_kept hb1 z1 hl_z
    replace z2 := cell_kept hb1 z2 hl_z
    replace z3 := cell_kept hb1 z3 hl_z
    replace z4 := cell_kept hb1 z4 hl_z
    replace z5 := cell_kept hb1 z5 hl_z
    replace c0 := cell_kept hb1 c0 hl_c
    replace c1 := cell_kept hb1 c1 hl_c
    replace c2 := cell_kept hb1 c2 hl_c
    replace c3 := cell_kept hb1 c3 hl_c
    replace c4 := cell_kept hb1 c4 hl_c
    replace c5 := cell_kept hb1 c5 hl_c
    replace c6 := cell_kept hb1 c6 hl_c
    replace c7 := cell_kept hb1 c7 hl_c
    replace HBz := Lib.hid (HBz.out.below hb1 hl_z)
    replace Hb := Lib.hid (Hb.out.trans (hb1.mono hwl))
    replace hl_x := Nat.lt_of_lt_of_le hl_x hb1.size
    replace hl_y := Nat.lt_of_lt_of_le hl_y hb1.size
    replace hl_z := Nat.lt_of_lt_of_le hl_z hb1.size
    replace hl_c := Nat.lt_of_lt_of_le hl_c hb1.size
    replace hwl := Nat.le_trans hwl hb1.size
    clear hb1
    have z_0 := HBz.out.frozen 0
    have z_1 := HBz.out.frozen 1
    have z_2 := HBz.out.frozen 2
    have z_3 := HBz.out.frozen 3
    have z_4 := HBz.out.frozen 4
    have z_5 := HBz.out.frozen 5
    go_wp2_with fail
    clear z_0 z_1 z_2 z_3 z_4 z_5
    generalize hw0 : World.setCell _ _ _ = w2
    obtain ⟨X0, hoth, hsz, hbel, hblk⟩ := stored (vs := [.int .i64 ty.kind, .int .i64 ty.lo, .int .i64 ty.hi, .string ty.of_, .int .i64 ty.unit, .slice an ty.names.length kn]) HBz.out rfl hw0
    replace x0 := hoth x0 (by omega)
    replace x1 := hoth x1 (by omega)
    replace x2 := hoth x2 (by omega)
    replace x3 := hoth x3 (by omega)
    replace x4 := hoth x4 (by omega)
    replace x5 := hoth x5 (by omega)
    replace x6 := hoth x6 (by omega)
    replace x7 := hoth x7 (by omega)
    replace x8 := hoth x8 (by omega)
    replace x9 := hoth x9 (by omega)
    replace x10 := hoth x10 (by omega)
    replace y0 := hoth y0 (by omega)
    replace y1 := hoth y1 (by omega)
    replace y2 := hoth y2 (by omega)
    replace y3 := hoth y3 (by omega)
    replace y4 := hoth y4 (by omega)
    replace c0 := hoth c0 (by omega)
    replace c1 := hoth c1 (by omega)
    replace c2 := hoth c2 (by omega)
    replace c3 := hoth c3 (by omega)
    replace c4 := hoth c4 (by omega)
    replace c5 := hoth c5 (by omega)
    replace c6 := hoth c6 (by omega)
    replace c7 := hoth c7 (by omega)
    replace z0 : w2.cell? ⟨w.heap.size + 1 + 1, 0, none⟩ = some (.int .i64 ty.kind) := X0.cell 0
    replace z1 : w2.cell? ⟨w.heap.size + 1 + 1, 1, none⟩ = some (.int .i64 ty.lo) := X0.cell 1
    replace z2 : w2.cell? ⟨w.heap.size + 1 + 1, 2, none⟩ = some (.int .i64 ty.hi) := X0.cell 2
    replace z3 : w2.cell? ⟨w.heap.size + 1 + 1, 3, none⟩ = some (.string ty.of_) := X0.cell 3
    replace z4 : w2.cell? ⟨w.heap.size + 1 + 1, 4, none⟩ = some (.int .i64 ty.unit) := X0.cell 4
    replace z5 : w2.cell? ⟨w.heap.size + 1 + 1, 5, none⟩ = some (.slice an ty.names.length kn) := X0.cell 5
    replace HBz := Lib.hid X0
    have hb1 := hbel w.heap.size (by omega)
    replace Hb := Lib.hid (Hb.out.trans hb1)
    replace hl_x : w.heap.size < w2.heap.size := by omega
    replace hl_y : w.heap.size + 1 < w2.heap.size := by omega
    replace hl_z : w.heap.size + 1 + 1 < w2.heap.size := by omega
    replace hl_c : b < w2.heap.size := by omega
    replace hwl : w.heap.size ≤ w2.heap.size := by omega
    clear hw0 hoth hsz hbel hblk X0 hb1
    refine bodyPost_ret (v := .tuple #[ty.val an kn, .bool true]) (by simp [results, Try.f72, go_sem, *]) rfl ⟨⟨an, kn, rfl, Hn.out⟩, Hb.out⟩
theorem termType_any (s : SourceD) (p : SrcAt) (r : RuleD) (q : RuleAt) (t : TermD) (n : Int) (wb : World) (hs : Src wb s p) (hr : Rul wb r q) (w : World) (hbb : Below wb.heap.size wb w) (h2 : n ≤ r.froms.length) :
    Calls Try.prog 72 #[rcVal s p r q, t.val', .int .i64 n] w fun e w' => UsRes wb e (termTy? s r.froms t n) ∧ Below w.heap.size w w' := by
  unfold termTy?
  by_cases h : 0 ≤ t.var ∧ t.var < n
  · rw [if_pos h]
    have hlt : t.var.toNat < r.froms.length := by omega
    rw [List.getElem?_eq_getElem hlt]
    exact termType_in s p r q t n wb hs hr w hbb h.1 h.2 h2 _ (List.getElem?_eq_getElem hlt)
  · rw [if_neg h]
    exact termType_out s p r q t n w h
end Go.Proofs.Ytogenjbabgibbaa
