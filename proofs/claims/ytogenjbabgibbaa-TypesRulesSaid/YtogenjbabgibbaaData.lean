import Derived.Test.YtogenjbabgibbaaMem
namespace Go.Proofs.Ytogenjbabgibbaa
open Go.RowKit

/-- a slice that nobody looks into: its length alone -/
def RRaw : Rep Nat := fun _ cs n => ∃ a cap, cs = [.slice a n cap]
theorem RRaw.stab : Stab RRaw := fun _ _ _ _ h _ => h
theorem opens_raw {P : Program} {t e : TypeId} (ht : P.underlying t = some (.slice e)) : Opens P t RRaw := fun enc w spare held fuel cs x h => by
  rcases Go.Deep.open_slice ht h with ⟨rfl, _⟩ | ⟨a, len, cap, m, k, D, Pl, rfl, _⟩
  · exact ⟨0, none, 0, rfl⟩
  · exact ⟨len, some a, cap, rfl⟩

structure UnitD where
  name : ByteArray
  of_ : ByteArray
  factor : Int
  base : Int
  scale : Int
def RUnitD : Rep UnitD := fun w cs x => ∃ c0 c1 c2 c3 c4 : List Value, cs = c0 ++ c1 ++ c2 ++ c3 ++ c4 ∧ RStr w c0 x.name ∧ RStr w c1 x.of_ ∧ RInt w c2 x.factor ∧ RInt w c3 x.base ∧ RInt w c4 x.scale
theorem RUnitD.stab : Stab RUnitD := fun w w' _ _ ⟨c0, c1, c2, c3, c4, h, h0, h1, h2, h3, h4⟩ hb => ⟨c0, c1, c2, c3, c4, h, (RStr.stab) w w' _ _ h0 hb, (RStr.stab) w w' _ _ h1 hb, (RInt.stab) w w' _ _ h2 hb, (RInt.stab) w w' _ _ h3 hb, (RInt.stab) w w' _ _ h4 hb⟩
def UnitD.wf (x : UnitD) : Prop := x.name.size ≤ maxLen ∧ x.of_.size ≤ maxLen ∧ (Lit.int .i64 x.factor).wf = true ∧ (Lit.int .i64 x.base).wf = true ∧ (Lit.int .i64 x.scale).wf = true
theorem RUnitD.flat {w : World} {cs : List Value} {x : UnitD} (h : RUnitD w cs x) : cs = [.string x.name, .string x.of_, .int .i64 x.factor, .int .i64 x.base, .int .i64 x.scale] ∧ x.wf := by
  obtain ⟨c0, c1, c2, c3, c4, rfl, h0, h1, h2, h3, h4⟩ := h
  obtain ⟨rfl, w0⟩ := h0
  obtain ⟨rfl, w1⟩ := h1
  obtain ⟨rfl, w2⟩ := h2
  obtain ⟨rfl, w3⟩ := h3
  obtain ⟨rfl, w4⟩ := h4
  refine ⟨by simp, by simp only [UnitD.wf] at *; grind⟩
theorem UnitD.out {w : World} {a : Option Addr} {l : List UnitD} (H : Sl 5 RUnitD w a l) (i : Nat) (hi : i < l.length) : ∃ (b off : Nat), a = some ⟨b, off, none⟩ ∧ b < w.heap.size ∧ l[i].wf ∧ w.cell? ⟨b, off + i * 5, none⟩ = some (.string l[i].name) ∧ w.cell? ⟨b, off + i * 5 + 1, none⟩ = some (.string l[i].of_) ∧ w.cell? ⟨b, off + i * 5 + 2, none⟩ = some (.int .i64 l[i].factor) ∧ w.cell? ⟨b, off + i * 5 + 3, none⟩ = some (.int .i64 l[i].base) ∧ w.cell? ⟨b, off + i * 5 + 4, none⟩ = some (.int .i64 l[i].scale) := by
  obtain ⟨b, off, h1, h2, es, h3, h4⟩ := H i hi
  obtain ⟨rfl, hw⟩ := h3.flat
  exact ⟨b, off, h1, h2, hw, h4 0 (by decide), h4 1 (by decide), h4 2 (by decide), h4 3 (by decide), h4 4 (by decide)⟩

structure TyD where
  kind : Int
  lo : Int
  hi : Int
  of_ : ByteArray
  unit : Int
  names : List ByteArray
def RTyD : Rep TyD := fun w cs x => ∃ c0 c1 c2 c3 c4 c5 : List Value, cs = c0 ++ c1 ++ c2 ++ c3 ++ c4 ++ c5 ∧ RInt w c0 x.kind ∧ RInt w c1 x.lo ∧ RInt w c2 x.hi ∧ RStr w c3 x.of_ ∧ RInt w c4 x.unit ∧ (RSl 1 RStr) w c5 x.names
theorem RTyD.stab : Stab RTyD := fun w w' _ _ ⟨c0, c1, c2, c3, c4, c5, h, h0, h1, h2, h3, h4, h5⟩ hb => ⟨c0, c1, c2, c3, c4, c5, h, (RInt.stab) w w' _ _ h0 hb, (RInt.stab) w w' _ _ h1 hb, (RInt.stab) w w' _ _ h2 hb, (RStr.stab) w w' _ _ h3 hb, (RInt.stab) w w' _ _ h4 hb, (RSl.stab RStr.stab) w w' _ _ h5 hb⟩
def TyD.wf (x : TyD) : Prop := (Lit.int .i64 x.kind).wf = true ∧ (Lit.int .i64 x.lo).wf = true ∧ (Lit.int .i64 x.hi).wf = true ∧ x.of_.size ≤ maxLen ∧ (Lit.int .i64 x.unit).wf = true
theorem RTyD.flat {w : World} {cs : List Value} {x : TyD} (h : RTyD w cs x) : ∃ (a0 : Option Addr) (k0 : Nat), cs = [.int .i64 x.kind, .int .i64 x.lo, .int .i64 x.hi, .string x.of_, .int .i64 x.unit, .slice a0 x.names.length k0] ∧ Sl 1 RStr w a0 x.names ∧ x.wf := by
  obtain ⟨c0, c1, c2, c3, c4, c5, rfl, h0, h1, h2, h3, h4, h5⟩ := h
  obtain ⟨rfl, w0⟩ := h0
  obtain ⟨rfl, w1⟩ := h1
  obtain ⟨rfl, w2⟩ := h2
  obtain ⟨rfl, w3⟩ := h3
  obtain ⟨rfl, w4⟩ := h4
  obtain ⟨p5, q5, rfl, s5⟩ := h5
  refine ⟨p5, q5, by simp, s5, by simp only [TyD.wf] at *; grind⟩
theorem TyD.out {w : World} {a : Option Addr} {l : List TyD} (H : Sl 6 RTyD w a l) (i : Nat) (hi : i < l.length) : ∃ (b off : Nat), a = some ⟨b, off, none⟩ ∧ b < w.heap.size ∧ l[i].wf ∧ ∃ (a0 : Option Addr) (k0 : Nat), w.cell? ⟨b, off + i * 6, none⟩ = some (.int .i64 l[i].kind) ∧ w.cell? ⟨b, off + i * 6 + 1, none⟩ = some (.int .i64 l[i].lo) ∧ w.cell? ⟨b, off + i * 6 + 2, none⟩ = some (.int .i64 l[i].hi) ∧ w.cell? ⟨b, off + i * 6 + 3, none⟩ = some (.string l[i].of_) ∧ w.cell? ⟨b, off + i * 6 + 4, none⟩ = some (.int .i64 l[i].unit) ∧ w.cell? ⟨b, off + i * 6 + 5, none⟩ = some (.slice a0 l[i].names.length k0) ∧ Sl 1 RStr w a0 l[i].names := by
  obtain ⟨b, off, h1, h2, es, h3, h4⟩ := H i hi
  obtain ⟨a0, k0, rfl, s0, hw⟩ := h3.flat
  exact ⟨b, off, h1, h2, hw, a0, k0, h4 0 (by decide), h4 1 (by decide), h4 2 (by decide), h4 3 (by decide), h4 4 (by decide), h4 5 (by decide), s0⟩

structure FieldD where
  name : ByteArray
  ty : TyD
  w0 : Int
  w1 : Int
  w2 : Int
  w3 : Int
def RFieldD : Rep FieldD := fun w cs x => ∃ c0 c1 c2 c3 c4 c5 : List Value, cs = c0 ++ c1 ++ c2 ++ c3 ++ c4 ++ c5 ∧ RStr w c0 x.name ∧ RTyD w c1 x.ty ∧ RInt w c2 x.w0 ∧ RInt w c3 x.w1 ∧ RInt w c4 x.w2 ∧ RInt w c5 x.w3
theorem RFieldD.stab : Stab RFieldD := fun w w' _ _ ⟨c0, c1, c2, c3, c4, c5, h, h0, h1, h2, h3, h4, h5⟩ hb => ⟨c0, c1, c2, c3, c4, c5, h, (RStr.stab) w w' _ _ h0 hb, (RTyD.stab) w w' _ _ h1 hb, (RInt.stab) w w' _ _ h2 hb, (RInt.stab) w w' _ _ h3 hb, (RInt.stab) w w' _ _ h4 hb, (RInt.stab) w w' _ _ h5 hb⟩
def FieldD.wf (x : FieldD) : Prop := x.name.size ≤ maxLen ∧ (Lit.int .i64 x.ty.kind).wf = true ∧ (Lit.int .i64 x.ty.lo).wf = true ∧ (Lit.int .i64 x.ty.hi).wf = true ∧ x.ty.of_.size ≤ maxLen ∧ (Lit.int .i64 x.ty.unit).wf = true ∧ (Lit.int .i64 x.w0).wf = true ∧ (Lit.int .i64 x.w1).wf = true ∧ (Lit.int .i64 x.w2).wf = true ∧ (Lit.int .i64 x.w3).wf = true
theorem RFieldD.flat {w : World} {cs : List Value} {x : FieldD} (h : RFieldD w cs x) : ∃ (a0 : Option Addr) (k0 : Nat), cs = [.string x.name, .int .i64 x.ty.kind, .int .i64 x.ty.lo, .int .i64 x.ty.hi, .string x.ty.of_, .int .i64 x.ty.unit, .slice a0 x.ty.names.length k0, .int .i64 x.w0, .int .i64 x.w1, .int .i64 x.w2, .int .i64 x.w3] ∧ Sl 1 RStr w a0 x.ty.names ∧ x.wf := by
  obtain ⟨c0, c1, c2, c3, c4, c5, rfl, h0, h1, h2, h3, h4, h5⟩ := h
  obtain ⟨rfl, w0⟩ := h0
  obtain ⟨p1_0, q1_0, rfl, s1_0, w1⟩ := h1.flat
  obtain ⟨rfl, w2⟩ := h2
  obtain ⟨rfl, w3⟩ := h3
  obtain ⟨rfl, w4⟩ := h4
  obtain ⟨rfl, w5⟩ := h5
  refine ⟨p1_0, q1_0, by simp, s1_0, by simp only [FieldD.wf, TyD.wf] at *; grind⟩
theorem FieldD.out {w : World} {a : Option Addr} {l : List FieldD} (H : Sl 11 RFieldD w a l) (i : Nat) (hi : i < l.length) : ∃ (b off : Nat), a = some ⟨b, off, none⟩ ∧ b < w.heap.size ∧ l[i].wf ∧ ∃ (a0 : Option Addr) (k0 : Nat), w.cell? ⟨b, off + i * 11, none⟩ = some (.string l[i].name) ∧ w.cell? ⟨b, off + i * 11 + 1, none⟩ = some (.int .i64 l[i].ty.kind) ∧ w.cell? ⟨b, off + i * 11 + 2, none⟩ = some (.int .i64 l[i].ty.lo) ∧ w.cell? ⟨b, off + i * 11 + 3, none⟩ = some (.int .i64 l[i].ty.hi) ∧ w.cell? ⟨b, off + i * 11 + 4, none⟩ = some (.string l[i].ty.of_) ∧ w.cell? ⟨b, off + i * 11 + 5, none⟩ = some (.int .i64 l[i].ty.unit) ∧ w.cell? ⟨b, off + i * 11 + 6, none⟩ = some (.slice a0 l[i].ty.names.length k0) ∧ w.cell? ⟨b, off + i * 11 + 7, none⟩ = some (.int .i64 l[i].w0) ∧ w.cell? ⟨b, off + i * 11 + 8, none⟩ = some (.int .i64 l[i].w1) ∧ w.cell? ⟨b, off + i * 11 + 9, none⟩ = some (.int .i64 l[i].w2) ∧ w.cell? ⟨b, off + i * 11 + 10, none⟩ = some (.int .i64 l[i].w3) ∧ Sl 1 RStr w a0 l[i].ty.names := by
  obtain ⟨b, off, h1, h2, es, h3, h4⟩ := H i hi
  obtain ⟨a0, k0, rfl, s0, hw⟩ := h3.flat
  exact ⟨b, off, h1, h2, hw, a0, k0, h4 0 (by decide), h4 1 (by decide), h4 2 (by decide), h4 3 (by decide), h4 4 (by decide), h4 5 (by decide), h4 6 (by decide), h4 7 (by decide), h4 8 (by decide), h4 9 (by decide), h4 10 (by decide), s0⟩

structure SchemaD where
  name : ByteArray
  by_ : ByteArray
  issuer : Int
  version : Int
  fields : List FieldD
  depends : Nat
def RSchemaD : Rep SchemaD := fun w cs x => ∃ c0 c1 c2 c3 c4 c5 : List Value, cs = c0 ++ c1 ++ c2 ++ c3 ++ c4 ++ c5 ∧ RStr w c0 x.name ∧ RStr w c1 x.by_ ∧ RInt w c2 x.issuer ∧ RInt w c3 x.version ∧ (RSl 11 RFieldD) w c4 x.fields ∧ RRaw w c5 x.depends
theorem RSchemaD.stab : Stab RSchemaD := fun w w' _ _ ⟨c0, c1, c2, c3, c4, c5, h, h0, h1, h2, h3, h4, h5⟩ hb => ⟨c0, c1, c2, c3, c4, c5, h, (RStr.stab) w w' _ _ h0 hb, (RStr.stab) w w' _ _ h1 hb, (RInt.stab) w w' _ _ h2 hb, (RInt.stab) w w' _ _ h3 hb, (RSl.stab RFieldD.stab) w w' _ _ h4 hb, (RRaw.stab) w w' _ _ h5 hb⟩
def SchemaD.wf (x : SchemaD) : Prop := x.name.size ≤ maxLen ∧ x.by_.size ≤ maxLen ∧ (Lit.int .i64 x.issuer).wf = true ∧ (Lit.int .i64 x.version).wf = true
theorem RSchemaD.flat {w : World} {cs : List Value} {x : SchemaD} (h : RSchemaD w cs x) : ∃ (a0 : Option Addr) (k0 : Nat) (a1 : Option Addr) (k1 : Nat), cs = [.string x.name, .string x.by_, .int .i64 x.issuer, .int .i64 x.version, .slice a0 x.fields.length k0, .slice a1 x.depends k1] ∧ Sl 11 RFieldD w a0 x.fields ∧ x.wf := by
  obtain ⟨c0, c1, c2, c3, c4, c5, rfl, h0, h1, h2, h3, h4, h5⟩ := h
  obtain ⟨rfl, w0⟩ := h0
  obtain ⟨rfl, w1⟩ := h1
  obtain ⟨rfl, w2⟩ := h2
  obtain ⟨rfl, w3⟩ := h3
  obtain ⟨p4, q4, rfl, s4⟩ := h4
  obtain ⟨p5, q5, rfl⟩ := h5
  refine ⟨p4, q4, p5, q5, by simp, s4, by simp only [SchemaD.wf] at *; grind⟩
theorem SchemaD.out {w : World} {a : Option Addr} {l : List SchemaD} (H : Sl 6 RSchemaD w a l) (i : Nat) (hi : i < l.length) : ∃ (b off : Nat), a = some ⟨b, off, none⟩ ∧ b < w.heap.size ∧ l[i].wf ∧ ∃ (a0 : Option Addr) (k0 : Nat) (a1 : Option Addr) (k1 : Nat), w.cell? ⟨b, off + i * 6, none⟩ = some (.string l[i].name) ∧ w.cell? ⟨b, off + i * 6 + 1, none⟩ = some (.string l[i].by_) ∧ w.cell? ⟨b, off + i * 6 + 2, none⟩ = some (.int .i64 l[i].issuer) ∧ w.cell? ⟨b, off + i * 6 + 3, none⟩ = some (.int .i64 l[i].version) ∧ w.cell? ⟨b, off + i * 6 + 4, none⟩ = some (.slice a0 l[i].fields.length k0) ∧ w.cell? ⟨b, off + i * 6 + 5, none⟩ = some (.slice a1 l[i].depends k1) ∧ Sl 11 RFieldD w a0 l[i].fields := by
  obtain ⟨b, off, h1, h2, es, h3, h4⟩ := H i hi
  obtain ⟨a0, k0, a1, k1, rfl, s0, hw⟩ := h3.flat
  exact ⟨b, off, h1, h2, hw, a0, k0, a1, k1, h4 0 (by decide), h4 1 (by decide), h4 2 (by decide), h4 3 (by decide), h4 4 (by decide), h4 5 (by decide), s0⟩

structure TermD where
  name : ByteArray
  path : ByteArray
  var : Int
  field : Int
  n : Int
def RTermD : Rep TermD := fun w cs x => ∃ c0 c1 c2 c3 c4 : List Value, cs = c0 ++ c1 ++ c2 ++ c3 ++ c4 ∧ RStr w c0 x.name ∧ RStr w c1 x.path ∧ RInt w c2 x.var ∧ RInt w c3 x.field ∧ RInt w c4 x.n
theorem RTermD.stab : Stab RTermD := fun w w' _ _ ⟨c0, c1, c2, c3, c4, h, h0, h1, h2, h3, h4⟩ hb => ⟨c0, c1, c2, c3, c4, h, (RStr.stab) w w' _ _ h0 hb, (RStr.stab) w w' _ _ h1 hb, (RInt.stab) w w' _ _ h2 hb, (RInt.stab) w w' _ _ h3 hb, (RInt.stab) w w' _ _ h4 hb⟩
def TermD.wf (x : TermD) : Prop := x.name.size ≤ maxLen ∧ x.path.size ≤ maxLen ∧ (Lit.int .i64 x.var).wf = true ∧ (Lit.int .i64 x.field).wf = true ∧ (Lit.int .i64 x.n).wf = true
theorem RTermD.flat {w : World} {cs : List Value} {x : TermD} (h : RTermD w cs x) : cs = [.string x.name, .string x.path, .int .i64 x.var, .int .i64 x.field, .int .i64 x.n] ∧ x.wf := by
  obtain ⟨c0, c1, c2, c3, c4, rfl, h0, h1, h2, h3, h4⟩ := h
  obtain ⟨rfl, w0⟩ := h0
  obtain ⟨rfl, w1⟩ := h1
  obtain ⟨rfl, w2⟩ := h2
  obtain ⟨rfl, w3⟩ := h3
  obtain ⟨rfl, w4⟩ := h4
  refine ⟨by simp, by simp only [TermD.wf] at *; grind⟩
theorem TermD.out {w : World} {a : Option Addr} {l : List TermD} (H : Sl 5 RTermD w a l) (i : Nat) (hi : i < l.length) : ∃ (b off : Nat), a = some ⟨b, off, none⟩ ∧ b < w.heap.size ∧ l[i].wf ∧ w.cell? ⟨b, off + i * 5, none⟩ = some (.string l[i].name) ∧ w.cell? ⟨b, off + i * 5 + 1, none⟩ = some (.string l[i].path) ∧ w.cell? ⟨b, off + i * 5 + 2, none⟩ = some (.int .i64 l[i].var) ∧ w.cell? ⟨b, off + i * 5 + 3, none⟩ = some (.int .i64 l[i].field) ∧ w.cell? ⟨b, off + i * 5 + 4, none⟩ = some (.int .i64 l[i].n) := by
  obtain ⟨b, off, h1, h2, es, h3, h4⟩ := H i hi
  obtain ⟨rfl, hw⟩ := h3.flat
  exact ⟨b, off, h1, h2, hw, h4 0 (by decide), h4 1 (by decide), h4 2 (by decide), h4 3 (by decide), h4 4 (by decide)⟩

structure FromD where
  name : ByteArray
  kind : ByteArray
  schema : Int
  of_ : TermD
def RFromD : Rep FromD := fun w cs x => ∃ c0 c1 c2 c3 : List Value, cs = c0 ++ c1 ++ c2 ++ c3 ∧ RStr w c0 x.name ∧ RStr w c1 x.kind ∧ RInt w c2 x.schema ∧ RTermD w c3 x.of_
theorem RFromD.stab : Stab RFromD := fun w w' _ _ ⟨c0, c1, c2, c3, h, h0, h1, h2, h3⟩ hb => ⟨c0, c1, c2, c3, h, (RStr.stab) w w' _ _ h0 hb, (RStr.stab) w w' _ _ h1 hb, (RInt.stab) w w' _ _ h2 hb, (RTermD.stab) w w' _ _ h3 hb⟩
def FromD.wf (x : FromD) : Prop := x.name.size ≤ maxLen ∧ x.kind.size ≤ maxLen ∧ (Lit.int .i64 x.schema).wf = true ∧ x.of_.name.size ≤ maxLen ∧ x.of_.path.size ≤ maxLen ∧ (Lit.int .i64 x.of_.var).wf = true ∧ (Lit.int .i64 x.of_.field).wf = true ∧ (Lit.int .i64 x.of_.n).wf = true
theorem RFromD.flat {w : World} {cs : List Value} {x : FromD} (h : RFromD w cs x) : cs = [.string x.name, .string x.kind, .int .i64 x.schema, .string x.of_.name, .string x.of_.path, .int .i64 x.of_.var, .int .i64 x.of_.field, .int .i64 x.of_.n] ∧ x.wf := by
  obtain ⟨c0, c1, c2, c3, rfl, h0, h1, h2, h3⟩ := h
  obtain ⟨rfl, w0⟩ := h0
  obtain ⟨rfl, w1⟩ := h1
  obtain ⟨rfl, w2⟩ := h2
  obtain ⟨rfl, w3⟩ := h3.flat
  refine ⟨by simp, by simp only [FromD.wf, TermD.wf] at *; grind⟩
theorem FromD.out {w : World} {a : Option Addr} {l : List FromD} (H : Sl 8 RFromD w a l) (i : Nat) (hi : i < l.length) : ∃ (b off : Nat), a = some ⟨b, off, none⟩ ∧ b < w.heap.size ∧ l[i].wf ∧ w.cell? ⟨b, off + i * 8, none⟩ = some (.string l[i].name) ∧ w.cell? ⟨b, off + i * 8 + 1, none⟩ = some (.string l[i].kind) ∧ w.cell? ⟨b, off + i * 8 + 2, none⟩ = some (.int .i64 l[i].schema) ∧ w.cell? ⟨b, off + i * 8 + 3, none⟩ = some (.string l[i].of_.name) ∧ w.cell? ⟨b, off + i * 8 + 4, none⟩ = some (.string l[i].of_.path) ∧ w.cell? ⟨b, off + i * 8 + 5, none⟩ = some (.int .i64 l[i].of_.var) ∧ w.cell? ⟨b, off + i * 8 + 6, none⟩ = some (.int .i64 l[i].of_.field) ∧ w.cell? ⟨b, off + i * 8 + 7, none⟩ = some (.int .i64 l[i].of_.n) := by
  obtain ⟨b, off, h1, h2, es, h3, h4⟩ := H i hi
  obtain ⟨rfl, hw⟩ := h3.flat
  exact ⟨b, off, h1, h2, hw, h4 0 (by decide), h4 1 (by decide), h4 2 (by decide), h4 3 (by decide), h4 4 (by decide), h4 5 (by decide), h4 6 (by decide), h4 7 (by decide)⟩

structure AtomD where
  op : Int
  a : TermD
  b : TermD
def RAtomD : Rep AtomD := fun w cs x => ∃ c0 c1 c2 : List Value, cs = c0 ++ c1 ++ c2 ∧ RInt w c0 x.op ∧ RTermD w c1 x.a ∧ RTermD w c2 x.b
theorem RAtomD.stab : Stab RAtomD := fun w w' _ _ ⟨c0, c1, c2, h, h0, h1, h2⟩ hb => ⟨c0, c1, c2, h, (RInt.stab) w w' _ _ h0 hb, (RTermD.stab) w w' _ _ h1 hb, (RTermD.stab) w w' _ _ h2 hb⟩
def AtomD.wf (x : AtomD) : Prop := (Lit.int .i64 x.op).wf = true ∧ x.a.name.size ≤ maxLen ∧ x.a.path.size ≤ maxLen ∧ (Lit.int .i64 x.a.var).wf = true ∧ (Lit.int .i64 x.a.field).wf = true ∧ (Lit.int .i64 x.a.n).wf = true ∧ x.b.name.size ≤ maxLen ∧ x.b.path.size ≤ maxLen ∧ (Lit.int .i64 x.b.var).wf = true ∧ (Lit.int .i64 x.b.field).wf = true ∧ (Lit.int .i64 x.b.n).wf = true
theorem RAtomD.flat {w : World} {cs : List Value} {x : AtomD} (h : RAtomD w cs x) : cs = [.int .i64 x.op, .string x.a.name, .string x.a.path, .int .i64 x.a.var, .int .i64 x.a.field, .int .i64 x.a.n, .string x.b.name, .string x.b.path, .int .i64 x.b.var, .int .i64 x.b.field, .int .i64 x.b.n] ∧ x.wf := by
  obtain ⟨c0, c1, c2, rfl, h0, h1, h2⟩ := h
  obtain ⟨rfl, w0⟩ := h0
  obtain ⟨rfl, w1⟩ := h1.flat
  obtain ⟨rfl, w2⟩ := h2.flat
  refine ⟨by simp, by simp only [AtomD.wf, TermD.wf, TermD.wf] at *; grind⟩
theorem AtomD.out {w : World} {a : Option Addr} {l : List AtomD} (H : Sl 11 RAtomD w a l) (i : Nat) (hi : i < l.length) : ∃ (b off : Nat), a = some ⟨b, off, none⟩ ∧ b < w.heap.size ∧ l[i].wf ∧ w.cell? ⟨b, off + i * 11, none⟩ = some (.int .i64 l[i].op) ∧ w.cell? ⟨b, off + i * 11 + 1, none⟩ = some (.string l[i].a.name) ∧ w.cell? ⟨b, off + i * 11 + 2, none⟩ = some (.string l[i].a.path) ∧ w.cell? ⟨b, off + i * 11 + 3, none⟩ = some (.int .i64 l[i].a.var) ∧ w.cell? ⟨b, off + i * 11 + 4, none⟩ = some (.int .i64 l[i].a.field) ∧ w.cell? ⟨b, off + i * 11 + 5, none⟩ = some (.int .i64 l[i].a.n) ∧ w.cell? ⟨b, off + i * 11 + 6, none⟩ = some (.string l[i].b.name) ∧ w.cell? ⟨b, off + i * 11 + 7, none⟩ = some (.string l[i].b.path) ∧ w.cell? ⟨b, off + i * 11 + 8, none⟩ = some (.int .i64 l[i].b.var) ∧ w.cell? ⟨b, off + i * 11 + 9, none⟩ = some (.int .i64 l[i].b.field) ∧ w.cell? ⟨b, off + i * 11 + 10, none⟩ = some (.int .i64 l[i].b.n) := by
  obtain ⟨b, off, h1, h2, es, h3, h4⟩ := H i hi
  obtain ⟨rfl, hw⟩ := h3.flat
  exact ⟨b, off, h1, h2, hw, h4 0 (by decide), h4 1 (by decide), h4 2 (by decide), h4 3 (by decide), h4 4 (by decide), h4 5 (by decide), h4 6 (by decide), h4 7 (by decide), h4 8 (by decide), h4 9 (by decide), h4 10 (by decide)⟩

structure SetD where
  path : ByteArray
  field : Int
  term : TermD
def RSetD : Rep SetD := fun w cs x => ∃ c0 c1 c2 : List Value, cs = c0 ++ c1 ++ c2 ∧ RStr w c0 x.path ∧ RInt w c1 x.field ∧ RTermD w c2 x.term
theorem RSetD.stab : Stab RSetD := fun w w' _ _ ⟨c0, c1, c2, h, h0, h1, h2⟩ hb => ⟨c0, c1, c2, h, (RStr.stab) w w' _ _ h0 hb, (RInt.stab) w w' _ _ h1 hb, (RTermD.stab) w w' _ _ h2 hb⟩
def SetD.wf (x : SetD) : Prop := x.path.size ≤ maxLen ∧ (Lit.int .i64 x.field).wf = true ∧ x.term.name.size ≤ maxLen ∧ x.term.path.size ≤ maxLen ∧ (Lit.int .i64 x.term.var).wf = true ∧ (Lit.int .i64 x.term.field).wf = true ∧ (Lit.int .i64 x.term.n).wf = true
theorem RSetD.flat {w : World} {cs : List Value} {x : SetD} (h : RSetD w cs x) : cs = [.string x.path, .int .i64 x.field, .string x.term.name, .string x.term.path, .int .i64 x.term.var, .int .i64 x.term.field, .int .i64 x.term.n] ∧ x.wf := by
  obtain ⟨c0, c1, c2, rfl, h0, h1, h2⟩ := h
  obtain ⟨rfl, w0⟩ := h0
  obtain ⟨rfl, w1⟩ := h1
  obtain ⟨rfl, w2⟩ := h2.flat
  refine ⟨by simp, by simp only [SetD.wf, TermD.wf] at *; grind⟩
theorem SetD.out {w : World} {a : Option Addr} {l : List SetD} (H : Sl 7 RSetD w a l) (i : Nat) (hi : i < l.length) : ∃ (b off : Nat), a = some ⟨b, off, none⟩ ∧ b < w.heap.size ∧ l[i].wf ∧ w.cell? ⟨b, off + i * 7, none⟩ = some (.string l[i].path) ∧ w.cell? ⟨b, off + i * 7 + 1, none⟩ = some (.int .i64 l[i].field) ∧ w.cell? ⟨b, off + i * 7 + 2, none⟩ = some (.string l[i].term.name) ∧ w.cell? ⟨b, off + i * 7 + 3, none⟩ = some (.string l[i].term.path) ∧ w.cell? ⟨b, off + i * 7 + 4, none⟩ = some (.int .i64 l[i].term.var) ∧ w.cell? ⟨b, off + i * 7 + 5, none⟩ = some (.int .i64 l[i].term.field) ∧ w.cell? ⟨b, off + i * 7 + 6, none⟩ = some (.int .i64 l[i].term.n) := by
  obtain ⟨b, off, h1, h2, es, h3, h4⟩ := H i hi
  obtain ⟨rfl, hw⟩ := h3.flat
  exact ⟨b, off, h1, h2, hw, h4 0 (by decide), h4 1 (by decide), h4 2 (by decide), h4 3 (by decide), h4 4 (by decide), h4 5 (by decide), h4 6 (by decide)⟩

structure RuleD where
  head : ByteArray
  schema : Int
  froms : List FromD
  where_ : List AtomD
  sets : List SetD
def RRuleD : Rep RuleD := fun w cs x => ∃ c0 c1 c2 c3 c4 : List Value, cs = c0 ++ c1 ++ c2 ++ c3 ++ c4 ∧ RStr w c0 x.head ∧ RInt w c1 x.schema ∧ (RSl 8 RFromD) w c2 x.froms ∧ (RSl 11 RAtomD) w c3 x.where_ ∧ (RSl 7 RSetD) w c4 x.sets
theorem RRuleD.stab : Stab RRuleD := fun w w' _ _ ⟨c0, c1, c2, c3, c4, h, h0, h1, h2, h3, h4⟩ hb => ⟨c0, c1, c2, c3, c4, h, (RStr.stab) w w' _ _ h0 hb, (RInt.stab) w w' _ _ h1 hb, (RSl.stab RFromD.stab) w w' _ _ h2 hb, (RSl.stab RAtomD.stab) w w' _ _ h3 hb, (RSl.stab RSetD.stab) w w' _ _ h4 hb⟩
def RuleD.wf (x : RuleD) : Prop := x.head.size ≤ maxLen ∧ (Lit.int .i64 x.schema).wf = true
theorem RRuleD.flat {w : World} {cs : List Value} {x : RuleD} (h : RRuleD w cs x) : ∃ (a0 : Option Addr) (k0 : Nat) (a1 : Option Addr) (k1 : Nat) (a2 : Option Addr) (k2 : Nat), cs = [.string x.head, .int .i64 x.schema, .slice a0 x.froms.length k0, .slice a1 x.where_.length k1, .slice a2 x.sets.length k2] ∧ Sl 8 RFromD w a0 x.froms ∧ Sl 11 RAtomD w a1 x.where_ ∧ Sl 7 RSetD w a2 x.sets ∧ x.wf := by
  obtain ⟨c0, c1, c2, c3, c4, rfl, h0, h1, h2, h3, h4⟩ := h
  obtain ⟨rfl, w0⟩ := h0
  obtain ⟨rfl, w1⟩ := h1
  obtain ⟨p2, q2, rfl, s2⟩ := h2
  obtain ⟨p3, q3, rfl, s3⟩ := h3
  obtain ⟨p4, q4, rfl, s4⟩ := h4
  refine ⟨p2, q2, p3, q3, p4, q4, by simp, s2, s3, s4, by simp only [RuleD.wf] at *; grind⟩
theorem RuleD.out {w : World} {a : Option Addr} {l : List RuleD} (H : Sl 5 RRuleD w a l) (i : Nat) (hi : i < l.length) : ∃ (b off : Nat), a = some ⟨b, off, none⟩ ∧ b < w.heap.size ∧ l[i].wf ∧ ∃ (a0 : Option Addr) (k0 : Nat) (a1 : Option Addr) (k1 : Nat) (a2 : Option Addr) (k2 : Nat), w.cell? ⟨b, off + i * 5, none⟩ = some (.string l[i].head) ∧ w.cell? ⟨b, off + i * 5 + 1, none⟩ = some (.int .i64 l[i].schema) ∧ w.cell? ⟨b, off + i * 5 + 2, none⟩ = some (.slice a0 l[i].froms.length k0) ∧ w.cell? ⟨b, off + i * 5 + 3, none⟩ = some (.slice a1 l[i].where_.length k1) ∧ w.cell? ⟨b, off + i * 5 + 4, none⟩ = some (.slice a2 l[i].sets.length k2) ∧ Sl 8 RFromD w a0 l[i].froms ∧ Sl 11 RAtomD w a1 l[i].where_ ∧ Sl 7 RSetD w a2 l[i].sets := by
  obtain ⟨b, off, h1, h2, es, h3, h4⟩ := H i hi
  obtain ⟨a0, k0, a1, k1, a2, k2, rfl, s0, s1, s2, hw⟩ := h3.flat
  exact ⟨b, off, h1, h2, hw, a0, k0, a1, k1, a2, k2, h4 0 (by decide), h4 1 (by decide), h4 2 (by decide), h4 3 (by decide), h4 4 (by decide), s0, s1, s2⟩

structure RefD where
  name : ByteArray
  path : ByteArray
  schema : Int
  field : Int
def RRefD : Rep RefD := fun w cs x => ∃ c0 c1 c2 c3 : List Value, cs = c0 ++ c1 ++ c2 ++ c3 ∧ RStr w c0 x.name ∧ RStr w c1 x.path ∧ RInt w c2 x.schema ∧ RInt w c3 x.field
theorem RRefD.stab : Stab RRefD := fun w w' _ _ ⟨c0, c1, c2, c3, h, h0, h1, h2, h3⟩ hb => ⟨c0, c1, c2, c3, h, (RStr.stab) w w' _ _ h0 hb, (RStr.stab) w w' _ _ h1 hb, (RInt.stab) w w' _ _ h2 hb, (RInt.stab) w w' _ _ h3 hb⟩
def RefD.wf (x : RefD) : Prop := x.name.size ≤ maxLen ∧ x.path.size ≤ maxLen ∧ (Lit.int .i64 x.schema).wf = true ∧ (Lit.int .i64 x.field).wf = true
theorem RRefD.flat {w : World} {cs : List Value} {x : RefD} (h : RRefD w cs x) : cs = [.string x.name, .string x.path, .int .i64 x.schema, .int .i64 x.field] ∧ x.wf := by
  obtain ⟨c0, c1, c2, c3, rfl, h0, h1, h2, h3⟩ := h
  obtain ⟨rfl, w0⟩ := h0
  obtain ⟨rfl, w1⟩ := h1
  obtain ⟨rfl, w2⟩ := h2
  obtain ⟨rfl, w3⟩ := h3
  refine ⟨by simp, by simp only [RefD.wf] at *; grind⟩
theorem RefD.out {w : World} {a : Option Addr} {l : List RefD} (H : Sl 4 RRefD w a l) (i : Nat) (hi : i < l.length) : ∃ (b off : Nat), a = some ⟨b, off, none⟩ ∧ b < w.heap.size ∧ l[i].wf ∧ w.cell? ⟨b, off + i * 4, none⟩ = some (.string l[i].name) ∧ w.cell? ⟨b, off + i * 4 + 1, none⟩ = some (.string l[i].path) ∧ w.cell? ⟨b, off + i * 4 + 2, none⟩ = some (.int .i64 l[i].schema) ∧ w.cell? ⟨b, off + i * 4 + 3, none⟩ = some (.int .i64 l[i].field) := by
  obtain ⟨b, off, h1, h2, es, h3, h4⟩ := H i hi
  obtain ⟨rfl, hw⟩ := h3.flat
  exact ⟨b, off, h1, h2, hw, h4 0 (by decide), h4 1 (by decide), h4 2 (by decide), h4 3 (by decide)⟩

structure PurposeD where
  name : ByteArray
  may : List RefD
  most : Int
def RPurposeD : Rep PurposeD := fun w cs x => ∃ c0 c1 c2 : List Value, cs = c0 ++ c1 ++ c2 ∧ RStr w c0 x.name ∧ (RSl 4 RRefD) w c1 x.may ∧ RInt w c2 x.most
theorem RPurposeD.stab : Stab RPurposeD := fun w w' _ _ ⟨c0, c1, c2, h, h0, h1, h2⟩ hb => ⟨c0, c1, c2, h, (RStr.stab) w w' _ _ h0 hb, (RSl.stab RRefD.stab) w w' _ _ h1 hb, (RInt.stab) w w' _ _ h2 hb⟩
def PurposeD.wf (x : PurposeD) : Prop := x.name.size ≤ maxLen ∧ (Lit.int .i64 x.most).wf = true
theorem RPurposeD.flat {w : World} {cs : List Value} {x : PurposeD} (h : RPurposeD w cs x) : ∃ (a0 : Option Addr) (k0 : Nat), cs = [.string x.name, .slice a0 x.may.length k0, .int .i64 x.most] ∧ Sl 4 RRefD w a0 x.may ∧ x.wf := by
  obtain ⟨c0, c1, c2, rfl, h0, h1, h2⟩ := h
  obtain ⟨rfl, w0⟩ := h0
  obtain ⟨p1, q1, rfl, s1⟩ := h1
  obtain ⟨rfl, w2⟩ := h2
  refine ⟨p1, q1, by simp, s1, by simp only [PurposeD.wf] at *; grind⟩
theorem PurposeD.out {w : World} {a : Option Addr} {l : List PurposeD} (H : Sl 3 RPurposeD w a l) (i : Nat) (hi : i < l.length) : ∃ (b off : Nat), a = some ⟨b, off, none⟩ ∧ b < w.heap.size ∧ l[i].wf ∧ ∃ (a0 : Option Addr) (k0 : Nat), w.cell? ⟨b, off + i * 3, none⟩ = some (.string l[i].name) ∧ w.cell? ⟨b, off + i * 3 + 1, none⟩ = some (.slice a0 l[i].may.length k0) ∧ w.cell? ⟨b, off + i * 3 + 2, none⟩ = some (.int .i64 l[i].most) ∧ Sl 4 RRefD w a0 l[i].may := by
  obtain ⟨b, off, h1, h2, es, h3, h4⟩ := H i hi
  obtain ⟨a0, k0, rfl, s0, hw⟩ := h3.flat
  exact ⟨b, off, h1, h2, hw, a0, k0, h4 0 (by decide), h4 1 (by decide), h4 2 (by decide), s0⟩

structure SourceD where
  issuers : List ByteArray
  units : List UnitD
  schemas : List SchemaD
  rules : List RuleD
  converts : Nat
  purposes : List PurposeD
def RSourceD : Rep SourceD := fun w cs x => ∃ c0 c1 c2 c3 c4 c5 : List Value, cs = c0 ++ c1 ++ c2 ++ c3 ++ c4 ++ c5 ∧ (RSl 1 RStr) w c0 x.issuers ∧ (RSl 5 RUnitD) w c1 x.units ∧ (RSl 6 RSchemaD) w c2 x.schemas ∧ (RSl 5 RRuleD) w c3 x.rules ∧ RRaw w c4 x.converts ∧ (RSl 3 RPurposeD) w c5 x.purposes
theorem RSourceD.stab : Stab RSourceD := fun w w' _ _ ⟨c0, c1, c2, c3, c4, c5, h, h0, h1, h2, h3, h4, h5⟩ hb => ⟨c0, c1, c2, c3, c4, c5, h, (RSl.stab RStr.stab) w w' _ _ h0 hb, (RSl.stab RUnitD.stab) w w' _ _ h1 hb, (RSl.stab RSchemaD.stab) w w' _ _ h2 hb, (RSl.stab RRuleD.stab) w w' _ _ h3 hb, (RRaw.stab) w w' _ _ h4 hb, (RSl.stab RPurposeD.stab) w w' _ _ h5 hb⟩
def SourceD.wf (_ : SourceD) : Prop := True
theorem RSourceD.flat {w : World} {cs : List Value} {x : SourceD} (h : RSourceD w cs x) : ∃ (a0 : Option Addr) (k0 : Nat) (a1 : Option Addr) (k1 : Nat) (a2 : Option Addr) (k2 : Nat) (a3 : Option Addr) (k3 : Nat) (a4 : Option Addr) (k4 : Nat) (a5 : Option Addr) (k5 : Nat), cs = [.slice a0 x.issuers.length k0, .slice a1 x.units.length k1, .slice a2 x.schemas.length k2, .slice a3 x.rules.length k3, .slice a4 x.converts k4, .slice a5 x.purposes.length k5] ∧ Sl 1 RStr w a0 x.issuers ∧ Sl 5 RUnitD w a1 x.units ∧ Sl 6 RSchemaD w a2 x.schemas ∧ Sl 5 RRuleD w a3 x.rules ∧ Sl 3 RPurposeD w a5 x.purposes ∧ x.wf := by
  obtain ⟨c0, c1, c2, c3, c4, c5, rfl, h0, h1, h2, h3, h4, h5⟩ := h
  obtain ⟨p0, q0, rfl, s0⟩ := h0
  obtain ⟨p1, q1, rfl, s1⟩ := h1
  obtain ⟨p2, q2, rfl, s2⟩ := h2
  obtain ⟨p3, q3, rfl, s3⟩ := h3
  obtain ⟨p4, q4, rfl⟩ := h4
  obtain ⟨p5, q5, rfl, s5⟩ := h5
  refine ⟨p0, q0, p1, q1, p2, q2, p3, q3, p4, q4, p5, q5, by simp, s0, s1, s2, s3, s5, trivial⟩
theorem SourceD.out {w : World} {a : Option Addr} {l : List SourceD} (H : Sl 6 RSourceD w a l) (i : Nat) (hi : i < l.length) : ∃ (b off : Nat), a = some ⟨b, off, none⟩ ∧ b < w.heap.size ∧ l[i].wf ∧ ∃ (a0 : Option Addr) (k0 : Nat) (a1 : Option Addr) (k1 : Nat) (a2 : Option Addr) (k2 : Nat) (a3 : Option Addr) (k3 : Nat) (a4 : Option Addr) (k4 : Nat) (a5 : Option Addr) (k5 : Nat), w.cell? ⟨b, off + i * 6, none⟩ = some (.slice a0 l[i].issuers.length k0) ∧ w.cell? ⟨b, off + i * 6 + 1, none⟩ = some (.slice a1 l[i].units.length k1) ∧ w.cell? ⟨b, off + i * 6 + 2, none⟩ = some (.slice a2 l[i].schemas.length k2) ∧ w.cell? ⟨b, off + i * 6 + 3, none⟩ = some (.slice a3 l[i].rules.length k3) ∧ w.cell? ⟨b, off + i * 6 + 4, none⟩ = some (.slice a4 l[i].converts k4) ∧ w.cell? ⟨b, off + i * 6 + 5, none⟩ = some (.slice a5 l[i].purposes.length k5) ∧ Sl 1 RStr w a0 l[i].issuers ∧ Sl 5 RUnitD w a1 l[i].units ∧ Sl 6 RSchemaD w a2 l[i].schemas ∧ Sl 5 RRuleD w a3 l[i].rules ∧ Sl 3 RPurposeD w a5 l[i].purposes := by
  obtain ⟨b, off, h1, h2, es, h3, h4⟩ := H i hi
  obtain ⟨a0, k0, a1, k1, a2, k2, a3, k3, a4, k4, a5, k5, rfl, s0, s1, s2, s3, s4, hw⟩ := h3.flat
  exact ⟨b, off, h1, h2, hw, a0, k0, a1, k1, a2, k2, a3, k3, a4, k4, a5, k5, h4 0 (by decide), h4 1 (by decide), h4 2 (by decide), h4 3 (by decide), h4 4 (by decide), h4 5 (by decide), s0, s1, s2, s3, s4⟩
theorem str_out {w : World} {a : Option Addr} {l : List ByteArray} (H : Sl 1 RStr w a l) (i : Nat) (hi : i < l.length) : ∃ (b off : Nat), a = some ⟨b, off, none⟩ ∧ b < w.heap.size ∧ l[i].size ≤ maxLen ∧ w.cell? ⟨b, off + i, none⟩ = some (.string l[i]) := by
  obtain ⟨b, off, h1, h2, es, ⟨rfl, h3⟩, h4⟩ := H i hi
  exact ⟨b, off, h1, h2, h3, by have := h4 0 (by decide); simpa using this⟩
theorem int_out {w : World} {a : Option Addr} {l : List Int} (H : Sl 1 RInt w a l) (i : Nat) (hi : i < l.length) : ∃ (b off : Nat), a = some ⟨b, off, none⟩ ∧ b < w.heap.size ∧ (Lit.int .i64 l[i]).wf = true ∧ w.cell? ⟨b, off + i, none⟩ = some (.int .i64 l[i]) := by
  obtain ⟨b, off, h1, h2, es, ⟨rfl, h3⟩, h4⟩ := H i hi
  exact ⟨b, off, h1, h2, h3, by have := h4 0 (by decide); simpa using this⟩

end Go.Proofs.Ytogenjbabgibbaa
