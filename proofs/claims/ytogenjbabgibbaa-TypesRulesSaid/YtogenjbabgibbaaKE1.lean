import Derived.Test.YtogenjbabgibbaaKZ8
import Derived.Test.YtogenjbabgibbaaKZ3
import Derived.Test.YtogenjbabgibbaaReps
namespace Go.Proofs.Ytogenjbabgibbaa
open Go.RowKit
def bs (l : List UInt8) : ByteArray := ⟨l.toArray⟩
def selfF : FieldD := { name := ⟨#[115, 101, 108, 102]⟩, ty := { kind := 3, lo := 0, hi := 4095, of_ := ⟨#[]⟩, unit := -1, names := [] }, w0 := 0, w1 := 0, w2 := 0, w3 := 0 }
def numF (hi : Int) : FieldD := { name := ⟨#[110]⟩, ty := { kind := 1, lo := 0, hi := hi, of_ := ⟨#[]⟩, unit := 1, names := [] }, w0 := 0, w1 := 0, w2 := 0, w3 := 0 }
abbrev selfC : Array Value := #[.string ⟨#[115, 101, 108, 102]⟩, .int .i64 3, .int .i64 0, .int .i64 4095, .string ⟨#[]⟩, .int .i64 (-1), .slice none 0 0, .int .i64 0, .int .i64 0, .int .i64 0, .int .i64 0]
abbrev numC (hi : Int) : Array Value := #[.string ⟨#[110]⟩, .int .i64 1, .int .i64 0, .int .i64 hi, .string ⟨#[]⟩, .int .i64 1, .slice none 0 0, .int .i64 0, .int .i64 0, .int .i64 0, .int .i64 0]
set_option maxRecDepth 20000 in
theorem self_any (w : World) : Calls Try.prog 50 #[] w fun e w' => e = .returned (.agg selfC) ∧ Below w.heap.size w w' := by
  go_enter Try.func50, Try.ntmps50
  go_wp2
  refine bodyPost_ret (v := .agg selfC) (by simp [results, Try.f50, go_sem]) rfl ⟨rfl, ?_⟩
  (repeat (first | exact Below.refl _ _ | refine Below.alloc ?_ (by first | (simp; done) | (simp; omega)) _ | refine Below.setCell ?_ (by first | (simp; done) | (simp; omega)) _ | refine below_drewN ?_ _))
set_option maxRecDepth 20000 in
theorem num_any (hi : Int) (w : World) : Calls Try.prog 49 #[.int .i64 hi] w fun e w' => e = .returned (.agg (numC hi)) ∧ Below w.heap.size w w' := by
  go_enter Try.func49, Try.ntmps49
  go_wp2
  refine bodyPost_ret (v := .agg (numC hi)) (by simp [results, Try.f49, go_sem]) rfl ⟨rfl, ?_⟩
  (repeat (first | exact Below.refl _ _ | refine Below.alloc ?_ (by first | (simp; done) | (simp; omega)) _ | refine Below.setCell ?_ (by first | (simp; done) | (simp; omega)) _ | refine below_drewN ?_ _))
theorem blk5 {w w0 : World} {c0 c1 c2 c3 c4 : Array Value} {t0 t1 t2 t3 t4 : TypeId} (h : ((((w.alloc (.cells c0 t0)).alloc (.cells c1 t1)).alloc (.cells c2 t2)).alloc (.cells c3 t3)).alloc (.cells c4 t4) = w0) :
    Blk w0 w.heap.size c0 t0 ∧ Blk w0 (w.heap.size + 1) c1 t1 ∧ Blk w0 (w.heap.size + 2) c2 t2 ∧ Blk w0 (w.heap.size + 3) c3 t3 ∧ Blk w0 (w.heap.size + 4) c4 t4 ∧ w0.heap.size = w.heap.size + 5 ∧ Below w.heap.size w w0 := by
  subst h
  obtain ⟨x0, x1, x2, x3, s0, b0⟩ := blk4 (w := w) (c0 := c0) (t0 := t0) (c1 := c1) (t1 := t1) (c2 := c2) (t2 := t2) (c3 := c3) (t3 := t3) rfl
  have x := Blk.new ((((w.alloc (.cells c0 t0)).alloc (.cells c1 t1)).alloc (.cells c2 t2)).alloc (.cells c3 t3)) c4 t4
  rw [s0] at x
  exact ⟨x0.alloc _, x1.alloc _, x2.alloc _, x3.alloc _, x, by simp, b0.alloc (by simp; try omega) _⟩
/-- a new slice whose array is known whole -/
def SLB (B : Nat) (n : Nat) (c : Array Value) (t : TypeId) (v : Value) (w : World) : Prop := ∃ g, B ≤ g ∧ v = .slice (some ⟨g, 0, none⟩) n n ∧ Blk w g c t
def St (Φ : Value → World → Prop) : Prop := ∀ v w w', Φ v w → Below w.heap.size w w' → Φ v w'
theorem st_const (c : Value) : St (fun v _ => v = c) := fun _ _ _ h _ => h
theorem st_slb (B n : Nat) (c : Array Value) (t : TypeId) : St (SLB B n c t) := fun _ _ _ ⟨g, h1, h2, h3⟩ hb => ⟨g, h1, h2, h3.below hb h3.lt⟩
theorem St.ex {Φ : Value → World → Prop} (h : St Φ) (f : Value → Value) : St (fun v w => ∃ u, v = f u ∧ Φ u w) := fun _ _ _ ⟨u, h1, h2⟩ hb => ⟨u, h1, h _ _ _ h2 hb⟩
theorem St.ex2 {Φ Ψ : Value → World → Prop} (h : St Φ) (h' : St Ψ) (f : Value → Value → Value) : St (fun v w => ∃ u u', v = f u u' ∧ Φ u w ∧ Ψ u' w) := fun _ _ _ ⟨u, u', h1, h2, h3⟩ hb => ⟨u, u', h1, h _ _ _ h2 hb, h' _ _ _ h3 hb⟩
abbrev schC (n : UInt8) (u : Value) : Array Value := #[.string ⟨#[n]⟩, .string ⟨#[]⟩, .int .i64 0, .int .i64 1, u, .slice none 0 0]
/-- the schemas' slice -/
def SCH (B : Nat) (v : Value) (w : World) : Prop := ∃ u u', SLB B 2 (schC 120 u ++ schC 121 u') 57 v w ∧ SLB B 2 (selfC ++ numC 10) 74 u w ∧ SLB B 2 (selfC ++ numC 20) 74 u' w
theorem st_sch (B : Nat) : St (SCH B) := fun _ _ _ ⟨u, u', h1, h2, h3⟩ hb => ⟨u, u', st_slb _ _ _ _ _ _ _ h1 hb, st_slb _ _ _ _ _ _ _ h2 hb, st_slb _ _ _ _ _ _ _ h3 hb⟩
/-- the source -/
def EXV (B : Nat) (r : Array Value) (v : Value) (w : World) : Prop := ∃ a b c d, v = .agg #[a, b, c, d, .slice none 0 0, .slice none 0 0] ∧ SLB B 1 #[.string ⟨#[97]⟩] 9 a w ∧ SLB B 2 #[.string ⟨#[99]⟩, .string ⟨#[]⟩, .int .i64 0, .int .i64 0, .int .i64 1, .string ⟨#[101]⟩, .string ⟨#[99]⟩, .int .i64 100, .int .i64 0, .int .i64 100] 69 b w ∧ SCH B c w ∧ SLB B 1 r 47 d w
theorem st_exv (B : Nat) (r : Array Value) : St (EXV B r) := fun _ _ _ ⟨a, b, c, d, h, h1, h2, h3, h4⟩ hb => ⟨a, b, c, d, h, st_slb _ _ _ _ _ _ _ h1 hb, st_slb _ _ _ _ _ _ _ h2 hb, st_sch _ _ _ _ h3 hb, st_slb _ _ _ _ _ _ _ h4 hb⟩
abbrev fnv (i : Nat) : Value := .func (.func i) #[] #[]
def exPhi (B : Nat) (r : Array Value) : Nat → Value → World → Prop
  | 0 => SLB B 1 #[.string ⟨#[97]⟩] 9
  | 1 => fun v _ => v = .agg #[.string ⟨#[99]⟩, .string ⟨#[]⟩, .int .i64 0, .int .i64 0, .int .i64 1]
  | 2 => fun v _ => v = .agg #[.string ⟨#[101]⟩, .string ⟨#[99]⟩, .int .i64 100, .int .i64 0, .int .i64 100]
  | 3 => SLB B 2 #[.string ⟨#[99]⟩, .string ⟨#[]⟩, .int .i64 0, .int .i64 0, .int .i64 1, .string ⟨#[101]⟩, .string ⟨#[99]⟩, .int .i64 100, .int .i64 0, .int .i64 100] 69
  | 4 => fun v _ => v = .agg selfC
  | 5 => fun v _ => v = fnv 49
  | 6 => fun v _ => v = .agg (numC 10)
  | 7 => SLB B 2 (selfC ++ numC 10) 74
  | 8 => fun v w => ∃ u, v = .agg (schC 120 u) ∧ SLB B 2 (selfC ++ numC 10) 74 u w
  | 9 => fun v _ => v = .agg selfC
  | 10 => fun v _ => v = fnv 49
  | 11 => fun v _ => v = .agg (numC 20)
  | 12 => SLB B 2 (selfC ++ numC 20) 74
  | 13 => fun v w => ∃ u, v = .agg (schC 121 u) ∧ SLB B 2 (selfC ++ numC 20) 74 u w
  | 14 => SCH B
  | 15 => fun v _ => v = .agg r
  | 16 => SLB B 1 r 47
  | 17 => EXV B r
  | _ => fun _ _ => True
theorem exPhi_stab (B : Nat) (r : Array Value) : ∀ i, St (exPhi B r i)
  | 0 => st_slb _ _ _ _
  | 1 => st_const _
  | 2 => st_const _
  | 3 => st_slb _ _ _ _
  | 4 => st_const _
  | 5 => st_const _
  | 6 => st_const _
  | 7 => st_slb _ _ _ _
  | 8 => (st_slb _ _ _ _).ex _
  | 9 => st_const _
  | 10 => st_const _
  | 11 => st_const _
  | 12 => st_slb _ _ _ _
  | 13 => (st_slb _ _ _ _).ex _
  | 14 => st_sch _
  | 15 => st_const _
  | 16 => st_slb _ _ _ _
  | 17 => st_exv _ _
  | _ + 18 => fun _ _ _ _ _ => trivial
set_option maxRecDepth 20000 in
set_option maxHeartbeats 8000000 in
theorem example_any (w : World) : Calls Try.prog 22 #[] w fun e w' => (∃ v, e = .returned v ∧ ∃ g1 g2 g3, w.heap.size ≤ g1 ∧ w.heap.size ≤ g2 ∧ w.heap.size ≤ g3 ∧ EXV (w.heap.size + 1) #[.string ⟨#[]⟩, .int .i64 1, .slice (some ⟨g1, 0, none⟩) 1 1, .slice (some ⟨g2, 0, none⟩) 1 1, .slice (some ⟨g3, 0, none⟩) 1 1] v w' ∧
      Blk w' g1 #[.string ⟨#[]⟩, .string ⟨#[]⟩, .int .i64 0, .string ⟨#[]⟩, .string ⟨#[]⟩, .int .i64 (-1), .int .i64 0, .int .i64 0] 53 ∧
      Blk w' g2 #[.int .i64 2, .string ⟨#[]⟩, .string ⟨#[]⟩, .int .i64 (-1), .int .i64 0, .int .i64 5, .string ⟨#[]⟩, .string ⟨#[]⟩, .int .i64 0, .int .i64 1, .int .i64 0] 63 ∧
      Blk w' g3 #[.string ⟨#[]⟩, .int .i64 1, .string ⟨#[]⟩, .string ⟨#[]⟩, .int .i64 0, .int .i64 1, .int .i64 0] 61) ∧ Below w.heap.size w w' := by
  go_enter Try.func22, Try.ntmps22
  go_wp2_with fail
  generalize hw0 : World.alloc _ _ = w0
  obtain ⟨B0, B1, B2, B3, B4, hsz, hb0⟩ := blk5 hw0
  clear hw0
  obtain ⟨r, hr⟩ : ∃ r : Array Value, r = #[.string ⟨#[]⟩, .int .i64 1, .slice (some ⟨w.heap.size + 1, 0, none⟩) 1 1, .slice (some ⟨w.heap.size + 2, 0, none⟩) 1 1, .slice (some ⟨w.heap.size + 3, 0, none⟩) 1 1] := ⟨_, rfl⟩
  refine wp_region_reps [14, 15, 16, 17, 18, 19, 20, 21, 22, 23, 24, 25, 26, 27, 28, 29, 30, 31] (exPhi (w.heap.size + 1) r) (by kernel_rfl) (by kernel_rfl) (by kernel_rfl) (exPhi_stab _ _) ?_ ?_
  · intro i o hi ho a' w' hb hoth hd
    have hc : ∀ v, a'.eval (.const v) = v := fun _ => rfl
    have hfn : ∀ g, a'.eval (.func g) = fnv g := fun _ => rfl
    have hB : w.heap.size + 1 ≤ w'.heap.size := Nat.le_trans (by omega) hb.size
    generalize a'.eval = E at *
    match i, hi with
    | 0, _ =>
      have ho' := Option.some.inj ho
      subst ho'
      simp [go_sem, hc, repUpon]
      exact ⟨(Below.refl _ _).alloc (Nat.le_refl _) _, ⟨_, hB, rfl, Blk.new _ _ _⟩⟩
    | 1, _ =>
      have ho' := Option.some.inj ho
      subst ho'
      simp [go_sem, hc, repUpon]
      exact ⟨Below.refl _ _, rfl⟩
    | 2, _ =>
      have ho' := Option.some.inj ho
      subst ho'
      simp [go_sem, hc, repUpon]
      exact ⟨Below.refl _ _, rfl⟩
    | 3, _ =>
      have ho' := Option.some.inj ho
      subst ho'
      have d1 : exPhi (w.heap.size + 1) r 1 (E (.tmp 15)) w' := hd ⟨1, .data⟩ (by simp) rfl
      have d2 : exPhi (w.heap.size + 1) r 2 (E (.tmp 16)) w' := hd ⟨2, .data⟩ (by simp) rfl
      simp only [exPhi] at d1 d2
      simp [go_sem, repUpon, d1, d2]
      exact ⟨(Below.refl _ _).alloc (Nat.le_refl _) _, ⟨_, hB, rfl, Blk.new _ _ _⟩⟩
    | 4, _ =>
      have ho' := Option.some.inj ho
      subst ho'
      simp [go_sem, hfn, repUpon]
      exact (self_any w').mono fun e w'' ⟨h1, h2⟩ => ⟨_, h1, h2, rfl⟩
    | 5, _ =>
      have ho' := Option.some.inj ho
      subst ho'
      have o1 : E (.tmp 1) = fnv 49 := hoth 1 (by decide)
      simp [go_sem, repUpon, o1]
      exact ⟨Below.refl _ _, rfl⟩
    | 6, _ =>
      have ho' := Option.some.inj ho
      subst ho'
      have d5 : exPhi (w.heap.size + 1) r 5 (E (.tmp 19)) w' := hd ⟨5, .data⟩ (by simp) rfl
      simp only [exPhi] at d5
      simp [go_sem, hc, repUpon, d5]
      exact (num_any 10 w').mono fun e w'' ⟨h1, h2⟩ => ⟨_, h1, h2, rfl⟩
    | 7, _ =>
      have ho' := Option.some.inj ho
      subst ho'
      have d4 : exPhi (w.heap.size + 1) r 4 (E (.tmp 18)) w' := hd ⟨4, .data⟩ (by simp) rfl
      have d6 : exPhi (w.heap.size + 1) r 6 (E (.tmp 20)) w' := hd ⟨6, .data⟩ (by simp) rfl
      simp only [exPhi] at d4 d6
      simp [go_sem, repUpon, d4, d6]
      exact ⟨(Below.refl _ _).alloc (Nat.le_refl _) _, ⟨_, hB, rfl, Blk.new _ _ _⟩⟩
    | 8, _ =>
      have ho' := Option.some.inj ho
      subst ho'
      have d7 : exPhi (w.heap.size + 1) r 7 (E (.tmp 21)) w' := hd ⟨7, .data⟩ (by simp) rfl
      obtain ⟨g7, hg7, q7, b7⟩ := d7
      simp [go_sem, hc, repUpon, q7]
      exact ⟨Below.refl _ _, ⟨_, rfl, ⟨g7, hg7, rfl, b7⟩⟩⟩
    | 9, _ =>
      have ho' := Option.some.inj ho
      subst ho'
      simp [go_sem, hfn, repUpon]
      exact (self_any w').mono fun e w'' ⟨h1, h2⟩ => ⟨_, h1, h2, rfl⟩
    | 10, _ =>
      have ho' := Option.some.inj ho
      subst ho'
      have o1 : E (.tmp 1) = fnv 49 := hoth 1 (by decide)
      simp [go_sem, repUpon, o1]
      exact ⟨Below.refl _ _, rfl⟩
    | 11, _ =>
      have ho' := Option.some.inj ho
      subst ho'
      have d10 : exPhi (w.heap.size + 1) r 10 (E (.tmp 24)) w' := hd ⟨10, .data⟩ (by simp) rfl
      simp only [exPhi] at d10
      simp [go_sem, hc, repUpon, d10]
      exact (num_any 20 w').mono fun e w'' ⟨h1, h2⟩ => ⟨_, h1, h2, rfl⟩
    | 12, _ =>
      have ho' := Option.some.inj ho
      subst ho'
      have d9 : exPhi (w.heap.size + 1) r 9 (E (.tmp 23)) w' := hd ⟨9, .data⟩ (by simp) rfl
      have d11 : exPhi (w.heap.size + 1) r 11 (E (.tmp 25)) w' := hd ⟨11, .data⟩ (by simp) rfl
      simp only [exPhi] at d9 d11
      simp [go_sem, repUpon, d9, d11]
      exact ⟨(Below.refl _ _).alloc (Nat.le_refl _) _, ⟨_, hB, rfl, Blk.new _ _ _⟩⟩
    | 13, _ =>
      have ho' := Option.some.inj ho
      subst ho'
      have d12 : exPhi (w.heap.size + 1) r 12 (E (.tmp 26)) w' := hd ⟨12, .data⟩ (by simp) rfl
      obtain ⟨g12, hg12, q12, b12⟩ := d12
      simp [go_sem, hc, repUpon, q12]
      exact ⟨Below.refl _ _, ⟨_, rfl, ⟨g12, hg12, rfl, b12⟩⟩⟩
    | 14, _ =>
      have ho' := Option.some.inj ho
      subst ho'
      have d8 : exPhi (w.heap.size + 1) r 8 (E (.tmp 22)) w' := hd ⟨8, .data⟩ (by simp) rfl
      have d13 : exPhi (w.heap.size + 1) r 13 (E (.tmp 27)) w' := hd ⟨13, .data⟩ (by simp) rfl
      obtain ⟨u, q8, h8⟩ := d8
      obtain ⟨u', q13, h13⟩ := d13
      obtain ⟨g7, hg7, q7, b7⟩ := h8
      obtain ⟨g12, hg12, q12, b12⟩ := h13
      subst q7 q12
      simp [go_sem, repUpon, q8, q13]
      exact ⟨(Below.refl _ _).alloc (Nat.le_refl _) _, ⟨_, _, ⟨_, hB, rfl, Blk.new _ _ _⟩, ⟨g7, hg7, rfl, b7.alloc _⟩, ⟨g12, hg12, rfl, b12.alloc _⟩⟩⟩
    | 15, _ =>
      have ho' := Option.some.inj ho
      subst ho'
      have o2 : E (.tmp 2) = .pointer (some ⟨w.heap.size + 1 + 1 + 1 + 1, 0, none⟩) := hoth 2 (by decide)
      have B4' := B4.below hb (by omega)
      have z0 := B4'.cell 0
      have z1 := B4'.cell 1
      have z2 := B4'.cell 2
      have z3 := B4'.cell 3
      have z4 := B4'.cell 4
      simp at z0 z1 z2 z3 z4
      simp [go_sem, repUpon, o2, z0, z1, z2, z3, z4]
      exact ⟨Below.refl _ _, by rw [hr]; rfl⟩
    | 16, _ =>
      have ho' := Option.some.inj ho
      subst ho'
      have d15 : exPhi (w.heap.size + 1) r 15 (E (.tmp 29)) w' := hd ⟨15, .data⟩ (by simp) rfl
      subst hr
      simp only [exPhi] at d15
      simp [go_sem, repUpon, d15]
      exact ⟨(Below.refl _ _).alloc (Nat.le_refl _) _, ⟨_, hB, rfl, Blk.new _ _ _⟩⟩
    | 17, _ =>
      have ho' := Option.some.inj ho
      subst ho'
      have d0 : exPhi (w.heap.size + 1) r 0 (E (.tmp 14)) w' := hd ⟨0, .data⟩ (by simp) rfl
      have d3 : exPhi (w.heap.size + 1) r 3 (E (.tmp 17)) w' := hd ⟨3, .data⟩ (by simp) rfl
      have d14 : exPhi (w.heap.size + 1) r 14 (E (.tmp 28)) w' := hd ⟨14, .data⟩ (by simp) rfl
      have d16 : exPhi (w.heap.size + 1) r 16 (E (.tmp 30)) w' := hd ⟨16, .data⟩ (by simp) rfl
      obtain ⟨g0, hg0, q0, b0⟩ := d0
      obtain ⟨g3, hg3, q3, b3⟩ := d3
      obtain ⟨u, u', h14, k1, k2⟩ := d14
      obtain ⟨g14, hg14, q14, b14⟩ := h14
      obtain ⟨g16, hg16, q16, b16⟩ := d16
      simp [go_sem, repUpon, q0, q3, q14, q16]
      exact ⟨Below.refl _ _, ⟨_, _, _, _, rfl, ⟨g0, hg0, rfl, b0⟩, ⟨g3, hg3, rfl, b3⟩, ⟨u, u', ⟨g14, hg14, rfl, b14⟩, k1, k2⟩, ⟨g16, hg16, rfl, b16⟩⟩⟩

    | i + 18, hi => exact absurd hi (by simp)
  · intro f w' hb hp
    obtain ⟨va, vb, vc, vd, hv, h1, h2, h3, h4⟩ : EXV (w.heap.size + 1) r (f 31) w' := hp 17 (by decide)
    clear hp
    have hst : w'.heap.size ≥ w.heap.size + 5 := by have := hb.size; omega
    obtain ⟨g0, hg0, rfl, b0⟩ := h1
    obtain ⟨g3, hg3, rfl, b3⟩ := h2
    obtain ⟨u, u', ⟨g14, hg14, rfl, b14⟩, ⟨gx, hgx, rfl, bx⟩, ⟨gy, hgy, rfl, by_⟩⟩ := h3
    obtain ⟨g16, hg16, rfl, b16⟩ := h4
    have B0' := B0.below hb (by omega)
    have B1' := B1.below hb (by omega)
    have B2' := B2.below hb (by omega)
    have B3' := B3.below hb (by omega)
    have hbw : Below w.heap.size w w' := hb0.trans (hb.mono hb0.size)
    have HX := Lib.hid (And.intro b0 (And.intro b3 (And.intro b14 (And.intro bx (And.intro by_ (And.intro b16 (And.intro B0' (And.intro B1' (And.intro B2' B3')))))))))
    have z0 := B0'.cell 0
    have z1 := B0'.cell 1
    have z2 := B0'.cell 2
    have z3 := B0'.cell 3
    have z4 := B0'.cell 4
    have z5 := B0'.cell 5
    have y0 := B0'.frozen 0
    have y1 := B0'.frozen 1
    have y2 := B0'.frozen 2
    have y3 := B0'.frozen 3
    have y4 := B0'.frozen 4
    have y5 := B0'.frozen 5
    simp at z0 z1 z2 z3 z4 z5
    have Hbw := Lib.hid hbw
    clear b0 b3 b14 bx by_ b16 B0' B1' B2' B3' B0 B1 B2 B3 B4 hb hb0 hbw
    simp [puts, Act.put]
    rw [hv]
    go_wp2_with fail
    generalize hw4 : World.setCell _ _ _ = w4
    obtain ⟨b0, b3, b14, bx, by_, b16, B0', B1', B2', B3'⟩ := HX.out
    obtain ⟨X0, hoth, hsz2, hbel, hblk⟩ := stored (vs := [.slice (some ⟨g0, 0, none⟩) 1 1, .slice (some ⟨g3, 0, none⟩) 2 2, .slice (some ⟨g14, 0, none⟩) 2 2, .slice (some ⟨g16, 0, none⟩) 1 1, .slice none 0 0, .slice none 0 0]) B0' rfl hw4
    clear hw4 z0 z1 z2 z3 z4 z5
    have z0 := X0.cell 0
    have z1 := X0.cell 1
    have z2 := X0.cell 2
    have z3 := X0.cell 3
    have z4 := X0.cell 4
    have z5 := X0.cell 5
    simp at z0 z1 z2 z3 z4 z5
    refine bodyPost_ret (v := .agg #[.slice (some ⟨g0, 0, none⟩) 1 1, .slice (some ⟨g3, 0, none⟩) 2 2, .slice (some ⟨g14, 0, none⟩) 2 2, .slice (some ⟨g16, 0, none⟩) 1 1, .slice none 0 0, .slice none 0 0]) (by simp [results, Try.f22, go_sem, z0, z1, z2, z3, z4, z5]) rfl ⟨⟨_, rfl, w.heap.size + 1, w.heap.size + 2, w.heap.size + 3, by omega, by omega, by omega, ?_, hblk B1' (by omega), hblk B2' (by omega), hblk B3' (by omega)⟩, Hbw.out.trans (hbel _ (Nat.le_refl _))⟩
    exact ⟨_, _, _, _, rfl, ⟨g0, hg0, rfl, hblk b0 (by omega)⟩, ⟨g3, hg3, rfl, hblk b3 (by omega)⟩, ⟨_, _, ⟨g14, hg14, rfl, hblk b14 (by omega)⟩, ⟨gx, hgx, rfl, hblk bx (by omega)⟩, ⟨gy, hgy, rfl, hblk by_ (by omega)⟩⟩, ⟨g16, hg16, rfl, by rw [← hr]; exact hblk b16 (by omega)⟩⟩
end Go.Proofs.Ytogenjbabgibbaa
