/- TypesValueSpec: for every source, two refs and three numbers the law returns true and leaves its arguments as they were. No condition. -/
import Derived.Test.YtogenjbabgibbaaKL3
import Derived.Test.YtogenjbabgibbaaKF1
namespace Go.Proofs.Ytogenjbabgibbaa
open Go.ChangeShapes Go.WideShapes Go.ChangeAt Go.RowKit
theorem ralike_q (s : SourceD) (p : SrcAt) (ra rb : RefD) (w : World) (hs : Src w s p) (hsh : Short s) (r : Bool) (hr : alikeB s ra rb = r) :
    Calls Try.prog 18 #[s.val p, ra.val, rb.val] w fun e w' => e = .returned (.bool r) ∧ Below w.heap.size w w' := by
  subst hr
  exact ralike_any s p ra rb w hs hsh
theorem value_q (s : SourceD) (p : SrcAt) (i j v : Int) (w : World) (hs : Src w s p) (hsh : Short s) (r : Bool) (hr : valueB s i j v = r) :
    Calls Try.prog 15 #[s.val p, .int .i64 i, .int .i64 j, .int .i64 v] w fun e w' => e = .returned (.bool r) ∧ Below w.heap.size w w' := by
  subst hr
  exact value_any s p i j v w hs hsh
theorem rvalue_q (s : SourceD) (p : SrcAt) (i j v : Int) (w : World) (hs : Src w s p) (hsh : Short s) (r : Bool) (hr : valueB s i j v = r) :
    Calls Try.prog 16 #[s.val p, .int .i64 i, .int .i64 j, .int .i64 v] w fun e w' => e = .returned (.bool r) ∧ Below w.heap.size w w' := by
  subst hr
  exact rvalue_any s p i j v w hs hsh
theorem compare_q (op a b : Int) (w : World) (r : Bool) (hr : compareB op a b = r) :
    Calls Try.prog 19 #[.int .i64 op, .int .i64 a, .int .i64 b] w fun e w' => e = .returned (.bool r) ∧ Below w.heap.size w w' := by
  subst hr
  exact compare_any op a b w
theorem rcompare_q (op a b : Int) (w : World) (r : Bool) (hr : compareB op a b = r) :
    Calls Try.prog 20 #[.int .i64 op, .int .i64 a, .int .i64 b] w fun e w' => e = .returned (.bool r) ∧ Below w.heap.size w w' := by
  subst hr
  exact rcompare_any op a b w
namespace typesValueSpec
set_option maxRecDepth 20000 in
set_option maxHeartbeats 4000000 in
theorem walk_few (s : SourceD) (p : SrcAt) (ra rb : RefD) (v op o : Int) (w : World) (hs : Src w s p) (hn : Lens s) (hfew : fewB s = false) :
    Calls Try.prog 4 #[s.val p, ra.val, rb.val, .int .i64 v, .int .i64 op, .int .i64 o] w fun e w' => e = .returned (.bool true) ∧ Below w.heap.size w w' := by
  obtain ⟨a0, k0, a1, k1, a2, k2, a3, k3, a4, k4, a5, k5⟩ := p
  have Hs := Lib.hid hs
  clear hs
  go_enter Try.func4, Try.ntmps4
  go_wp2_with fail
  generalize hw0 : World.alloc _ _ = w0
  obtain ⟨X0, X1, X2, hsz, hb0⟩ := blk3 hw0
  have x0 : w0.cell? ⟨w.heap.size, 0, none⟩ = some (.slice a0 s.issuers.length k0) := X0.cell 0
  have x1 : w0.cell? ⟨w.heap.size, 1, none⟩ = some (.slice a1 s.units.length k1) := X0.cell 1
  have x2 : w0.cell? ⟨w.heap.size, 2, none⟩ = some (.slice a2 s.schemas.length k2) := X0.cell 2
  have x3 : w0.cell? ⟨w.heap.size, 3, none⟩ = some (.slice a3 s.rules.length k3) := X0.cell 3
  have x4 : w0.cell? ⟨w.heap.size, 4, none⟩ = some (.slice a4 s.converts k4) := X0.cell 4
  have x5 : w0.cell? ⟨w.heap.size, 5, none⟩ = some (.slice a5 s.purposes.length k5) := X0.cell 5
  have hl_x : w.heap.size < w0.heap.size := by omega
  have p0 : w0.cell? ⟨w.heap.size + 1, 0, none⟩ = some (.string ra.name) := X1.cell 0
  have p1 : w0.cell? ⟨w.heap.size + 1, 1, none⟩ = some (.string ra.path) := X1.cell 1
  have p2 : w0.cell? ⟨w.heap.size + 1, 2, none⟩ = some (.int .i64 ra.schema) := X1.cell 2
  have p3 : w0.cell? ⟨w.heap.size + 1, 3, none⟩ = some (.int .i64 ra.field) := X1.cell 3
  have hl_p : w.heap.size + 1 < w0.heap.size := by omega
  have q0 : w0.cell? ⟨w.heap.size + 1 + 1, 0, none⟩ = some (.string rb.name) := X2.cell 0
  have q1 : w0.cell? ⟨w.heap.size + 1 + 1, 1, none⟩ = some (.string rb.path) := X2.cell 1
  have q2 : w0.cell? ⟨w.heap.size + 1 + 1, 2, none⟩ = some (.int .i64 rb.schema) := X2.cell 2
  have q3 : w0.cell? ⟨w.heap.size + 1 + 1, 3, none⟩ = some (.int .i64 rb.field) := X2.cell 3
  have hl_q : w.heap.size + 1 + 1 < w0.heap.size := by omega
  have hwl : w.heap.size ≤ w0.heap.size := hb0.size
  have Hb := Lib.hid hb0
  clear hw0 hb0 hsz X0 X1 X2
  refine (sane_any _).mono ?_
  rintro e w1 ⟨rfl, hb1⟩
  replace x0 := cell_kept hb1 x0 hl_x
  replace x1 := cell_kept hb1 x1 hl_x
  replace x2 := cell_kept hb1 x2 hl_x
  replace x3 := cell_kept hb1 x3 hl_x
  replace x4 := cell_kept hb1 x4 hl_x
  replace x5 := cell_kept hb1 x5 hl_x
  replace p0 := cell_kept hb1 p0 hl_p
  replace p1 := cell_kept hb1 p1 hl_p
  replace p2 := cell_kept hb1 p2 hl_p
  replace p3 := cell_kept hb1 p3 hl_p
  replace q0 := cell_kept hb1 q0 hl_q
  replace q1 := cell_kept hb1 q1 hl_q
  replace q2 := cell_kept hb1 q2 hl_q
  replace q3 := cell_kept hb1 q3 hl_q
  replace Hb := Lib.hid (Hb.out.trans (hb1.mono hwl))
  replace hl_x := Nat.lt_of_lt_of_le hl_x hb1.size
  replace hl_p := Nat.lt_of_lt_of_le hl_p hb1.size
  replace hl_q := Nat.lt_of_lt_of_le hl_q hb1.size
  replace hwl := Nat.le_trans hwl hb1.size
  clear hb1
  go_wp2_with fail
  refine (few_q s ⟨a0, k0, a1, k1, a2, k2, a3, k3, a4, k4, a5, k5⟩ _ (Hs.out.below Hb.out) hn false hfew).mono ?_
  rintro e w2 ⟨rfl, hb1⟩
  replace x0 := cell_kept hb1 x0 hl_x
  replace x1 := cell_kept hb1 x1 hl_x
  replace x2 := cell_kept hb1 x2 hl_x
  replace x3 := cell_kept hb1 x3 hl_x
  replace x4 := cell_kept hb1 x4 hl_x
  replace x5 := cell_kept hb1 x5 hl_x
  replace p0 := cell_kept hb1 p0 hl_p
  replace p1 := cell_kept hb1 p1 hl_p
  replace p2 := cell_kept hb1 p2 hl_p
  replace p3 := cell_kept hb1 p3 hl_p
  replace q0 := cell_kept hb1 q0 hl_q
  replace q1 := cell_kept hb1 q1 hl_q
  replace q2 := cell_kept hb1 q2 hl_q
  replace q3 := cell_kept hb1 q3 hl_q
  replace Hb := Lib.hid (Hb.out.trans (hb1.mono hwl))
  replace hl_x := Nat.lt_of_lt_of_le hl_x hb1.size
  replace hl_p := Nat.lt_of_lt_of_le hl_p hb1.size
  replace hl_q := Nat.lt_of_lt_of_le hl_q hb1.size
  replace hwl := Nat.le_trans hwl hb1.size
  clear hb1
  go_wp2
  go_ret
  exact ⟨by first | rfl | simp, Hb.out⟩

set_option maxRecDepth 20000 in
set_option maxHeartbeats 8000000 in
theorem walk_ok (s : SourceD) (p : SrcAt) (ra rb : RefD) (v op o : Int) (w : World) (hs : Src w s p) (hn : Lens s) (hfew : fewB s = true) (n er : Int) (val al co : Bool)
    (hba : baseV s ra v = (n, er)) (hva : valueB s ra.schema ra.field v = val) (hal : alikeB s ra rb = al) (hco : compareB op v o = co) :
    Calls Try.prog 4 #[s.val p, ra.val, rb.val, .int .i64 v, .int .i64 op, .int .i64 o] w fun e w' => e = .returned (.bool true) ∧ Below w.heap.size w w' := by
  have hsh := (few_of hfew).short
  have Hba := Lib.hid hba
  have Hva := Lib.hid hva
  have Hal := Lib.hid hal
  have Hco := Lib.hid hco
  clear hba hva hal hco
  obtain ⟨a0, k0, a1, k1, a2, k2, a3, k3, a4, k4, a5, k5⟩ := p
  have Hs := Lib.hid hs
  clear hs
  go_enter Try.func4, Try.ntmps4
  go_wp2_with fail
  generalize hw0 : World.alloc _ _ = w0
  obtain ⟨X0, X1, X2, hsz, hb0⟩ := blk3 hw0
  have x0 : w0.cell? ⟨w.heap.size, 0, none⟩ = some (.slice a0 s.issuers.length k0) := X0.cell 0
  have x1 : w0.cell? ⟨w.heap.size, 1, none⟩ = some (.slice a1 s.units.length k1) := X0.cell 1
  have x2 : w0.cell? ⟨w.heap.size, 2, none⟩ = some (.slice a2 s.schemas.length k2) := X0.cell 2
  have x3 : w0.cell? ⟨w.heap.size, 3, none⟩ = some (.slice a3 s.rules.length k3) := X0.cell 3
  have x4 : w0.cell? ⟨w.heap.size, 4, none⟩ = some (.slice a4 s.converts k4) := X0.cell 4
  have x5 : w0.cell? ⟨w.heap.size, 5, none⟩ = some (.slice a5 s.purposes.length k5) := X0.cell 5
  have hl_x : w.heap.size < w0.heap.size := by omega
  have p0 : w0.cell? ⟨w.heap.size + 1, 0, none⟩ = some (.string ra.name) := X1.cell 0
  have p1 : w0.cell? ⟨w.heap.size + 1, 1, none⟩ = some (.string ra.path) := X1.cell 1
  have p2 : w0.cell? ⟨w.heap.size + 1, 2, none⟩ = some (.int .i64 ra.schema) := X1.cell 2
  have p3 : w0.cell? ⟨w.heap.size + 1, 3, none⟩ = some (.int .i64 ra.field) := X1.cell 3
  have hl_p : w.heap.size + 1 < w0.heap.size := by omega
  have q0 : w0.cell? ⟨w.heap.size + 1 + 1, 0, none⟩ = some (.string rb.name) := X2.cell 0
  have q1 : w0.cell? ⟨w.heap.size + 1 + 1, 1, none⟩ = some (.string rb.path) := X2.cell 1
  have q2 : w0.cell? ⟨w.heap.size + 1 + 1, 2, none⟩ = some (.int .i64 rb.schema) := X2.cell 2
  have q3 : w0.cell? ⟨w.heap.size + 1 + 1, 3, none⟩ = some (.int .i64 rb.field) := X2.cell 3
  have hl_q : w.heap.size + 1 + 1 < w0.heap.size := by omega
  have hwl : w.heap.size ≤ w0.heap.size := hb0.size
  have Hb := Lib.hid hb0
  clear hw0 hb0 hsz X0 X1 X2
  refine (sane_any _).mono ?_
  rintro e w1 ⟨rfl, hb1⟩
  replace x0 := cell_kept hb1 x0 hl_x
  replace x1 := cell_kept hb1 x1 hl_x
  replace x2 := cell_kept hb1 x2 hl_x
  replace x3 := cell_kept hb1 x3 hl_x
  replace x4 := cell_kept hb1 x4 hl_x
  replace x5 := cell_kept hb1 x5 hl_x
  replace p0 := cell_kept hb1 p0 hl_p
  replace p1 := cell_kept hb1 p1 hl_p
  replace p2 := cell_kept hb1 p2 hl_p
  replace p3 := cell_kept hb1 p3 hl_p
  replace q0 := cell_kept hb1 q0 hl_q
  replace q1 := cell_kept hb1 q1 hl_q
  replace q2 := cell_kept hb1 q2 hl_q
  replace q3 := cell_kept hb1 q3 hl_q
  replace Hb := Lib.hid (Hb.out.trans (hb1.mono hwl))
  replace hl_x := Nat.lt_of_lt_of_le hl_x hb1.size
  replace hl_p := Nat.lt_of_lt_of_le hl_p hb1.size
  replace hl_q := Nat.lt_of_lt_of_le hl_q hb1.size
  replace hwl := Nat.le_trans hwl hb1.size
  clear hb1
  go_wp2_with fail
  refine (few_q s ⟨a0, k0, a1, k1, a2, k2, a3, k3, a4, k4, a5, k5⟩ _ (Hs.out.below Hb.out) hn true hfew).mono ?_
  rintro e w2 ⟨rfl, hb1⟩
  replace x0 := cell_kept hb1 x0 hl_x
  replace x1 := cell_kept hb1 x1 hl_x
  replace x2 := cell_kept hb1 x2 hl_x
  replace x3 := cell_kept hb1 x3 hl_x
  replace x4 := cell_kept hb1 x4 hl_x
  replace x5 := cell_kept hb1 x5 hl_x
  replace p0 := cell_kept hb1 p0 hl_p
  replace p1 := cell_kept hb1 p1 hl_p
  replace p2 := cell_kept hb1 p2 hl_p
  replace p3 := cell_kept hb1 p3 hl_p
  replace q0 := cell_kept hb1 q0 hl_q
  replace q1 := cell_kept hb1 q1 hl_q
  replace q2 := cell_kept hb1 q2 hl_q
  replace q3 := cell_kept hb1 q3 hl_q
  replace Hb := Lib.hid (Hb.out.trans (hb1.mono hwl))
  replace hl_x := Nat.lt_of_lt_of_le hl_x hb1.size
  replace hl_p := Nat.lt_of_lt_of_le hl_p hb1.size
  replace hl_q := Nat.lt_of_lt_of_le hl_q hb1.size
  replace hwl := Nat.le_trans hwl hb1.size
  clear hb1

  go_wp2_with fail
  refine (base_any s ⟨a0, k0, a1, k1, a2, k2, a3, k3, a4, k4, a5, k5⟩ ra v _ (Hs.out.below Hb.out) hsh).mono ?_
  rw [Hba.out]
  rintro e w3 ⟨rfl, hb1⟩
  replace x0 := cell_kept hb1 x0 hl_x
  replace x1 := cell_kept hb1 x1 hl_x
  replace x2 := cell_kept hb1 x2 hl_x
  replace x3 := cell_kept hb1 x3 hl_x
  replace x4 := cell_kept hb1 x4 hl_x
  replace x5 := cell_kept hb1 x5 hl_x
  replace p0 := cell_kept hb1 p0 hl_p
  replace p1 := cell_kept hb1 p1 hl_p
  replace p2 := cell_kept hb1 p2 hl_p
  replace p3 := cell_kept hb1 p3 hl_p
  replace q0 := cell_kept hb1 q0 hl_q
  replace q1 := cell_kept hb1 q1 hl_q
  replace q2 := cell_kept hb1 q2 hl_q
  replace q3 := cell_kept hb1 q3 hl_q
  replace Hb := Lib.hid (Hb.out.trans (hb1.mono hwl))
  replace hl_x := Nat.lt_of_lt_of_le hl_x hb1.size
  replace hl_p := Nat.lt_of_lt_of_le hl_p hb1.size
  replace hl_q := Nat.lt_of_lt_of_le hl_q hb1.size
  replace hwl := Nat.le_trans hwl hb1.size
  clear hb1
  go_wp2_with fail
  refine (rbase_any s ⟨a0, k0, a1, k1, a2, k2, a3, k3, a4, k4, a5, k5⟩ ra v _ (Hs.out.below Hb.out) hsh).mono ?_
  rw [Hba.out]
  rintro e w4 ⟨rfl, hb1⟩
  replace x0 := cell_kept hb1 x0 hl_x
  replace x1 := cell_kept hb1 x1 hl_x
  replace x2 := cell_kept hb1 x2 hl_x
  replace x3 := cell_kept hb1 x3 hl_x
  replace x4 := cell_kept hb1 x4 hl_x
  replace x5 := cell_kept hb1 x5 hl_x
  replace p0 := cell_kept hb1 p0 hl_p
  replace p1 := cell_kept hb1 p1 hl_p
  replace p2 := cell_kept hb1 p2 hl_p
  replace p3 := cell_kept hb1 p3 hl_p
  replace q0 := cell_kept hb1 q0 hl_q
  replace q1 := cell_kept hb1 q1 hl_q
  replace q2 := cell_kept hb1 q2 hl_q
  replace q3 := cell_kept hb1 q3 hl_q
  replace Hb := Lib.hid (Hb.out.trans (hb1.mono hwl))
  replace hl_x := Nat.lt_of_lt_of_le hl_x hb1.size
  replace hl_p := Nat.lt_of_lt_of_le hl_p hb1.size
  replace hl_q := Nat.lt_of_lt_of_le hl_q hb1.size
  replace hwl := Nat.le_trans hwl hb1.size
  clear hb1
  go_wp2_with fail
  refine wp_region_grown (by kernel_rfl) (by kernel_rfl) ?_
  repeat (go_big_quiet_step (first | (go_at_call 15; exact calls_grown (value_q s ⟨a0, k0, a1, k1, a2, k2, a3, k3, a4, k4, a5, k5⟩ ra.schema ra.field v _ (Hs.out.below (Hb.out.trans ((grown_below _ _).mono hwl))) hsh val Hva.out)) | (go_at_call 16; exact calls_grown (rvalue_q s ⟨a0, k0, a1, k1, a2, k2, a3, k3, a4, k4, a5, k5⟩ ra.schema ra.field v _ (Hs.out.below (Hb.out.trans ((grown_below _ _).mono hwl))) hsh val Hva.out)) | (go_at_call 17; exact calls_grown (alike_eq s ⟨a0, k0, a1, k1, a2, k2, a3, k3, a4, k4, a5, k5⟩ ra rb _ (Hs.out.below (Hb.out.trans ((grown_below _ _).mono hwl))) hsh al Hal.out)) | (go_at_call 18; exact calls_grown (ralike_q s ⟨a0, k0, a1, k1, a2, k2, a3, k3, a4, k4, a5, k5⟩ ra rb _ (Hs.out.below (Hb.out.trans ((grown_below _ _).mono hwl))) hsh al Hal.out)) | (go_at_call 19; exact calls_grown (compare_q op v o _ co Hco.out)) | (go_at_call 20; exact calls_grown (rcompare_q op v o _ co Hco.out))))
  refine wpQuiet_nil ?_
  intro w5 hw0
  have hb1 : Below w4.heap.size w4 w5 := by obtain ⟨n, rfl⟩ := hw0; exact grown_below _ n
  clear hw0
  replace x0 := cell_kept hb1 x0 hl_x
  replace x1 := cell_kept hb1 x1 hl_x
  replace x2 := cell_kept hb1 x2 hl_x
  replace x3 := cell_kept hb1 x3 hl_x
  replace x4 := cell_kept hb1 x4 hl_x
  replace x5 := cell_kept hb1 x5 hl_x
  replace p0 := cell_kept hb1 p0 hl_p
  replace p1 := cell_kept hb1 p1 hl_p
  replace p2 := cell_kept hb1 p2 hl_p
  replace p3 := cell_kept hb1 p3 hl_p
  replace q0 := cell_kept hb1 q0 hl_q
  replace q1 := cell_kept hb1 q1 hl_q
  replace q2 := cell_kept hb1 q2 hl_q
  replace q3 := cell_kept hb1 q3 hl_q
  replace Hb := Lib.hid (Hb.out.trans (hb1.mono hwl))
  replace hl_x := Nat.lt_of_lt_of_le hl_x hb1.size
  replace hl_p := Nat.lt_of_lt_of_le hl_p hb1.size
  replace hl_q := Nat.lt_of_lt_of_le hl_q hb1.size
  replace hwl := Nat.le_trans hwl hb1.size
  clear hb1
  go_wp2
  go_ret
  exact ⟨by first | rfl | simp, Hb.out⟩

theorem walk (s : SourceD) (p : SrcAt) (ra rb : RefD) (v op o : Int) (w : World) (hs : Src w s p) (hn : Lens s) (_ : (Lit.int .i64 v).wf = true) (_ : (Lit.int .i64 op).wf = true) (_ : (Lit.int .i64 o).wf = true) :
    Calls Try.prog 4 #[s.val p, ra.val, rb.val, .int .i64 v, .int .i64 op, .int .i64 o] w fun e w' => e = .returned (.bool true) ∧ Below w.heap.size w w' := by
  cases hfew : fewB s with
  | false => exact walk_few s p ra rb v op o w hs hn hfew
  | true => exact walk_ok s p ra rb v op o w hs hn hfew _ _ _ _ _ rfl rfl rfl rfl

theorem own : ownKnob Try.prog.godebug = none := by kernel_rfl
theorem laidOut : laidOutB Try.prog = true := by kernel_rfl
set_option maxRecDepth 100000 in
theorem lifted (os : Os) (started : os.Started) (H : Type) (enc : TypeId × Value → H) :
    ReturnsInHanded {} Try.checked os 4 .any (Rows.typesValueSpecSpec.pre6 enc Try.prog Try.f4 Rows.typesValueSpecRow.domain false) (Rows.typesValueSpecSpec.post enc Try.prog Try.f4 false true false false) := by
  refine returnsInHanded_of_change (C := Try.checked) own started (by kernel_rfl) Try.func4
    (ChangeSpec.witness6 (enc := enc) (C := Try.checked) false ⟨#[], #[.agg #[.slice none 0 0, .slice none 0 0, .slice none 0 0, .slice none 0 0, .slice none 0 0, .slice none 0 0], .agg #[.string ⟨#[]⟩, .string ⟨#[]⟩, .int .i64 0, .int .i64 0], .agg #[.string ⟨#[]⟩, .string ⟨#[]⟩, .int .i64 0, .int .i64 0], .int .i64 0, .int .i64 0, .int .i64 0], []⟩ 8 (by kernel_rfl) (by kernel_rfl) (by kernel_rfl) (by kernel_rfl)) ?_
  intro W base args ds gs before hval0 hW hcnd _
  have hval : ∀ (j : Nat) t v, Try.f4.params[j]? = some t → args[j]? = some v → Value.okWide Try.prog W .any base t v := hval0
  have hW' := hW
  obtain ⟨p, q, hA0, hV, rfl, hfz, hnd⟩ := hW
  have hA : DataW.TrodAll enc Try.prog W 0 (fun _ => true) true Try.f4.params.toList args.toList ds p := hA0
  rw [Try.params4] at hA hval
  obtain ⟨v0, vs0, d0, ds0, p0, q0, hargs, rfl, rfl, h0, r0⟩ := trodAll_cons hA
  obtain ⟨v1, vs1, d1, ds1, p1, q1, rfl, rfl, rfl, h1, r1⟩ := trodAll_cons r0
  obtain ⟨v2, vs2, d2, ds2, p2, q2, rfl, rfl, rfl, h2, r2⟩ := trodAll_cons r1
  obtain ⟨v3, vs3, d3, ds3, p3, q3, rfl, rfl, rfl, h3, r3⟩ := trodAll_cons r2
  obtain ⟨v4, vs4, d4, ds4, p4, q4, rfl, rfl, rfl, h4, r4⟩ := trodAll_cons r3
  obtain ⟨v5, vs5, d5, ds5, p5, q5, rfl, rfl, rfl, h5, r5⟩ := trodAll_cons r4
  obtain ⟨rfl, rfl, rfl⟩ := trodAll_nil r5
  obtain rfl : args = #[v0, v1, v2, v3, v4, v5] := by cases args; simp_all
  obtain ⟨rfl, rfl⟩ := trodVars_none hV
  have k0 := h0
  have lt0 : ∀ x ∈ p0, x.block < W.heap.size := by obtain ⟨m, hm⟩ := k0; exact DataW.trod_lt m _ _ _ hm
  obtain ⟨s0, at0, rfl, hs0, hn0⟩ := open_source (hval 0 29 v0 rfl rfl) h0
  have k1 := h1
  have lt1 : ∀ x ∈ p1, x.block < W.heap.size := by obtain ⟨m, hm⟩ := k1; exact DataW.trod_lt m _ _ _ hm
  obtain ⟨r1_, rfl⟩ := open_ref (hval 1 35 v1 rfl rfl) h1
  have k2 := h2
  have lt2 : ∀ x ∈ p2, x.block < W.heap.size := by obtain ⟨m, hm⟩ := k2; exact DataW.trod_lt m _ _ _ hm
  obtain ⟨r2_, rfl⟩ := open_ref (hval 2 35 v2 rfl rfl) h2
  have k3 := h3
  have lt3 : ∀ x ∈ p3, x.block < W.heap.size := by obtain ⟨m, hm⟩ := k3; exact DataW.trod_lt m _ _ _ hm
  obtain ⟨z3, rfl, rfl, rfl, wf3⟩ := open_int Try.underlying3 (hval 3 3 v3 rfl rfl) h3
  have k4 := h4
  have lt4 : ∀ x ∈ p4, x.block < W.heap.size := by obtain ⟨m, hm⟩ := k4; exact DataW.trod_lt m _ _ _ hm
  obtain ⟨z4, rfl, rfl, rfl, wf4⟩ := open_int Try.underlying3 (hval 4 3 v4 rfl rfl) h4
  have k5 := h5
  have lt5 : ∀ x ∈ p5, x.block < W.heap.size := by obtain ⟨m, hm⟩ := k5; exact DataW.trod_lt m _ _ _ hm
  obtain ⟨z5, rfl, rfl, rfl, wf5⟩ := open_int Try.underlying3 (hval 5 3 v5 rfl rfl) h5
  clear hA0 hval0
  refine (walk s0 at0 r1_ r2_ z3 z4 z5 W hs0 hn0 wf3 wf4 wf5).mono fun e W' ⟨he, bel⟩ => ?_
  subst he
  exact ⟨_, rfl, _, _, _, [], _, [], hW', trodAll_mk1 (shut_bool Try.underlying4 _), (trodAll_cons_mk (Below.trod laidOut (by kernel_rfl) (of_decide_eq_true (by kernel_rfl)) k0 bel lt0) (trodAll_cons_mk (Below.trod laidOut (by kernel_rfl) (of_decide_eq_true (by kernel_rfl)) k1 bel lt1) (trodAll_cons_mk (Below.trod laidOut (by kernel_rfl) (of_decide_eq_true (by kernel_rfl)) k2 bel lt2) (trodAll_cons_mk (Below.trod laidOut (by kernel_rfl) (of_decide_eq_true (by kernel_rfl)) k3 bel lt3) (trodAll_cons_mk (Below.trod laidOut (by kernel_rfl) (of_decide_eq_true (by kernel_rfl)) k4 bel lt4) (trodAll_cons_mk (Below.trod laidOut (by kernel_rfl) (of_decide_eq_true (by kernel_rfl)) k5 bel lt5) trodAll_mk0)))))), rfl, bel.frame _, fun h => by cases h⟩

theorem over : Rows.typesValueSpecRow.holds Try.pinned (OpenSpec.ofChange Rows.typesValueSpecSpec) :=
  OpenClaim.holds_of_wide 4 Try.f4 rfl rfl rfl rfl rfl rfl rfl ⟨rfl, rfl, rfl, rfl, rfl⟩ rfl rfl rfl rfl rfl (by kernel_rfl) Try.func4 (by kernel_rfl)
    (of_decide_eq_true (by kernel_rfl)) (by unfold Func.isWrapper; first | (rw [if_pos (by decide +kernel)]; kernel_rfl) | (rw [if_neg (by decide +kernel)]; exact ⟨rfl, rfl⟩))
    (fun os started H enc _ => lifted os started H enc)
end typesValueSpec
theorem typesValueSpec_holds : Rows.TypesValueSpecSaid := typesValueSpec.over
#print axioms typesValueSpec_holds
end Go.Proofs.Ytogenjbabgibbaa

