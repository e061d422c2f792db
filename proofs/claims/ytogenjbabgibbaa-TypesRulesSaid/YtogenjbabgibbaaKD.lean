import Derived.Test.YtogenjbabgibbaaKC
namespace Go.Proofs.Ytogenjbabgibbaa
open Go.RowKit

set_option maxRecDepth 20000 in
set_option maxHeartbeats 4000000 in
theorem typeOK_1 (s : SourceD) (p : SrcAt) (lo hi un : Int) (of_ : ByteArray) (names : List ByteArray) (an : Option Addr) (kn : Nat) (w : World) (r : Bool)
    (hc : ∀ w', Below w.heap.size w w' → Calls Try.prog 79 #[.agg #[.int .i64 1, .int .i64 lo, .int .i64 hi, .string of_, .int .i64 un, .slice an names.length kn], .int .i64 s.units.length] w' fun e w'' => e = .returned (.bool r) ∧ Below w'.heap.size w' w'') :
    Calls Try.prog 41 #[s.val p, .agg #[.int .i64 1, .int .i64 lo, .int .i64 hi, .string of_, .int .i64 un, .slice an names.length kn]] w fun e w' => e = .returned (.bool r) ∧ Below w.heap.size w w' := by
  have Hc := Lib.hid hc
  clear hc
  have hb0 := Lib.hid (alloc2 w #[.slice p.a0 s.issuers.length p.k0, .slice p.a1 s.units.length p.k1, .slice p.a2 s.schemas.length p.k2, .slice p.a3 s.rules.length p.k3, .slice p.a4 s.converts p.k4, .slice p.a5 s.purposes.length p.k5] #[.int .i64 1, .int .i64 lo, .int .i64 hi, .string of_, .int .i64 un, .slice an names.length kn] 81 71)
  go_enter Try.func41, Try.ntmps41
  go_wp2_with fail
  obtain ⟨w0, hw0⟩ : ∃ w0 : World, w0 = ((w.alloc (.cells #[.slice p.a0 s.issuers.length p.k0, .slice p.a1 s.units.length p.k1, .slice p.a2 s.schemas.length p.k2, .slice p.a3 s.rules.length p.k3, .slice p.a4 s.converts p.k4, .slice p.a5 s.purposes.length p.k5] 81)).alloc (.cells #[.int .i64 1, .int .i64 lo, .int .i64 hi, .string of_, .int .i64 un, .slice an names.length kn] 71)) := ⟨_, rfl⟩
  have hsz : w0.heap.size = w.heap.size + 2 := by rw [hw0]; simp
  have X1 : Blk w0 w.heap.size #[.slice p.a0 s.issuers.length p.k0, .slice p.a1 s.units.length p.k1, .slice p.a2 s.schemas.length p.k2, .slice p.a3 s.rules.length p.k3, .slice p.a4 s.converts p.k4, .slice p.a5 s.purposes.length p.k5] 81 := by rw [hw0]; exact (Blk.new _ _ _).alloc _
  have X2 : Blk w0 (w.heap.size + 1) #[.int .i64 1, .int .i64 lo, .int .i64 hi, .string of_, .int .i64 un, .slice an names.length kn] 71 := by rw [hw0]; have := Blk.new (w.alloc (.cells #[.slice p.a0 s.issuers.length p.k0, .slice p.a1 s.units.length p.k1, .slice p.a2 s.schemas.length p.k2, .slice p.a3 s.rules.length p.k3, .slice p.a4 s.converts p.k4, .slice p.a5 s.purposes.length p.k5] 81)) #[.int .i64 1, .int .i64 lo, .int .i64 hi, .string of_, .int .i64 un, .slice an names.length kn] 71; simpa using this
  rw [← hw0] at hb0 ⊢
  clear hw0
  have hix : ∀ w' : World, (Instr.index 116 (.agg #[.nilFunc, fnK 79, fnK 80, fnK 81, fnK 82]) (.int .i64 1)).run Try.prog w' = .ok (fnK 79) w' := fun w' => by kernel_rfl
  have x1 := X1.cell 1
  have y0 := X2.cell 0
  have y1 := X2.cell 1
  have y2 := X2.cell 2
  have y3 := X2.cell 3
  have y4 := X2.cell 4
  have y5 := X2.cell 5
  simp at x1 y0 y1 y2 y3 y4 y5
  have X1 := Lib.hid X1
  have X2 := Lib.hid X2
  go_region_held3 (fun w' => w'.cell? ⟨w.heap.size, 1, none⟩ = some (.slice p.a1 s.units.length p.k1) ∧ w'.cell? ⟨w.heap.size + 1, 0, none⟩ = some (.int .i64 1) ∧ w'.cell? ⟨w.heap.size + 1, 1, none⟩ = some (.int .i64 lo) ∧ w'.cell? ⟨w.heap.size + 1, 2, none⟩ = some (.int .i64 hi) ∧ w'.cell? ⟨w.heap.size + 1, 3, none⟩ = some (.string of_) ∧ w'.cell? ⟨w.heap.size + 1, 4, none⟩ = some (.int .i64 un) ∧ w'.cell? ⟨w.heap.size + 1, 5, none⟩ = some (.slice an names.length kn))
    (first
      | go_keep
      | exact HS2.out
      | exact HS1.out)
    ((first
      | (go_at_call 67; refine (kinds_any w0.drew).mono ?_; rintro e w1 ⟨rfl, hb1⟩; have HS1 := Lib.hid (show w1.cell? ⟨w.heap.size, 1, none⟩ = some (.slice p.a1 s.units.length p.k1) ∧ w1.cell? ⟨w.heap.size + 1, 0, none⟩ = some (.int .i64 1) ∧ w1.cell? ⟨w.heap.size + 1, 1, none⟩ = some (.int .i64 lo) ∧ w1.cell? ⟨w.heap.size + 1, 2, none⟩ = some (.int .i64 hi) ∧ w1.cell? ⟨w.heap.size + 1, 3, none⟩ = some (.string of_) ∧ w1.cell? ⟨w.heap.size + 1, 4, none⟩ = some (.int .i64 un) ∧ w1.cell? ⟨w.heap.size + 1, 5, none⟩ = some (.slice an names.length kn) from ⟨(hb1.cell (p := ⟨w.heap.size, _, none⟩) X1.out.lt).trans x1, (hb1.cell (p := ⟨w.heap.size + 1, _, none⟩) X2.out.lt).trans y0, (hb1.cell (p := ⟨w.heap.size + 1, _, none⟩) X2.out.lt).trans y1, (hb1.cell (p := ⟨w.heap.size + 1, _, none⟩) X2.out.lt).trans y2, (hb1.cell (p := ⟨w.heap.size + 1, _, none⟩) X2.out.lt).trans y3, (hb1.cell (p := ⟨w.heap.size + 1, _, none⟩) X2.out.lt).trans y4, (hb1.cell (p := ⟨w.heap.size + 1, _, none⟩) X2.out.lt).trans y5⟩); have hsz1 := Lib.hid hb1.size; have B1 := Lib.hid (hb0.out.drew.trans (hb1.mono (by simp [hsz]))); clear hb1)
      | (go_at_call 79; refine (Hc.out _ B1.out).mono ?_; rintro e w2 ⟨rfl, hb2⟩; have hl1 := Nat.lt_of_lt_of_le X1.out.lt hsz1.out; have hl2 := Nat.lt_of_lt_of_le X2.out.lt hsz1.out; obtain ⟨s0, s1, s2, s3, s4, s5, s6⟩ := HS1.out; have HS2 := Lib.hid (show w2.cell? ⟨w.heap.size, 1, none⟩ = some (.slice p.a1 s.units.length p.k1) ∧ w2.cell? ⟨w.heap.size + 1, 0, none⟩ = some (.int .i64 1) ∧ w2.cell? ⟨w.heap.size + 1, 1, none⟩ = some (.int .i64 lo) ∧ w2.cell? ⟨w.heap.size + 1, 2, none⟩ = some (.int .i64 hi) ∧ w2.cell? ⟨w.heap.size + 1, 3, none⟩ = some (.string of_) ∧ w2.cell? ⟨w.heap.size + 1, 4, none⟩ = some (.int .i64 un) ∧ w2.cell? ⟨w.heap.size + 1, 5, none⟩ = some (.slice an names.length kn) from ⟨(hb2.cell (p := ⟨w.heap.size, _, none⟩) hl1).trans s0, (hb2.cell (p := ⟨w.heap.size + 1, _, none⟩) hl2).trans s1, (hb2.cell (p := ⟨w.heap.size + 1, _, none⟩) hl2).trans s2, (hb2.cell (p := ⟨w.heap.size + 1, _, none⟩) hl2).trans s3, (hb2.cell (p := ⟨w.heap.size + 1, _, none⟩) hl2).trans s4, (hb2.cell (p := ⟨w.heap.size + 1, _, none⟩) hl2).trans s5, (hb2.cell (p := ⟨w.heap.size + 1, _, none⟩) hl2).trans s6⟩); clear s0 s1 s2 s3 s4 s5 s6 hl1 hl2; have B2 := Lib.hid (B1.out.trans (hb2.mono B1.out.size)); clear hb2)))
  go_wp2
  go_ret
  exact ⟨rfl, B2.out⟩

set_option maxRecDepth 20000 in
set_option maxHeartbeats 4000000 in
theorem typeOK_2 (s : SourceD) (p : SrcAt) (lo hi un : Int) (of_ : ByteArray) (names : List ByteArray) (an : Option Addr) (kn : Nat) (w : World) (r : Bool)
    (hc : ∀ w', Below w.heap.size w w' → Calls Try.prog 80 #[.agg #[.int .i64 2, .int .i64 lo, .int .i64 hi, .string of_, .int .i64 un, .slice an names.length kn], .int .i64 s.units.length] w' fun e w'' => e = .returned (.bool r) ∧ Below w'.heap.size w' w'') :
    Calls Try.prog 41 #[s.val p, .agg #[.int .i64 2, .int .i64 lo, .int .i64 hi, .string of_, .int .i64 un, .slice an names.length kn]] w fun e w' => e = .returned (.bool r) ∧ Below w.heap.size w w' := by
  have Hc := Lib.hid hc
  clear hc
  have hb0 := Lib.hid (alloc2 w #[.slice p.a0 s.issuers.length p.k0, .slice p.a1 s.units.length p.k1, .slice p.a2 s.schemas.length p.k2, .slice p.a3 s.rules.length p.k3, .slice p.a4 s.converts p.k4, .slice p.a5 s.purposes.length p.k5] #[.int .i64 2, .int .i64 lo, .int .i64 hi, .string of_, .int .i64 un, .slice an names.length kn] 81 71)
  go_enter Try.func41, Try.ntmps41
  go_wp2_with fail
  obtain ⟨w0, hw0⟩ : ∃ w0 : World, w0 = ((w.alloc (.cells #[.slice p.a0 s.issuers.length p.k0, .slice p.a1 s.units.length p.k1, .slice p.a2 s.schemas.length p.k2, .slice p.a3 s.rules.length p.k3, .slice p.a4 s.converts p.k4, .slice p.a5 s.purposes.length p.k5] 81)).alloc (.cells #[.int .i64 2, .int .i64 lo, .int .i64 hi, .string of_, .int .i64 un, .slice an names.length kn] 71)) := ⟨_, rfl⟩
  have hsz : w0.heap.size = w.heap.size + 2 := by rw [hw0]; simp
  have X1 : Blk w0 w.heap.size #[.slice p.a0 s.issuers.length p.k0, .slice p.a1 s.units.length p.k1, .slice p.a2 s.schemas.length p.k2, .slice p.a3 s.rules.length p.k3, .slice p.a4 s.converts p.k4, .slice p.a5 s.purposes.length p.k5] 81 := by rw [hw0]; exact (Blk.new _ _ _).alloc _
  have X2 : Blk w0 (w.heap.size + 1) #[.int .i64 2, .int .i64 lo, .int .i64 hi, .string of_, .int .i64 un, .slice an names.length kn] 71 := by rw [hw0]; have := Blk.new (w.alloc (.cells #[.slice p.a0 s.issuers.length p.k0, .slice p.a1 s.units.length p.k1, .slice p.a2 s.schemas.length p.k2, .slice p.a3 s.rules.length p.k3, .slice p.a4 s.converts p.k4, .slice p.a5 s.purposes.length p.k5] 81)) #[.int .i64 2, .int .i64 lo, .int .i64 hi, .string of_, .int .i64 un, .slice an names.length kn] 71; simpa using this
  rw [← hw0] at hb0 ⊢
  clear hw0
  have hix : ∀ w' : World, (Instr.index 116 (.agg #[.nilFunc, fnK 79, fnK 80, fnK 81, fnK 82]) (.int .i64 2)).run Try.prog w' = .ok (fnK 80) w' := fun w' => by kernel_rfl
  have x1 := X1.cell 1
  have y0 := X2.cell 0
  have y1 := X2.cell 1
  have y2 := X2.cell 2
  have y3 := X2.cell 3
  have y4 := X2.cell 4
  have y5 := X2.cell 5
  simp at x1 y0 y1 y2 y3 y4 y5
  have X1 := Lib.hid X1
  have X2 := Lib.hid X2
  go_region_held3 (fun w' => w'.cell? ⟨w.heap.size, 1, none⟩ = some (.slice p.a1 s.units.length p.k1) ∧ w'.cell? ⟨w.heap.size + 1, 0, none⟩ = some (.int .i64 2) ∧ w'.cell? ⟨w.heap.size + 1, 1, none⟩ = some (.int .i64 lo) ∧ w'.cell? ⟨w.heap.size + 1, 2, none⟩ = some (.int .i64 hi) ∧ w'.cell? ⟨w.heap.size + 1, 3, none⟩ = some (.string of_) ∧ w'.cell? ⟨w.heap.size + 1, 4, none⟩ = some (.int .i64 un) ∧ w'.cell? ⟨w.heap.size + 1, 5, none⟩ = some (.slice an names.length kn))
    (first
      | go_keep
      | exact HS2.out
      | exact HS1.out)
    ((first
      | (go_at_call 67; refine (kinds_any w0.drew).mono ?_; rintro e w1 ⟨rfl, hb1⟩; have HS1 := Lib.hid (show w1.cell? ⟨w.heap.size, 1, none⟩ = some (.slice p.a1 s.units.length p.k1) ∧ w1.cell? ⟨w.heap.size + 1, 0, none⟩ = some (.int .i64 2) ∧ w1.cell? ⟨w.heap.size + 1, 1, none⟩ = some (.int .i64 lo) ∧ w1.cell? ⟨w.heap.size + 1, 2, none⟩ = some (.int .i64 hi) ∧ w1.cell? ⟨w.heap.size + 1, 3, none⟩ = some (.string of_) ∧ w1.cell? ⟨w.heap.size + 1, 4, none⟩ = some (.int .i64 un) ∧ w1.cell? ⟨w.heap.size + 1, 5, none⟩ = some (.slice an names.length kn) from ⟨(hb1.cell (p := ⟨w.heap.size, _, none⟩) X1.out.lt).trans x1, (hb1.cell (p := ⟨w.heap.size + 1, _, none⟩) X2.out.lt).trans y0, (hb1.cell (p := ⟨w.heap.size + 1, _, none⟩) X2.out.lt).trans y1, (hb1.cell (p := ⟨w.heap.size + 1, _, none⟩) X2.out.lt).trans y2, (hb1.cell (p := ⟨w.heap.size + 1, _, none⟩) X2.out.lt).trans y3, (hb1.cell (p := ⟨w.heap.size + 1, _, none⟩) X2.out.lt).trans y4, (hb1.cell (p := ⟨w.heap.size + 1, _, none⟩) X2.out.lt).trans y5⟩); have hsz1 := Lib.hid hb1.size; have B1 := Lib.hid (hb0.out.drew.trans (hb1.mono (by simp [hsz]))); clear hb1)
      | (go_at_call 80; refine (Hc.out _ B1.out).mono ?_; rintro e w2 ⟨rfl, hb2⟩; have hl1 := Nat.lt_of_lt_of_le X1.out.lt hsz1.out; have hl2 := Nat.lt_of_lt_of_le X2.out.lt hsz1.out; obtain ⟨s0, s1, s2, s3, s4, s5, s6⟩ := HS1.out; have HS2 := Lib.hid (show w2.cell? ⟨w.heap.size, 1, none⟩ = some (.slice p.a1 s.units.length p.k1) ∧ w2.cell? ⟨w.heap.size + 1, 0, none⟩ = some (.int .i64 2) ∧ w2.cell? ⟨w.heap.size + 1, 1, none⟩ = some (.int .i64 lo) ∧ w2.cell? ⟨w.heap.size + 1, 2, none⟩ = some (.int .i64 hi) ∧ w2.cell? ⟨w.heap.size + 1, 3, none⟩ = some (.string of_) ∧ w2.cell? ⟨w.heap.size + 1, 4, none⟩ = some (.int .i64 un) ∧ w2.cell? ⟨w.heap.size + 1, 5, none⟩ = some (.slice an names.length kn) from ⟨(hb2.cell (p := ⟨w.heap.size, _, none⟩) hl1).trans s0, (hb2.cell (p := ⟨w.heap.size + 1, _, none⟩) hl2).trans s1, (hb2.cell (p := ⟨w.heap.size + 1, _, none⟩) hl2).trans s2, (hb2.cell (p := ⟨w.heap.size + 1, _, none⟩) hl2).trans s3, (hb2.cell (p := ⟨w.heap.size + 1, _, none⟩) hl2).trans s4, (hb2.cell (p := ⟨w.heap.size + 1, _, none⟩) hl2).trans s5, (hb2.cell (p := ⟨w.heap.size + 1, _, none⟩) hl2).trans s6⟩); clear s0 s1 s2 s3 s4 s5 s6 hl1 hl2; have B2 := Lib.hid (B1.out.trans (hb2.mono B1.out.size)); clear hb2)))
  go_wp2
  go_ret
  exact ⟨rfl, B2.out⟩

set_option maxRecDepth 20000 in
set_option maxHeartbeats 4000000 in
theorem typeOK_3 (s : SourceD) (p : SrcAt) (lo hi un : Int) (of_ : ByteArray) (names : List ByteArray) (an : Option Addr) (kn : Nat) (w : World) (r : Bool)
    (hc : ∀ w', Below w.heap.size w w' → Calls Try.prog 81 #[.agg #[.int .i64 3, .int .i64 lo, .int .i64 hi, .string of_, .int .i64 un, .slice an names.length kn], .int .i64 s.units.length] w' fun e w'' => e = .returned (.bool r) ∧ Below w'.heap.size w' w'') :
    Calls Try.prog 41 #[s.val p, .agg #[.int .i64 3, .int .i64 lo, .int .i64 hi, .string of_, .int .i64 un, .slice an names.length kn]] w fun e w' => e = .returned (.bool r) ∧ Below w.heap.size w w' := by
  have Hc := Lib.hid hc
  clear hc
  have hb0 := Lib.hid (alloc2 w #[.slice p.a0 s.issuers.length p.k0, .slice p.a1 s.units.length p.k1, .slice p.a2 s.schemas.length p.k2, .slice p.a3 s.rules.length p.k3, .slice p.a4 s.converts p.k4, .slice p.a5 s.purposes.length p.k5] #[.int .i64 3, .int .i64 lo, .int .i64 hi, .string of_, .int .i64 un, .slice an names.length kn] 81 71)
  go_enter Try.func41, Try.ntmps41
  go_wp2_with fail
  obtain ⟨w0, hw0⟩ : ∃ w0 : World, w0 = ((w.alloc (.cells #[.slice p.a0 s.issuers.length p.k0, .slice p.a1 s.units.length p.k1, .slice p.a2 s.schemas.length p.k2, .slice p.a3 s.rules.length p.k3, .slice p.a4 s.converts p.k4, .slice p.a5 s.purposes.length p.k5] 81)).alloc (.cells #[.int .i64 3, .int .i64 lo, .int .i64 hi, .string of_, .int .i64 un, .slice an names.length kn] 71)) := ⟨_, rfl⟩
  have hsz : w0.heap.size = w.heap.size + 2 := by rw [hw0]; simp
  have X1 : Blk w0 w.heap.size #[.slice p.a0 s.issuers.length p.k0, .slice p.a1 s.units.length p.k1, .slice p.a2 s.schemas.length p.k2, .slice p.a3 s.rules.length p.k3, .slice p.a4 s.converts p.k4, .slice p.a5 s.purposes.length p.k5] 81 := by rw [hw0]; exact (Blk.new _ _ _).alloc _
  have X2 : Blk w0 (w.heap.size + 1) #[.int .i64 3, .int .i64 lo, .int .i64 hi, .string of_, .int .i64 un, .slice an names.length kn] 71 := by rw [hw0]; have := Blk.new (w.alloc (.cells #[.slice p.a0 s.issuers.length p.k0, .slice p.a1 s.units.length p.k1, .slice p.a2 s.schemas.length p.k2, .slice p.a3 s.rules.length p.k3, .slice p.a4 s.converts p.k4, .slice p.a5 s.purposes.length p.k5] 81)) #[.int .i64 3, .int .i64 lo, .int .i64 hi, .string of_, .int .i64 un, .slice an names.length kn] 71; simpa using this
  rw [← hw0] at hb0 ⊢
  clear hw0
  have hix : ∀ w' : World, (Instr.index 116 (.agg #[.nilFunc, fnK 79, fnK 80, fnK 81, fnK 82]) (.int .i64 3)).run Try.prog w' = .ok (fnK 81) w' := fun w' => by kernel_rfl
  have x1 := X1.cell 1
  have y0 := X2.cell 0
  have y1 := X2.cell 1
  have y2 := X2.cell 2
  have y3 := X2.cell 3
  have y4 := X2.cell 4
  have y5 := X2.cell 5
  simp at x1 y0 y1 y2 y3 y4 y5
  have X1 := Lib.hid X1
  have X2 := Lib.hid X2
  go_region_held3 (fun w' => w'.cell? ⟨w.heap.size, 1, none⟩ = some (.slice p.a1 s.units.length p.k1) ∧ w'.cell? ⟨w.heap.size + 1, 0, none⟩ = some (.int .i64 3) ∧ w'.cell? ⟨w.heap.size + 1, 1, none⟩ = some (.int .i64 lo) ∧ w'.cell? ⟨w.heap.size + 1, 2, none⟩ = some (.int .i64 hi) ∧ w'.cell? ⟨w.heap.size + 1, 3, none⟩ = some (.string of_) ∧ w'.cell? ⟨w.heap.size + 1, 4, none⟩ = some (.int .i64 un) ∧ w'.cell? ⟨w.heap.size + 1, 5, none⟩ = some (.slice an names.length kn))
    (first
      | go_keep
      | exact HS2.out
      | exact HS1.out)
    ((first
      | (go_at_call 67; refine (kinds_any w0.drew).mono ?_; rintro e w1 ⟨rfl, hb1⟩; have HS1 := Lib.hid (show w1.cell? ⟨w.heap.size, 1, none⟩ = some (.slice p.a1 s.units.length p.k1) ∧ w1.cell? ⟨w.heap.size + 1, 0, none⟩ = some (.int .i64 3) ∧ w1.cell? ⟨w.heap.size + 1, 1, none⟩ = some (.int .i64 lo) ∧ w1.cell? ⟨w.heap.size + 1, 2, none⟩ = some (.int .i64 hi) ∧ w1.cell? ⟨w.heap.size + 1, 3, none⟩ = some (.string of_) ∧ w1.cell? ⟨w.heap.size + 1, 4, none⟩ = some (.int .i64 un) ∧ w1.cell? ⟨w.heap.size + 1, 5, none⟩ = some (.slice an names.length kn) from ⟨(hb1.cell (p := ⟨w.heap.size, _, none⟩) X1.out.lt).trans x1, (hb1.cell (p := ⟨w.heap.size + 1, _, none⟩) X2.out.lt).trans y0, (hb1.cell (p := ⟨w.heap.size + 1, _, none⟩) X2.out.lt).trans y1, (hb1.cell (p := ⟨w.heap.size + 1, _, none⟩) X2.out.lt).trans y2, (hb1.cell (p := ⟨w.heap.size + 1, _, none⟩) X2.out.lt).trans y3, (hb1.cell (p := ⟨w.heap.size + 1, _, none⟩) X2.out.lt).trans y4, (hb1.cell (p := ⟨w.heap.size + 1, _, none⟩) X2.out.lt).trans y5⟩); have hsz1 := Lib.hid hb1.size; have B1 := Lib.hid (hb0.out.drew.trans (hb1.mono (by simp [hsz]))); clear hb1)
      | (go_at_call 81; refine (Hc.out _ B1.out).mono ?_; rintro e w2 ⟨rfl, hb2⟩; have hl1 := Nat.lt_of_lt_of_le X1.out.lt hsz1.out; have hl2 := Nat.lt_of_lt_of_le X2.out.lt hsz1.out; obtain ⟨s0, s1, s2, s3, s4, s5, s6⟩ := HS1.out; have HS2 := Lib.hid (show w2.cell? ⟨w.heap.size, 1, none⟩ = some (.slice p.a1 s.units.length p.k1) ∧ w2.cell? ⟨w.heap.size + 1, 0, none⟩ = some (.int .i64 3) ∧ w2.cell? ⟨w.heap.size + 1, 1, none⟩ = some (.int .i64 lo) ∧ w2.cell? ⟨w.heap.size + 1, 2, none⟩ = some (.int .i64 hi) ∧ w2.cell? ⟨w.heap.size + 1, 3, none⟩ = some (.string of_) ∧ w2.cell? ⟨w.heap.size + 1, 4, none⟩ = some (.int .i64 un) ∧ w2.cell? ⟨w.heap.size + 1, 5, none⟩ = some (.slice an names.length kn) from ⟨(hb2.cell (p := ⟨w.heap.size, _, none⟩) hl1).trans s0, (hb2.cell (p := ⟨w.heap.size + 1, _, none⟩) hl2).trans s1, (hb2.cell (p := ⟨w.heap.size + 1, _, none⟩) hl2).trans s2, (hb2.cell (p := ⟨w.heap.size + 1, _, none⟩) hl2).trans s3, (hb2.cell (p := ⟨w.heap.size + 1, _, none⟩) hl2).trans s4, (hb2.cell (p := ⟨w.heap.size + 1, _, none⟩) hl2).trans s5, (hb2.cell (p := ⟨w.heap.size + 1, _, none⟩) hl2).trans s6⟩); clear s0 s1 s2 s3 s4 s5 s6 hl1 hl2; have B2 := Lib.hid (B1.out.trans (hb2.mono B1.out.size)); clear hb2)))
  go_wp2
  go_ret
  exact ⟨rfl, B2.out⟩

set_option maxRecDepth 20000 in
set_option maxHeartbeats 4000000 in
theorem typeOK_4 (s : SourceD) (p : SrcAt) (lo hi un : Int) (of_ : ByteArray) (names : List ByteArray) (an : Option Addr) (kn : Nat) (w : World) (r : Bool)
    (hc : ∀ w', Below w.heap.size w w' → Calls Try.prog 82 #[.agg #[.int .i64 4, .int .i64 lo, .int .i64 hi, .string of_, .int .i64 un, .slice an names.length kn], .int .i64 s.units.length] w' fun e w'' => e = .returned (.bool r) ∧ Below w'.heap.size w' w'') :
    Calls Try.prog 41 #[s.val p, .agg #[.int .i64 4, .int .i64 lo, .int .i64 hi, .string of_, .int .i64 un, .slice an names.length kn]] w fun e w' => e = .returned (.bool r) ∧ Below w.heap.size w w' := by
  have Hc := Lib.hid hc
  clear hc
  have hb0 := Lib.hid (alloc2 w #[.slice p.a0 s.issuers.length p.k0, .slice p.a1 s.units.length p.k1, .slice p.a2 s.schemas.length p.k2, .slice p.a3 s.rules.length p.k3, .slice p.a4 s.converts p.k4, .slice p.a5 s.purposes.length p.k5] #[.int .i64 4, .int .i64 lo, .int .i64 hi, .string of_, .int .i64 un, .slice an names.length kn] 81 71)
  go_enter Try.func41, Try.ntmps41
  go_wp2_with fail
  obtain ⟨w0, hw0⟩ : ∃ w0 : World, w0 = ((w.alloc (.cells #[.slice p.a0 s.issuers.length p.k0, .slice p.a1 s.units.length p.k1, .slice p.a2 s.schemas.length p.k2, .slice p.a3 s.rules.length p.k3, .slice p.a4 s.converts p.k4, .slice p.a5 s.purposes.length p.k5] 81)).alloc (.cells #[.int .i64 4, .int .i64 lo, .int .i64 hi, .string of_, .int .i64 un, .slice an names.length kn] 71)) := ⟨_, rfl⟩
  have hsz : w0.heap.size = w.heap.size + 2 := by rw [hw0]; simp
  have X1 : Blk w0 w.heap.size #[.slice p.a0 s.issuers.length p.k0, .slice p.a1 s.units.length p.k1, .slice p.a2 s.schemas.length p.k2, .slice p.a3 s.rules.length p.k3, .slice p.a4 s.converts p.k4, .slice p.a5 s.purposes.length p.k5] 81 := by rw [hw0]; exact (Blk.new _ _ _).alloc _
  have X2 : Blk w0 (w.heap.size + 1) #[.int .i64 4, .int .i64 lo, .int .i64 hi, .string of_, .int .i64 un, .slice an names.length kn] 71 := by rw [hw0]; have := Blk.new (w.alloc (.cells #[.slice p.a0 s.issuers.length p.k0, .slice p.a1 s.units.length p.k1, .slice p.a2 s.schemas.length p.k2, .slice p.a3 s.rules.length p.k3, .slice p.a4 s.converts p.k4, .slice p.a5 s.purposes.length p.k5] 81)) #[.int .i64 4, .int .i64 lo, .int .i64 hi, .string of_, .int .i64 un, .slice an names.length kn] 71; simpa using this
  rw [← hw0] at hb0 ⊢
  clear hw0
  have hix : ∀ w' : World, (Instr.index 116 (.agg #[.nilFunc, fnK 79, fnK 80, fnK 81, fnK 82]) (.int .i64 4)).run Try.prog w' = .ok (fnK 82) w' := fun w' => by kernel_rfl
  have x1 := X1.cell 1
  have y0 := X2.cell 0
  have y1 := X2.cell 1
  have y2 := X2.cell 2
  have y3 := X2.cell 3
  have y4 := X2.cell 4
  have y5 := X2.cell 5
  simp at x1 y0 y1 y2 y3 y4 y5
  have X1 := Lib.hid X1
  have X2 := Lib.hid X2
  go_region_held3 (fun w' => w'.cell? ⟨w.heap.size, 1, none⟩ = some (.slice p.a1 s.units.length p.k1) ∧ w'.cell? ⟨w.heap.size + 1, 0, none⟩ = some (.int .i64 4) ∧ w'.cell? ⟨w.heap.size + 1, 1, none⟩ = some (.int .i64 lo) ∧ w'.cell? ⟨w.heap.size + 1, 2, none⟩ = some (.int .i64 hi) ∧ w'.cell? ⟨w.heap.size + 1, 3, none⟩ = some (.string of_) ∧ w'.cell? ⟨w.heap.size + 1, 4, none⟩ = some (.int .i64 un) ∧ w'.cell? ⟨w.heap.size + 1, 5, none⟩ = some (.slice an names.length kn))
    (first
      | go_keep
      | exact HS2.out
      | exact HS1.out)
    ((first
      | (go_at_call 67; refine (kinds_any w0.drew).mono ?_; rintro e w1 ⟨rfl, hb1⟩; have HS1 := Lib.hid (show w1.cell? ⟨w.heap.size, 1, none⟩ = some (.slice p.a1 s.units.length p.k1) ∧ w1.cell? ⟨w.heap.size + 1, 0, none⟩ = some (.int .i64 4) ∧ w1.cell? ⟨w.heap.size + 1, 1, none⟩ = some (.int .i64 lo) ∧ w1.cell? ⟨w.heap.size + 1, 2, none⟩ = some (.int .i64 hi) ∧ w1.cell? ⟨w.heap.size + 1, 3, none⟩ = some (.string of_) ∧ w1.cell? ⟨w.heap.size + 1, 4, none⟩ = some (.int .i64 un) ∧ w1.cell? ⟨w.heap.size + 1, 5, none⟩ = some (.slice an names.length kn) from ⟨(hb1.cell (p := ⟨w.heap.size, _, none⟩) X1.out.lt).trans x1, (hb1.cell (p := ⟨w.heap.size + 1, _, none⟩) X2.out.lt).trans y0, (hb1.cell (p := ⟨w.heap.size + 1, _, none⟩) X2.out.lt).trans y1, (hb1.cell (p := ⟨w.heap.size + 1, _, none⟩) X2.out.lt).trans y2, (hb1.cell (p := ⟨w.heap.size + 1, _, none⟩) X2.out.lt).trans y3, (hb1.cell (p := ⟨w.heap.size + 1, _, none⟩) X2.out.lt).trans y4, (hb1.cell (p := ⟨w.heap.size + 1, _, none⟩) X2.out.lt).trans y5⟩); have hsz1 := Lib.hid hb1.size; have B1 := Lib.hid (hb0.out.drew.trans (hb1.mono (by simp [hsz]))); clear hb1)
      | (go_at_call 82; refine (Hc.out _ B1.out).mono ?_; rintro e w2 ⟨rfl, hb2⟩; have hl1 := Nat.lt_of_lt_of_le X1.out.lt hsz1.out; have hl2 := Nat.lt_of_lt_of_le X2.out.lt hsz1.out; obtain ⟨s0, s1, s2, s3, s4, s5, s6⟩ := HS1.out; have HS2 := Lib.hid (show w2.cell? ⟨w.heap.size, 1, none⟩ = some (.slice p.a1 s.units.length p.k1) ∧ w2.cell? ⟨w.heap.size + 1, 0, none⟩ = some (.int .i64 4) ∧ w2.cell? ⟨w.heap.size + 1, 1, none⟩ = some (.int .i64 lo) ∧ w2.cell? ⟨w.heap.size + 1, 2, none⟩ = some (.int .i64 hi) ∧ w2.cell? ⟨w.heap.size + 1, 3, none⟩ = some (.string of_) ∧ w2.cell? ⟨w.heap.size + 1, 4, none⟩ = some (.int .i64 un) ∧ w2.cell? ⟨w.heap.size + 1, 5, none⟩ = some (.slice an names.length kn) from ⟨(hb2.cell (p := ⟨w.heap.size, _, none⟩) hl1).trans s0, (hb2.cell (p := ⟨w.heap.size + 1, _, none⟩) hl2).trans s1, (hb2.cell (p := ⟨w.heap.size + 1, _, none⟩) hl2).trans s2, (hb2.cell (p := ⟨w.heap.size + 1, _, none⟩) hl2).trans s3, (hb2.cell (p := ⟨w.heap.size + 1, _, none⟩) hl2).trans s4, (hb2.cell (p := ⟨w.heap.size + 1, _, none⟩) hl2).trans s5, (hb2.cell (p := ⟨w.heap.size + 1, _, none⟩) hl2).trans s6⟩); clear s0 s1 s2 s3 s4 s5 s6 hl1 hl2; have B2 := Lib.hid (B1.out.trans (hb2.mono B1.out.size)); clear hb2)))
  go_wp2
  go_ret
  exact ⟨rfl, B2.out⟩
end Go.Proofs.Ytogenjbabgibbaa
