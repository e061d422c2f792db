import Derived.Test.YtogenjbabgibbaaKZ2
namespace Go.Proofs.Ytogenjbabgibbaa
open Go.RowKit
theorem ret_i {k : IntKind} {a b : Int} (h : a = b) : Ending.returned (.int k a) = .returned (.int k b) := by rw [h]
theorem limB_facts {s : SourceD} (h : limB s = true) : s.units.length ≤ 64 ∧ s.schemas.length ≤ 16 ∧ s.rules.length ≤ 16 ∧ s.purposes.length ≤ 8 ∧ ∀ x ∈ s.purposes, x.may.length ≤ 100000 := by
  unfold limB at h
  simp only [Bool.and_eq_true, decide_eq_true_eq, Bool.not_eq_true', List.any_eq_false] at h
  refine ⟨h.1.2.1, h.1.2.2.1, h.1.2.2.2.1, h.1.2.2.2.2.2, fun x hx => ?_⟩
  have := h.2 x hx
  simp at this
  omega
set_option maxRecDepth 20000 in
set_option maxHeartbeats 4000000 in
theorem check_u (s : SourceD) (p : SrcAt) (w : World) (hs : Src w s p) (_hf : Few s) (hlim : limB s = true) (h1 : s.units.all (unitB s.units) = false) :
    Calls Try.prog 11 #[s.val p] w fun e w' => e = .returned (.int .i64 (checkB s)) ∧ Below w.heap.size w w' := by
  obtain ⟨a0, k0, a1, k1, a2, k2, a3, k3, a4, k4, a5, k5⟩ := p
  have Hs := Lib.hid hs
  clear hs
  obtain ⟨l1, l2, l3, l4, hmay⟩ := limB_facts hlim
  have e27 : ∀ args w, (callFunc 27 args).run Try.prog w = .ok (.enter 27 args) w := enters_of Try.func27 (by kernel_rfl) rfl
  have e29 : ∀ args w, (callFunc 29 args).run Try.prog w = .ok (.enter 29 args) w := enters_of Try.func29 (by kernel_rfl) rfl
  have e24 : ∀ args w, (callFunc 24 args).run Try.prog w = .ok (.enter 24 args) w := enters_of Try.func24 (by kernel_rfl) rfl
  have e32 : ∀ args w, (callFunc 32 args).run Try.prog w = .ok (.enter 32 args) w := enters_of Try.func32 (by kernel_rfl) rfl
  go_enter Try.func11, Try.ntmps11
  go_wp2_with fail
  generalize hw0 : World.alloc _ _ = w0
  obtain ⟨X0, X1, hsz, hb0⟩ := blk2 hw0
  have x0 : w0.cell? ⟨w.heap.size, 0, none⟩ = some (.slice a0 s.issuers.length k0) := X0.cell 0
  have x1 : w0.cell? ⟨w.heap.size, 1, none⟩ = some (.slice a1 s.units.length k1) := X0.cell 1
  have x2 : w0.cell? ⟨w.heap.size, 2, none⟩ = some (.slice a2 s.schemas.length k2) := X0.cell 2
  have x3 : w0.cell? ⟨w.heap.size, 3, none⟩ = some (.slice a3 s.rules.length k3) := X0.cell 3
  have x4 : w0.cell? ⟨w.heap.size, 4, none⟩ = some (.slice a4 s.converts k4) := X0.cell 4
  have x5 : w0.cell? ⟨w.heap.size, 5, none⟩ = some (.slice a5 s.purposes.length k5) := X0.cell 5
  have hl_x : w.heap.size < w0.heap.size := by omega
  have y0 : w0.cell? ⟨w.heap.size + 1, 0, none⟩ = some (.slice a0 s.issuers.length k0) := X1.cell 0
  have y1 : w0.cell? ⟨w.heap.size + 1, 1, none⟩ = some (.slice a1 s.units.length k1) := X1.cell 1
  have y2 : w0.cell? ⟨w.heap.size + 1, 2, none⟩ = some (.slice a2 s.schemas.length k2) := X1.cell 2
  have y3 : w0.cell? ⟨w.heap.size + 1, 3, none⟩ = some (.slice a3 s.rules.length k3) := X1.cell 3
  have y4 : w0.cell? ⟨w.heap.size + 1, 4, none⟩ = some (.slice a4 s.converts k4) := X1.cell 4
  have y5 : w0.cell? ⟨w.heap.size + 1, 5, none⟩ = some (.slice a5 s.purposes.length k5) := X1.cell 5
  have hl_y : w.heap.size + 1 < w0.heap.size := by omega
  have hwl : w.heap.size ≤ w0.heap.size := hb0.size
  have Hb := Lib.hid hb0
  clear hw0 hb0 hsz X0 X1
  refine (limited_any s ⟨a0, k0, a1, k1, a2, k2, a3, k3, a4, k4, a5, k5⟩ _ (Hs.out.below Hb.out)).mono ?_
  rintro e w1 ⟨rfl, hb1⟩
  rw [hlim]
  replace x0 := cell_kept hb1 x0 hl_x
  replace x1 := cell_kept hb1 x1 hl_x
  replace x2 := cell_kept hb1 x2 hl_x
  replace x3 := cell_kept hb1 x3 hl_x
  replace x4 := cell_kept hb1 x4 hl_x
  replace x5 := cell_kept hb1 x5 hl_x
  replace y0 := cell_kept hb1 y0 hl_y
  replace y1 := cell_kept hb1 y1 hl_y
  replace y2 := cell_kept hb1 y2 hl_y
  replace y3 := cell_kept hb1 y3 hl_y
  replace y4 := cell_kept hb1 y4 hl_y
  replace y5 := cell_kept hb1 y5 hl_y
  replace Hb := Lib.hid (Hb.out.trans (hb1.mono hwl))
  replace hl_x := Nat.lt_of_lt_of_le hl_x hb1.size
  replace hl_y := Nat.lt_of_lt_of_le hl_y hb1.size
  replace hwl := Nat.le_trans hwl hb1.size
  clear hb1
  go_wp2_with fail
  refine (allU a1 k1 s.units 27 #[s.val ⟨a0, k0, a1, k1, a2, k2, a3, k3, a4, k4, a5, k5⟩] #[] (unitB s.units) _ ((Hs.out.below Hb.out).h1) (pred27 s _ _ _ (Hs.out.below Hb.out)) (by omega) e27 false h1).mono ?_
  rintro e w2 ⟨rfl, hb1⟩
  replace x0 := cell_kept hb1 x0 hl_x
  replace x1 := cell_kept hb1 x1 hl_x
  replace x2 := cell_kept hb1 x2 hl_x
  replace x3 := cell_kept hb1 x3 hl_x
  replace x4 := cell_kept hb1 x4 hl_x
  replace x5 := cell_kept hb1 x5 hl_x
  replace y0 := cell_kept hb1 y0 hl_y
  replace y1 := cell_kept hb1 y1 hl_y
  replace y2 := cell_kept hb1 y2 hl_y
  replace y3 := cell_kept hb1 y3 hl_y
  replace y4 := cell_kept hb1 y4 hl_y
  replace y5 := cell_kept hb1 y5 hl_y
  replace Hb := Lib.hid (Hb.out.trans (hb1.mono hwl))
  replace hl_x := Nat.lt_of_lt_of_le hl_x hb1.size
  replace hl_y := Nat.lt_of_lt_of_le hl_y hb1.size
  replace hwl := Nat.le_trans hwl hb1.size
  clear hb1
  go_wp2
  go_ret
  exact ⟨ret_i (by simp [checkB, hlim, h1]), Hb.out⟩

set_option maxRecDepth 20000 in
set_option maxHeartbeats 4000000 in
theorem check_s (s : SourceD) (p : SrcAt) (w : World) (hs : Src w s p) (hf : Few s) (hlim : limB s = true) (h1 : s.units.all (unitB s.units) = true) (h2 : s.schemas.all (schB s) = false) :
    Calls Try.prog 11 #[s.val p] w fun e w' => e = .returned (.int .i64 (checkB s)) ∧ Below w.heap.size w w' := by
  obtain ⟨a0, k0, a1, k1, a2, k2, a3, k3, a4, k4, a5, k5⟩ := p
  have Hs := Lib.hid hs
  clear hs
  obtain ⟨l1, l2, l3, l4, hmay⟩ := limB_facts hlim
  have e27 : ∀ args w, (callFunc 27 args).run Try.prog w = .ok (.enter 27 args) w := enters_of Try.func27 (by kernel_rfl) rfl
  have e29 : ∀ args w, (callFunc 29 args).run Try.prog w = .ok (.enter 29 args) w := enters_of Try.func29 (by kernel_rfl) rfl
  have e24 : ∀ args w, (callFunc 24 args).run Try.prog w = .ok (.enter 24 args) w := enters_of Try.func24 (by kernel_rfl) rfl
  have e32 : ∀ args w, (callFunc 32 args).run Try.prog w = .ok (.enter 32 args) w := enters_of Try.func32 (by kernel_rfl) rfl
  go_enter Try.func11, Try.ntmps11
  go_wp2_with fail
  generalize hw0 : World.alloc _ _ = w0
  obtain ⟨X0, X1, hsz, hb0⟩ := blk2 hw0
  have x0 : w0.cell? ⟨w.heap.size, 0, none⟩ = some (.slice a0 s.issuers.length k0) := X0.cell 0
  have x1 : w0.cell? ⟨w.heap.size, 1, none⟩ = some (.slice a1 s.units.length k1) := X0.cell 1
  have x2 : w0.cell? ⟨w.heap.size, 2, none⟩ = some (.slice a2 s.schemas.length k2) := X0.cell 2
  have x3 : w0.cell? ⟨w.heap.size, 3, none⟩ = some (.slice a3 s.rules.length k3) := X0.cell 3
  have x4 : w0.cell? ⟨w.heap.size, 4, none⟩ = some (.slice a4 s.converts k4) := X0.cell 4
  have x5 : w0.cell? ⟨w.heap.size, 5, none⟩ = some (.slice a5 s.purposes.length k5) := X0.cell 5
  have hl_x : w.heap.size < w0.heap.size := by omega
  have y0 : w0.cell? ⟨w.heap.size + 1, 0, none⟩ = some (.slice a0 s.issuers.length k0) := X1.cell 0
  have y1 : w0.cell? ⟨w.heap.size + 1, 1, none⟩ = some (.slice a1 s.units.length k1) := X1.cell 1
  have y2 : w0.cell? ⟨w.heap.size + 1, 2, none⟩ = some (.slice a2 s.schemas.length k2) := X1.cell 2
  have y3 : w0.cell? ⟨w.heap.size + 1, 3, none⟩ = some (.slice a3 s.rules.length k3) := X1.cell 3
  have y4 : w0.cell? ⟨w.heap.size + 1, 4, none⟩ = some (.slice a4 s.converts k4) := X1.cell 4
  have y5 : w0.cell? ⟨w.heap.size + 1, 5, none⟩ = some (.slice a5 s.purposes.length k5) := X1.cell 5
  have hl_y : w.heap.size + 1 < w0.heap.size := by omega
  have hwl : w.heap.size ≤ w0.heap.size := hb0.size
  have Hb := Lib.hid hb0
  clear hw0 hb0 hsz X0 X1
  refine (limited_any s ⟨a0, k0, a1, k1, a2, k2, a3, k3, a4, k4, a5, k5⟩ _ (Hs.out.below Hb.out)).mono ?_
  rintro e w1 ⟨rfl, hb1⟩
  rw [hlim]
  replace x0 := cell_kept hb1 x0 hl_x
  replace x1 := cell_kept hb1 x1 hl_x
  replace x2 := cell_kept hb1 x2 hl_x
  replace x3 := cell_kept hb1 x3 hl_x
  replace x4 := cell_kept hb1 x4 hl_x
  replace x5 := cell_kept hb1 x5 hl_x
  replace y0 := cell_kept hb1 y0 hl_y
  replace y1 := cell_kept hb1 y1 hl_y
  replace y2 := cell_kept hb1 y2 hl_y
  replace y3 := cell_kept hb1 y3 hl_y
  replace y4 := cell_kept hb1 y4 hl_y
  replace y5 := cell_kept hb1 y5 hl_y
  replace Hb := Lib.hid (Hb.out.trans (hb1.mono hwl))
  replace hl_x := Nat.lt_of_lt_of_le hl_x hb1.size
  replace hl_y := Nat.lt_of_lt_of_le hl_y hb1.size
  replace hwl := Nat.le_trans hwl hb1.size
  clear hb1
  go_wp2_with fail
  refine (allU a1 k1 s.units 27 #[s.val ⟨a0, k0, a1, k1, a2, k2, a3, k3, a4, k4, a5, k5⟩] #[] (unitB s.units) _ ((Hs.out.below Hb.out).h1) (pred27 s _ _ _ (Hs.out.below Hb.out)) (by omega) e27 true h1).mono ?_
  rintro e w2 ⟨rfl, hb1⟩
  replace x0 := cell_kept hb1 x0 hl_x
  replace x1 := cell_kept hb1 x1 hl_x
  replace x2 := cell_kept hb1 x2 hl_x
  replace x3 := cell_kept hb1 x3 hl_x
  replace x4 := cell_kept hb1 x4 hl_x
  replace x5 := cell_kept hb1 x5 hl_x
  replace y0 := cell_kept hb1 y0 hl_y
  replace y1 := cell_kept hb1 y1 hl_y
  replace y2 := cell_kept hb1 y2 hl_y
  replace y3 := cell_kept hb1 y3 hl_y
  replace y4 := cell_kept hb1 y4 hl_y
  replace y5 := cell_kept hb1 y5 hl_y
  replace Hb := Lib.hid (Hb.out.trans (hb1.mono hwl))
  replace hl_x := Nat.lt_of_lt_of_le hl_x hb1.size
  replace hl_y := Nat.lt_of_lt_of_le hl_y hb1.size
  replace hwl := Nat.le_trans hwl hb1.size
  clear hb1
  go_wp2_with fail
  refine (allS a2 k2 s.schemas 29 #[s.val ⟨a0, k0, a1, k1, a2, k2, a3, k3, a4, k4, a5, k5⟩] #[] (schB s) _ ((Hs.out.below Hb.out).h2) (pred29 s _ _ hf) (by omega) e29 false h2).mono ?_
  rintro e w3 ⟨rfl, hb1⟩
  replace x0 := cell_kept hb1 x0 hl_x
  replace x1 := cell_kept hb1 x1 hl_x
  replace x2 := cell_kept hb1 x2 hl_x
  replace x3 := cell_kept hb1 x3 hl_x
  replace x4 := cell_kept hb1 x4 hl_x
  replace x5 := cell_kept hb1 x5 hl_x
  replace y0 := cell_kept hb1 y0 hl_y
  replace y1 := cell_kept hb1 y1 hl_y
  replace y2 := cell_kept hb1 y2 hl_y
  replace y3 := cell_kept hb1 y3 hl_y
  replace y4 := cell_kept hb1 y4 hl_y
  replace y5 := cell_kept hb1 y5 hl_y
  replace Hb := Lib.hid (Hb.out.trans (hb1.mono hwl))
  replace hl_x := Nat.lt_of_lt_of_le hl_x hb1.size
  replace hl_y := Nat.lt_of_lt_of_le hl_y hb1.size
  replace hwl := Nat.le_trans hwl hb1.size
  clear hb1
  go_wp2
  go_ret
  exact ⟨ret_i (by simp [checkB, hlim, h1, h2]), Hb.out⟩

set_option maxRecDepth 20000 in
set_option maxHeartbeats 4000000 in
theorem check_r (s : SourceD) (p : SrcAt) (w : World) (hs : Src w s p) (hf : Few s) (hlim : limB s = true) (h1 : s.units.all (unitB s.units) = true) (h2 : s.schemas.all (schB s) = true) (hgd : Good s) (h3 : s.rules.all (ruleB s) = false) :
    Calls Try.prog 11 #[s.val p] w fun e w' => e = .returned (.int .i64 (checkB s)) ∧ Below w.heap.size w w' := by
  obtain ⟨a0, k0, a1, k1, a2, k2, a3, k3, a4, k4, a5, k5⟩ := p
  have Hs := Lib.hid hs
  clear hs
  obtain ⟨l1, l2, l3, l4, hmay⟩ := limB_facts hlim
  have e27 : ∀ args w, (callFunc 27 args).run Try.prog w = .ok (.enter 27 args) w := enters_of Try.func27 (by kernel_rfl) rfl
  have e29 : ∀ args w, (callFunc 29 args).run Try.prog w = .ok (.enter 29 args) w := enters_of Try.func29 (by kernel_rfl) rfl
  have e24 : ∀ args w, (callFunc 24 args).run Try.prog w = .ok (.enter 24 args) w := enters_of Try.func24 (by kernel_rfl) rfl
  have e32 : ∀ args w, (callFunc 32 args).run Try.prog w = .ok (.enter 32 args) w := enters_of Try.func32 (by kernel_rfl) rfl
  go_enter Try.func11, Try.ntmps11
  go_wp2_with fail
  generalize hw0 : World.alloc _ _ = w0
  obtain ⟨X0, X1, hsz, hb0⟩ := blk2 hw0
  have x0 : w0.cell? ⟨w.heap.size, 0, none⟩ = some (.slice a0 s.issuers.length k0) := X0.cell 0
  have x1 : w0.cell? ⟨w.heap.size, 1, none⟩ = some (.slice a1 s.units.length k1) := X0.cell 1
  have x2 : w0.cell? ⟨w.heap.size, 2, none⟩ = some (.slice a2 s.schemas.length k2) := X0.cell 2
  have x3 : w0.cell? ⟨w.heap.size, 3, none⟩ = some (.slice a3 s.rules.length k3) := X0.cell 3
  have x4 : w0.cell? ⟨w.heap.size, 4, none⟩ = some (.slice a4 s.converts k4) := X0.cell 4
  have x5 : w0.cell? ⟨w.heap.size, 5, none⟩ = some (.slice a5 s.purposes.length k5) := X0.cell 5
  have hl_x : w.heap.size < w0.heap.size := by omega
  have y0 : w0.cell? ⟨w.heap.size + 1, 0, none⟩ = some (.slice a0 s.issuers.length k0) := X1.cell 0
  have y1 : w0.cell? ⟨w.heap.size + 1, 1, none⟩ = some (.slice a1 s.units.length k1) := X1.cell 1
  have y2 : w0.cell? ⟨w.heap.size + 1, 2, none⟩ = some (.slice a2 s.schemas.length k2) := X1.cell 2
  have y3 : w0.cell? ⟨w.heap.size + 1, 3, none⟩ = some (.slice a3 s.rules.length k3) := X1.cell 3
  have y4 : w0.cell? ⟨w.heap.size + 1, 4, none⟩ = some (.slice a4 s.converts k4) := X1.cell 4
  have y5 : w0.cell? ⟨w.heap.size + 1, 5, none⟩ = some (.slice a5 s.purposes.length k5) := X1.cell 5
  have hl_y : w.heap.size + 1 < w0.heap.size := by omega
  have hwl : w.heap.size ≤ w0.heap.size := hb0.size
  have Hb := Lib.hid hb0
  clear hw0 hb0 hsz X0 X1
  refine (limited_any s ⟨a0, k0, a1, k1, a2, k2, a3, k3, a4, k4, a5, k5⟩ _ (Hs.out.below Hb.out)).mono ?_
  rintro e w1 ⟨rfl, hb1⟩
  rw [hlim]
  replace x0 := cell_kept hb1 x0 hl_x
  replace x1 := cell_kept hb1 x1 hl_x
  replace x2 := cell_kept hb1 x2 hl_x
  replace x3 := cell_kept hb1 x3 hl_x
  replace x4 := cell_kept hb1 x4 hl_x
  replace x5 := cell_kept hb1 x5 hl_x
  replace y0 := cell_kept hb1 y0 hl_y
  replace y1 := cell_kept hb1 y1 hl_y
  replace y2 := cell_kept hb1 y2 hl_y
  replace y3 := cell_kept hb1 y3 hl_y
  replace y4 := cell_kept hb1 y4 hl_y
  replace y5 := cell_kept hb1 y5 hl_y
  replace Hb := Lib.hid (Hb.out.trans (hb1.mono hwl))
  replace hl_x := Nat.lt_of_lt_of_le hl_x hb1.size
  replace hl_y := Nat.lt_of_lt_of_le hl_y hb1.size
  replace hwl := Nat.le_trans hwl hb1.size
  clear hb1
  go_wp2_with fail
  refine (allU a1 k1 s.units 27 #[s.val ⟨a0, k0, a1, k1, a2, k2, a3, k3, a4, k4, a5, k5⟩] #[] (unitB s.units) _ ((Hs.out.below Hb.out).h1) (pred27 s _ _ _ (Hs.out.below Hb.out)) (by omega) e27 true h1).mono ?_
  rintro e w2 ⟨rfl, hb1⟩
  replace x0 := cell_kept hb1 x0 hl_x
  replace x1 := cell_kept hb1 x1 hl_x
  replace x2 := cell_kept hb1 x2 hl_x
  replace x3 := cell_kept hb1 x3 hl_x
  replace x4 := cell_kept hb1 x4 hl_x
  replace x5 := cell_kept hb1 x5 hl_x
  replace y0 := cell_kept hb1 y0 hl_y
  replace y1 := cell_kept hb1 y1 hl_y
  replace y2 := cell_kept hb1 y2 hl_y
  replace y3 := cell_kept hb1 y3 hl_y
  replace y4 := cell_kept hb1 y4 hl_y
  replace y5 := cell_kept hb1 y5 hl_y
  replace Hb := Lib.hid (Hb.out.trans (hb1.mono hwl))
  replace hl_x := Nat.lt_of_lt_of_le hl_x hb1.size
  replace hl_y := Nat.lt_of_lt_of_le hl_y hb1.size
  replace hwl := Nat.le_trans hwl hb1.size
  clear hb1
  go_wp2_with fail
  refine (allS a2 k2 s.schemas 29 #[s.val ⟨a0, k0, a1, k1, a2, k2, a3, k3, a4, k4, a5, k5⟩] #[] (schB s) _ ((Hs.out.below Hb.out).h2) (pred29 s _ _ hf) (by omega) e29 true h2).mono ?_
  rintro e w3 ⟨rfl, hb1⟩
  replace x0 := cell_kept hb1 x0 hl_x
  replace x1 := cell_kept hb1 x1 hl_x
  replace x2 := cell_kept hb1 x2 hl_x
  replace x3 := cell_kept hb1 x3 hl_x
  replace x4 := cell_kept hb1 x4 hl_x
  replace x5 := cell_kept hb1 x5 hl_x
  replace y0 := cell_kept hb1 y0 hl_y
  replace y1 := cell_kept hb1 y1 hl_y
  replace y2 := cell_kept hb1 y2 hl_y
  replace y3 := cell_kept hb1 y3 hl_y
  replace y4 := cell_kept hb1 y4 hl_y
  replace y5 := cell_kept hb1 y5 hl_y
  replace Hb := Lib.hid (Hb.out.trans (hb1.mono hwl))
  replace hl_x := Nat.lt_of_lt_of_le hl_x hb1.size
  replace hl_y := Nat.lt_of_lt_of_le hl_y hb1.size
  replace hwl := Nat.le_trans hwl hb1.size
  clear hb1
  go_wp2_with fail
  refine (allR a3 k3 s.rules 24 #[] #[.pointer (some ⟨w.heap.size + 1, 0, none⟩)] (ruleB s) _ ((Hs.out.below Hb.out).h3) (pred24 s (w.heap.size + 1) a0 a1 a2 a3 a4 a5 k0 k1 k2 k3 k4 k5 _ _ (Hs.out.below Hb.out) hl_y (by intro i v hi; match i, hi with | 0, hi => cases hi; exact y0 | 1, hi => cases hi; exact y1 | 2, hi => cases hi; exact y2 | 3, hi => cases hi; exact y3 | 4, hi => cases hi; exact y4 | 5, hi => cases hi; exact y5 | n + 6, hi => simp at hi) hf.short hgd hf.fields) (by omega) e24 false h3).mono ?_
  rintro e w4 ⟨rfl, hb1⟩
  replace x0 := cell_kept hb1 x0 hl_x
  replace x1 := cell_kept hb1 x1 hl_x
  replace x2 := cell_kept hb1 x2 hl_x
  replace x3 := cell_kept hb1 x3 hl_x
  replace x4 := cell_kept hb1 x4 hl_x
  replace x5 := cell_kept hb1 x5 hl_x
  replace y0 := cell_kept hb1 y0 hl_y
  replace y1 := cell_kept hb1 y1 hl_y
  replace y2 := cell_kept hb1 y2 hl_y
  replace y3 := cell_kept hb1 y3 hl_y
  replace y4 := cell_kept hb1 y4 hl_y
  replace y5 := cell_kept hb1 y5 hl_y
  replace Hb := Lib.hid (Hb.out.trans (hb1.mono hwl))
  replace hl_x := Nat.lt_of_lt_of_le hl_x hb1.size
  replace hl_y := Nat.lt_of_lt_of_le hl_y hb1.size
  replace hwl := Nat.le_trans hwl hb1.size
  clear hb1
  go_wp2
  go_ret
  exact ⟨ret_i (by simp [checkB, hlim, h1, h2, h3]), Hb.out⟩

set_option maxRecDepth 20000 in
set_option maxHeartbeats 4000000 in
theorem check_p (s : SourceD) (p : SrcAt) (w : World) (hs : Src w s p) (hf : Few s) (hlim : limB s = true) (h1 : s.units.all (unitB s.units) = true) (h2 : s.schemas.all (schB s) = true) (hgd : Good s) (h3 : s.rules.all (ruleB s) = true) (h4 : s.purposes.all (purpB s) = false) :
    Calls Try.prog 11 #[s.val p] w fun e w' => e = .returned (.int .i64 (checkB s)) ∧ Below w.heap.size w w' := by
  obtain ⟨a0, k0, a1, k1, a2, k2, a3, k3, a4, k4, a5, k5⟩ := p
  have Hs := Lib.hid hs
  clear hs
  obtain ⟨l1, l2, l3, l4, hmay⟩ := limB_facts hlim
  have e27 : ∀ args w, (callFunc 27 args).run Try.prog w = .ok (.enter 27 args) w := enters_of Try.func27 (by kernel_rfl) rfl
  have e29 : ∀ args w, (callFunc 29 args).run Try.prog w = .ok (.enter 29 args) w := enters_of Try.func29 (by kernel_rfl) rfl
  have e24 : ∀ args w, (callFunc 24 args).run Try.prog w = .ok (.enter 24 args) w := enters_of Try.func24 (by kernel_rfl) rfl
  have e32 : ∀ args w, (callFunc 32 args).run Try.prog w = .ok (.enter 32 args) w := enters_of Try.func32 (by kernel_rfl) rfl
  go_enter Try.func11, Try.ntmps11
  go_wp2_with fail
  generalize hw0 : World.alloc _ _ = w0
  obtain ⟨X0, X1, hsz, hb0⟩ := blk2 hw0
  have x0 : w0.cell? ⟨w.heap.size, 0, none⟩ = some (.slice a0 s.issuers.length k0) := X0.cell 0
  have x1 : w0.cell? ⟨w.heap.size, 1, none⟩ = some (.slice a1 s.units.length k1) := X0.cell 1
  have x2 : w0.cell? ⟨w.heap.size, 2, none⟩ = some (.slice a2 s.schemas.length k2) := X0.cell 2
  have x3 : w0.cell? ⟨w.heap.size, 3, none⟩ = some (.slice a3 s.rules.length k3) := X0.cell 3
  have x4 : w0.cell? ⟨w.heap.size, 4, none⟩ = some (.slice a4 s.converts k4) := X0.cell 4
  have x5 : w0.cell? ⟨w.heap.size, 5, none⟩ = some (.slice a5 s.purposes.length k5) := X0.cell 5
  have hl_x : w.heap.size < w0.heap.size := by omega
  have y0 : w0.cell? ⟨w.heap.size + 1, 0, none⟩ = some (.slice a0 s.issuers.length k0) := X1.cell 0
  have y1 : w0.cell? ⟨w.heap.size + 1, 1, none⟩ = some (.slice a1 s.units.length k1) := X1.cell 1
  have y2 : w0.cell? ⟨w.heap.size + 1, 2, none⟩ = some (.slice a2 s.schemas.length k2) := X1.cell 2
  have y3 : w0.cell? ⟨w.heap.size + 1, 3, none⟩ = some (.slice a3 s.rules.length k3) := X1.cell 3
  have y4 : w0.cell? ⟨w.heap.size + 1, 4, none⟩ = some (.slice a4 s.converts k4) := X1.cell 4
  have y5 : w0.cell? ⟨w.heap.size + 1, 5, none⟩ = some (.slice a5 s.purposes.length k5) := X1.cell 5
  have hl_y : w.heap.size + 1 < w0.heap.size := by omega
  have hwl : w.heap.size ≤ w0.heap.size := hb0.size
  have Hb := Lib.hid hb0
  clear hw0 hb0 hsz X0 X1
  refine (limited_any s ⟨a0, k0, a1, k1, a2, k2, a3, k3, a4, k4, a5, k5⟩ _ (Hs.out.below Hb.out)).mono ?_
  rintro e w1 ⟨rfl, hb1⟩
  rw [hlim]
  replace x0 := cell_kept hb1 x0 hl_x
  replace x1 := cell_kept hb1 x1 hl_x
  replace x2 := cell_kept hb1 x2 hl_x
  replace x3 := cell_kept hb1 x3 hl_x
  replace x4 := cell_kept hb1 x4 hl_x
  replace x5 := cell_kept hb1 x5 hl_x
  replace y0 := cell_kept hb1 y0 hl_y
  replace y1 := cell_kept hb1 y1 hl_y
  replace y2 := cell_kept hb1 y2 hl_y
  replace y3 := cell_kept hb1 y3 hl_y
  replace y4 := cell_kept hb1 y4 hl_y
  replace y5 := cell_kept hb1 y5 hl_y
  replace Hb := Lib.hid (Hb.out.trans (hb1.mono hwl))
  replace hl_x := Nat.lt_of_lt_of_le hl_x hb1.size
  replace hl_y := Nat.lt_of_lt_of_le hl_y hb1.size
  replace hwl := Nat.le_trans hwl hb1.size
  clear hb1
  go_wp2_with fail
  refine (allU a1 k1 s.units 27 #[s.val ⟨a0, k0, a1, k1, a2, k2, a3, k3, a4, k4, a5, k5⟩] #[] (unitB s.units) _ ((Hs.out.below Hb.out).h1) (pred27 s _ _ _ (Hs.out.below Hb.out)) (by omega) e27 true h1).mono ?_
  rintro e w2 ⟨rfl, hb1⟩
  replace x0 := cell_kept hb1 x0 hl_x
  replace x1 := cell_kept hb1 x1 hl_x
  replace x2 := cell_kept hb1 x2 hl_x
  replace x3 := cell_kept hb1 x3 hl_x
  replace x4 := cell_kept hb1 x4 hl_x
  replace x5 := cell_kept hb1 x5 hl_x
  replace y0 := cell_kept hb1 y0 hl_y
  replace y1 := cell_kept hb1 y1 hl_y
  replace y2 := cell_kept hb1 y2 hl_y
  replace y3 := cell_kept hb1 y3 hl_y
  replace y4 := cell_kept hb1 y4 hl_y
  replace y5 := cell_kept hb1 y5 hl_y
  replace Hb := Lib.hid (Hb.out.trans (hb1.mono hwl))
  replace hl_x := Nat.lt_of_lt_of_le hl_x hb1.size
  replace hl_y := Nat.lt_of_lt_of_le hl_y hb1.size
  replace hwl := Nat.le_trans hwl hb1.size
  clear hb1
  go_wp2_with fail
  refine (allS a2 k2 s.schemas 29 #[s.val ⟨a0, k0, a1, k1, a2, k2, a3, k3, a4, k4, a5, k5⟩] #[] (schB s) _ ((Hs.out.below Hb.out).h2) (pred29 s _ _ hf) (by omega) e29 true h2).mono ?_
  rintro e w3 ⟨rfl, hb1⟩
  replace x0 := cell_kept hb1 x0 hl_x
  replace x1 := cell_kept hb1 x1 hl_x
  replace x2 := cell_kept hb1 x2 hl_x
  replace x3 := cell_kept hb1 x3 hl_x
  replace x4 := cell_kept hb1 x4 hl_x
  replace x5 := cell_kept hb1 x5 hl_x
  replace y0 := cell_kept hb1 y0 hl_y
  replace y1 := cell_kept hb1 y1 hl_y
  replace y2 := cell_kept hb1 y2 hl_y
  replace y3 := cell_kept hb1 y3 hl_y
  replace y4 := cell_kept hb1 y4 hl_y
  replace y5 := cell_kept hb1 y5 hl_y
  replace Hb := Lib.hid (Hb.out.trans (hb1.mono hwl))
  replace hl_x := Nat.lt_of_lt_of_le hl_x hb1.size
  replace hl_y := Nat.lt_of_lt_of_le hl_y hb1.size
  replace hwl := Nat.le_trans hwl hb1.size
  clear hb1
  go_wp2_with fail
  refine (allR a3 k3 s.rules 24 #[] #[.pointer (some ⟨w.heap.size + 1, 0, none⟩)] (ruleB s) _ ((Hs.out.below Hb.out).h3) (pred24 s (w.heap.size + 1) a0 a1 a2 a3 a4 a5 k0 k1 k2 k3 k4 k5 _ _ (Hs.out.below Hb.out) hl_y (by intro i v hi; match i, hi with | 0, hi => cases hi; exact y0 | 1, hi => cases hi; exact y1 | 2, hi => cases hi; exact y2 | 3, hi => cases hi; exact y3 | 4, hi => cases hi; exact y4 | 5, hi => cases hi; exact y5 | n + 6, hi => simp at hi) hf.short hgd hf.fields) (by omega) e24 true h3).mono ?_
  rintro e w4 ⟨rfl, hb1⟩
  replace x0 := cell_kept hb1 x0 hl_x
  replace x1 := cell_kept hb1 x1 hl_x
  replace x2 := cell_kept hb1 x2 hl_x
  replace x3 := cell_kept hb1 x3 hl_x
  replace x4 := cell_kept hb1 x4 hl_x
  replace x5 := cell_kept hb1 x5 hl_x
  replace y0 := cell_kept hb1 y0 hl_y
  replace y1 := cell_kept hb1 y1 hl_y
  replace y2 := cell_kept hb1 y2 hl_y
  replace y3 := cell_kept hb1 y3 hl_y
  replace y4 := cell_kept hb1 y4 hl_y
  replace y5 := cell_kept hb1 y5 hl_y
  replace Hb := Lib.hid (Hb.out.trans (hb1.mono hwl))
  replace hl_x := Nat.lt_of_lt_of_le hl_x hb1.size
  replace hl_y := Nat.lt_of_lt_of_le hl_y hb1.size
  replace hwl := Nat.le_trans hwl hb1.size
  clear hb1
  go_wp2_with fail
  refine (allP a5 k5 s.purposes 32 #[s.val ⟨a0, k0, a1, k1, a2, k2, a3, k3, a4, k4, a5, k5⟩] #[] (purpB s) _ ((Hs.out.below Hb.out).h5) (pred32 s _ _ (Hs.out.below Hb.out) hmay) (by omega) e32 false h4).mono ?_
  rintro e w5 ⟨rfl, hb1⟩
  replace x0 := cell_kept hb1 x0 hl_x
  replace x1 := cell_kept hb1 x1 hl_x
  replace x2 := cell_kept hb1 x2 hl_x
  replace x3 := cell_kept hb1 x3 hl_x
  replace x4 := cell_kept hb1 x4 hl_x
  replace x5 := cell_kept hb1 x5 hl_x
  replace y0 := cell_kept hb1 y0 hl_y
  replace y1 := cell_kept hb1 y1 hl_y
  replace y2 := cell_kept hb1 y2 hl_y
  replace y3 := cell_kept hb1 y3 hl_y
  replace y4 := cell_kept hb1 y4 hl_y
  replace y5 := cell_kept hb1 y5 hl_y
  replace Hb := Lib.hid (Hb.out.trans (hb1.mono hwl))
  replace hl_x := Nat.lt_of_lt_of_le hl_x hb1.size
  replace hl_y := Nat.lt_of_lt_of_le hl_y hb1.size
  replace hwl := Nat.le_trans hwl hb1.size
  clear hb1
  go_wp2
  go_ret
  exact ⟨ret_i (by simp [checkB, hlim, h1, h2, h3, h4]), Hb.out⟩

set_option maxRecDepth 20000 in
set_option maxHeartbeats 4000000 in
theorem check_o (s : SourceD) (p : SrcAt) (w : World) (hs : Src w s p) (hf : Few s) (hlim : limB s = true) (h1 : s.units.all (unitB s.units) = true) (h2 : s.schemas.all (schB s) = true) (hgd : Good s) (h3 : s.rules.all (ruleB s) = true) (h4 : s.purposes.all (purpB s) = true) :
    Calls Try.prog 11 #[s.val p] w fun e w' => e = .returned (.int .i64 (checkB s)) ∧ Below w.heap.size w w' := by
  obtain ⟨a0, k0, a1, k1, a2, k2, a3, k3, a4, k4, a5, k5⟩ := p
  have Hs := Lib.hid hs
  clear hs
  obtain ⟨l1, l2, l3, l4, hmay⟩ := limB_facts hlim
  have e27 : ∀ args w, (callFunc 27 args).run Try.prog w = .ok (.enter 27 args) w := enters_of Try.func27 (by kernel_rfl) rfl
  have e29 : ∀ args w, (callFunc 29 args).run Try.prog w = .ok (.enter 29 args) w := enters_of Try.func29 (by kernel_rfl) rfl
  have e24 : ∀ args w, (callFunc 24 args).run Try.prog w = .ok (.enter 24 args) w := enters_of Try.func24 (by kernel_rfl) rfl
  have e32 : ∀ args w, (callFunc 32 args).run Try.prog w = .ok (.enter 32 args) w := enters_of Try.func32 (by kernel_rfl) rfl
  go_enter Try.func11, Try.ntmps11
  go_wp2_with fail
  generalize hw0 : World.alloc _ _ = w0
  obtain ⟨X0, X1, hsz, hb0⟩ := blk2 hw0
  have x0 : w0.cell? ⟨w.heap.size, 0, none⟩ = some (.slice a0 s.issuers.length k0) := X0.cell 0
  have x1 : w0.cell? ⟨w.heap.size, 1, none⟩ = some (.slice a1 s.units.length k1) := X0.cell 1
  have x2 : w0.cell? ⟨w.heap.size, 2, none⟩ = some (.slice a2 s.schemas.length k2) := X0.cell 2
  have x3 : w0.cell? ⟨w.heap.size, 3, none⟩ = some (.slice a3 s.rules.length k3) := X0.cell 3
  have x4 : w0.cell? ⟨w.heap.size, 4, none⟩ = some (.slice a4 s.converts k4) := X0.cell 4
  have x5 : w0.cell? ⟨w.heap.size, 5, none⟩ = some (.slice a5 s.purposes.length k5) := X0.cell 5
  have hl_x : w.heap.size < w0.heap.size := by omega
  have y0 : w0.cell? ⟨w.heap.size + 1, 0, none⟩ = some (.slice a0 s.issuers.length k0) := X1.cell 0
  have y1 : w0.cell? ⟨w.heap.size + 1, 1, none⟩ = some (.slice a1 s.units.length k1) := X1.cell 1
  have y2 : w0.cell? ⟨w.heap.size + 1, 2, none⟩ = some (.slice a2 s.schemas.length k2) := X1.cell 2
  have y3 : w0.cell? ⟨w.heap.size + 1, 3, none⟩ = some (.slice a3 s.rules.length k3) := X1.cell 3
  have y4 : w0.cell? ⟨w.heap.size + 1, 4, none⟩ = some (.slice a4 s.converts k4) := X1.cell 4
  have y5 : w0.cell? ⟨w.heap.size + 1, 5, none⟩ = some (.slice a5 s.purposes.length k5) := X1.cell 5
  have hl_y : w.heap.size + 1 < w0.heap.size := by omega
  have hwl : w.heap.size ≤ w0.heap.size := hb0.size
  have Hb := Lib.hid hb0
  clear hw0 hb0 hsz X0 X1
  refine (limited_any s ⟨a0, k0, a1, k1, a2, k2, a3, k3, a4, k4, a5, k5⟩ _ (Hs.out.below Hb.out)).mono ?_
  rintro e w1 ⟨rfl, hb1⟩
  rw [hlim]
  replace x0 := cell_kept hb1 x0 hl_x
  replace x1 := cell_kept hb1 x1 hl_x
  replace x2 := cell_kept hb1 x2 hl_x
  replace x3 := cell_kept hb1 x3 hl_x
  replace x4 := cell_kept hb1 x4 hl_x
  replace x5 := cell_kept hb1 x5 hl_x
  replace y0 := cell_kept hb1 y0 hl_y
  replace y1 := cell_kept hb1 y1 hl_y
  replace y2 := cell_kept hb1 y2 hl_y
  replace y3 := cell_kept hb1 y3 hl_y
  replace y4 := cell_kept hb1 y4 hl_y
  replace y5 := cell_kept hb1 y5 hl_y
  replace Hb := Lib.hid (Hb.out.trans (hb1.mono hwl))
  replace hl_x := Nat.lt_of_lt_of_le hl_x hb1.size
  replace hl_y := Nat.lt_of_lt_of_le hl_y hb1.size
  replace hwl := Nat.le_trans hwl hb1.size
  clear hb1
  go_wp2_with fail
  refine (allU a1 k1 s.units 27 #[s.val ⟨a0, k0, a1, k1, a2, k2, a3, k3, a4, k4, a5, k5⟩] #[] (unitB s.units) _ ((Hs.out.below Hb.out).h1) (pred27 s _ _ _ (Hs.out.below Hb.out)) (by omega) e27 true h1).mono ?_
  rintro e w2 ⟨rfl, hb1⟩
  replace x0 := cell_kept hb1 x0 hl_x
  replace x1 := cell_kept hb1 x1 hl_x
  replace x2 := cell_kept hb1 x2 hl_x
  replace x3 := cell_kept hb1 x3 hl_x
  replace x4 := cell_kept hb1 x4 hl_x
  replace x5 := cell_kept hb1 x5 hl_x
  replace y0 := cell_kept hb1 y0 hl_y
  replace y1 := cell_kept hb1 y1 hl_y
  replace y2 := cell_kept hb1 y2 hl_y
  replace y3 := cell_kept hb1 y3 hl_y
  replace y4 := cell_kept hb1 y4 hl_y
  replace y5 := cell_kept hb1 y5 hl_y
  replace Hb := Lib.hid (Hb.out.trans (hb1.mono hwl))
  replace hl_x := Nat.lt_of_lt_of_le hl_x hb1.size
  replace hl_y := Nat.lt_of_lt_of_le hl_y hb1.size
  replace hwl := Nat.le_trans hwl hb1.size
  clear hb1
  go_wp2_with fail
  refine (allS a2 k2 s.schemas 29 #[s.val ⟨a0, k0, a1, k1, a2, k2, a3, k3, a4, k4, a5, k5⟩] #[] (schB s) _ ((Hs.out.below Hb.out).h2) (pred29 s _ _ hf) (by omega) e29 true h2).mono ?_
  rintro e w3 ⟨rfl, hb1⟩
  replace x0 := cell_kept hb1 x0 hl_x
  replace x1 := cell_kept hb1 x1 hl_x
  replace x2 := cell_kept hb1 x2 hl_x
  replace x3 := cell_kept hb1 x3 hl_x
  replace x4 := cell_kept hb1 x4 hl_x
  replace x5 := cell_kept hb1 x5 hl_x
  replace y0 := cell_kept hb1 y0 hl_y
  replace y1 := cell_kept hb1 y1 hl_y
  replace y2 := cell_kept hb1 y2 hl_y
  replace y3 := cell_kept hb1 y3 hl_y
  replace y4 := cell_kept hb1 y4 hl_y
  replace y5 := cell_kept hb1 y5 hl_y
  replace Hb := Lib.hid (Hb.out.trans (hb1.mono hwl))
  replace hl_x := Nat.lt_of_lt_of_le hl_x hb1.size
  replace hl_y := Nat.lt_of_lt_of_le hl_y hb1.size
  replace hwl := Nat.le_trans hwl hb1.size
  clear hb1
  go_wp2_with fail
  refine (allR a3 k3 s.rules 24 #[] #[.pointer (some ⟨w.heap.size + 1, 0, none⟩)] (ruleB s) _ ((Hs.out.below Hb.out).h3) (pred24 s (w.heap.size + 1) a0 a1 a2 a3 a4 a5 k0 k1 k2 k3 k4 k5 _ _ (Hs.out.below Hb.out) hl_y (by intro i v hi; match i, hi with | 0, hi => cases hi; exact y0 | 1, hi => cases hi; exact y1 | 2, hi => cases hi; exact y2 | 3, hi => cases hi; exact y3 | 4, hi => cases hi; exact y4 | 5, hi => cases hi; exact y5 | n + 6, hi => simp at hi) hf.short hgd hf.fields) (by omega) e24 true h3).mono ?_
  rintro e w4 ⟨rfl, hb1⟩
  replace x0 := cell_kept hb1 x0 hl_x
  replace x1 := cell_kept hb1 x1 hl_x
  replace x2 := cell_kept hb1 x2 hl_x
  replace x3 := cell_kept hb1 x3 hl_x
  replace x4 := cell_kept hb1 x4 hl_x
  replace x5 := cell_kept hb1 x5 hl_x
  replace y0 := cell_kept hb1 y0 hl_y
  replace y1 := cell_kept hb1 y1 hl_y
  replace y2 := cell_kept hb1 y2 hl_y
  replace y3 := cell_kept hb1 y3 hl_y
  replace y4 := cell_kept hb1 y4 hl_y
  replace y5 := cell_kept hb1 y5 hl_y
  replace Hb := Lib.hid (Hb.out.trans (hb1.mono hwl))
  replace hl_x := Nat.lt_of_lt_of_le hl_x hb1.size
  replace hl_y := Nat.lt_of_lt_of_le hl_y hb1.size
  replace hwl := Nat.le_trans hwl hb1.size
  clear hb1
  go_wp2_with fail
  refine (allP a5 k5 s.purposes 32 #[s.val ⟨a0, k0, a1, k1, a2, k2, a3, k3, a4, k4, a5, k5⟩] #[] (purpB s) _ ((Hs.out.below Hb.out).h5) (pred32 s _ _ (Hs.out.below Hb.out) hmay) (by omega) e32 true h4).mono ?_
  rintro e w5 ⟨rfl, hb1⟩
  replace x0 := cell_kept hb1 x0 hl_x
  replace x1 := cell_kept hb1 x1 hl_x
  replace x2 := cell_kept hb1 x2 hl_x
  replace x3 := cell_kept hb1 x3 hl_x
  replace x4 := cell_kept hb1 x4 hl_x
  replace x5 := cell_kept hb1 x5 hl_x
  replace y0 := cell_kept hb1 y0 hl_y
  replace y1 := cell_kept hb1 y1 hl_y
  replace y2 := cell_kept hb1 y2 hl_y
  replace y3 := cell_kept hb1 y3 hl_y
  replace y4 := cell_kept hb1 y4 hl_y
  replace y5 := cell_kept hb1 y5 hl_y
  replace Hb := Lib.hid (Hb.out.trans (hb1.mono hwl))
  replace hl_x := Nat.lt_of_lt_of_le hl_x hb1.size
  replace hl_y := Nat.lt_of_lt_of_le hl_y hb1.size
  replace hwl := Nat.le_trans hwl hb1.size
  clear hb1
  go_wp2
  go_ret
  exact ⟨ret_i (by simp [checkB, hlim, h1, h2, h3, h4]), Hb.out⟩

set_option maxRecDepth 20000 in
set_option maxHeartbeats 4000000 in
theorem check_any (s : SourceD) (p : SrcAt) (w : World) (hs : Src w s p) (hf : Few s) :
    Calls Try.prog 11 #[s.val p] w fun e w' => e = .returned (.int .i64 (checkB s)) ∧ Below w.heap.size w w' := by
  cases hlim : limB s with
  | false =>
    obtain ⟨a0, k0, a1, k1, a2, k2, a3, k3, a4, k4, a5, k5⟩ := p
    have Hs := Lib.hid hs
    clear hs
    go_enter Try.func11, Try.ntmps11
    go_wp2_with fail
    generalize hw0 : World.alloc _ _ = w0
    obtain ⟨X0, X1, hsz, hb0⟩ := blk2 hw0
    have x0 : w0.cell? ⟨w.heap.size, 0, none⟩ = some (.slice a0 s.issuers.length k0) := X0.cell 0
    have x1 : w0.cell? ⟨w.heap.size, 1, none⟩ = some (.slice a1 s.units.length k1) := X0.cell 1
    have x2 : w0.cell? ⟨w.heap.size, 2, none⟩ = some (.slice a2 s.schemas.length k2) := X0.cell 2
    have x3 : w0.cell? ⟨w.heap.size, 3, none⟩ = some (.slice a3 s.rules.length k3) := X0.cell 3
    have x4 : w0.cell? ⟨w.heap.size, 4, none⟩ = some (.slice a4 s.converts k4) := X0.cell 4
    have x5 : w0.cell? ⟨w.heap.size, 5, none⟩ = some (.slice a5 s.purposes.length k5) := X0.cell 5
    have hl_x : w.heap.size < w0.heap.size := by omega
    have y0 : w0.cell? ⟨w.heap.size + 1, 0, none⟩ = some (.slice a0 s.issuers.length k0) := X1.cell 0
    have y1 : w0.cell? ⟨w.heap.size + 1, 1, none⟩ = some (.slice a1 s.units.length k1) := X1.cell 1
    have y2 : w0.cell? ⟨w.heap.size + 1, 2, none⟩ = some (.slice a2 s.schemas.length k2) := X1.cell 2
    have y3 : w0.cell? ⟨w.heap.size + 1, 3, none⟩ = some (.slice a3 s.rules.length k3) := X1.cell 3
    have y4 : w0.cell? ⟨w.heap.size + 1, 4, none⟩ = some (.slice a4 s.converts k4) := X1.cell 4
    have y5 : w0.cell? ⟨w.heap.size + 1, 5, none⟩ = some (.slice a5 s.purposes.length k5) := X1.cell 5
    have hl_y : w.heap.size + 1 < w0.heap.size := by omega
    have hwl : w.heap.size ≤ w0.heap.size := hb0.size
    have Hb := Lib.hid hb0
    clear hw0 hb0 hsz X0 X1
    refine (limited_any s ⟨a0, k0, a1, k1, a2, k2, a3, k3, a4, k4, a5, k5⟩ _ (Hs.out.below Hb.out)).mono ?_
    rintro e w1 ⟨rfl, hb1⟩
    rw [hlim]
    replace x0 := cell_kept hb1 x0 hl_x
    replace x1 := cell_kept hb1 x1 hl_x
    replace x2 := cell_kept hb1 x2 hl_x
    replace x3 := cell_kept hb1 x3 hl_x
    replace x4 := cell_kept hb1 x4 hl_x
    replace x5 := cell_kept hb1 x5 hl_x
    replace y0 := cell_kept hb1 y0 hl_y
    replace y1 := cell_kept hb1 y1 hl_y
    replace y2 := cell_kept hb1 y2 hl_y
    replace y3 := cell_kept hb1 y3 hl_y
    replace y4 := cell_kept hb1 y4 hl_y
    replace y5 := cell_kept hb1 y5 hl_y
    replace Hb := Lib.hid (Hb.out.trans (hb1.mono hwl))
    replace hl_x := Nat.lt_of_lt_of_le hl_x hb1.size
    replace hl_y := Nat.lt_of_lt_of_le hl_y hb1.size
    replace hwl := Nat.le_trans hwl hb1.size
    clear hb1
    go_wp2
    go_ret
    exact ⟨ret_i (by simp [checkB, hlim]), Hb.out⟩
  | true =>
    cases h1 : s.units.all (unitB s.units) with
    | false => exact check_u s p w hs hf hlim h1
    | true =>
      cases h2 : s.schemas.all (schB s) with
      | false => exact check_s s p w hs hf hlim h1 h2
      | true =>
        have hgd := good_of h2
        cases h3 : s.rules.all (ruleB s) with
        | false => exact check_r s p w hs hf hlim h1 h2 hgd h3
        | true =>
          cases h4 : s.purposes.all (purpB s) with
          | false => exact check_p s p w hs hf hlim h1 h2 hgd h3 h4
          | true => exact check_o s p w hs hf hlim h1 h2 hgd h3 h4
end Go.Proofs.Ytogenjbabgibbaa
