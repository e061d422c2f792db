/- TypesCheckSpec: for every source the law returns true and leaves its argument as it was. No condition. -/
import Derived.Test.YtogenjbabgibbaaKE4
import Derived.Test.YtogenjbabgibbaaKL1
import Derived.Test.YtogenjbabgibbaaKO1
namespace Go.Proofs.Ytogenjbabgibbaa
open Go.ChangeShapes Go.WideShapes Go.ChangeAt Go.RowKit
theorem few_eq (s : SourceD) (p : SrcAt) (w : World) (hs : Src w s p) (hn : Lens s) (r : Bool) (hr : fewB s = r) :
    Calls Try.prog 10 #[s.val p] w fun e w' => e = .returned (.bool r) ∧ Below w.heap.size w w' := by
  subst hr
  exact few_any s p w hs hn
theorem few_may {s : SourceD} (h : fewB s = true) : ∀ x ∈ s.purposes, x.may.length ≤ 100000 := fun x hx => by
  unfold fewB at h
  simp only [Bool.and_eq_true] at h
  have h1 := List.all_eq_true.1 h.2.2.1 x hx
  simp [fewP] at h1
  omega
theorem check_eq (s : SourceD) (p : SrcAt) (w : World) (hs : Src w s p) (hf : fewB s = true) (r : Int) (hr : checkB s = r) :
    Calls Try.prog 11 #[s.val p] w fun e w' => e = .returned (.int .i64 r) ∧ Below w.heap.size w w' := by
  subst hr
  exact check_any s p w hs (few_of hf)
theorem rcheck_eq (s : SourceD) (p : SrcAt) (w : World) (hs : Src w s p) (hf : fewB s = true) (r : Int) (hr : checkB s = r) :
    Calls Try.prog 12 #[s.val p] w fun e w' => e = .returned (.int .i64 r) ∧ Below w.heap.size w w' := by
  subst hr
  rw [check_law]
  exact rcheck_any s p w hs (few_of hf) (few_may hf)
namespace typesCheckSpec
set_option maxRecDepth 20000 in
set_option maxHeartbeats 4000000 in
theorem walk (s : SourceD) (p : SrcAt) (w : World) (hs : Src w s p) (hn : Lens s) :
    Calls Try.prog 3 #[s.val p] w fun e w' => e = .returned (.bool true) ∧ Below w.heap.size w w' := by
  obtain ⟨a0, k0, a1, k1, a2, k2, a3, k3, a4, k4, a5, k5⟩ := p
  have Hs := Lib.hid hs
  clear hs
  obtain ⟨c, hc⟩ : ∃ c, checkB s = c := ⟨_, rfl⟩
  have Hc := Lib.hid hc
  clear hc
  go_enter Try.func3, Try.ntmps3
  go_wp2_with fail
  generalize hw0 : World.alloc _ _ = w0
  obtain ⟨X0, hsz, hb0⟩ := blk1 hw0
  have x0 : w0.cell? ⟨w.heap.size, 0, none⟩ = some (.slice a0 s.issuers.length k0) := X0.cell 0
  have x1 : w0.cell? ⟨w.heap.size, 1, none⟩ = some (.slice a1 s.units.length k1) := X0.cell 1
  have x2 : w0.cell? ⟨w.heap.size, 2, none⟩ = some (.slice a2 s.schemas.length k2) := X0.cell 2
  have x3 : w0.cell? ⟨w.heap.size, 3, none⟩ = some (.slice a3 s.rules.length k3) := X0.cell 3
  have x4 : w0.cell? ⟨w.heap.size, 4, none⟩ = some (.slice a4 s.converts k4) := X0.cell 4
  have x5 : w0.cell? ⟨w.heap.size, 5, none⟩ = some (.slice a5 s.purposes.length k5) := X0.cell 5
  have hl_x : w.heap.size < w0.heap.size := by omega
  have hwl : w.heap.size ≤ w0.heap.size := hb0.size
  have Hb := Lib.hid hb0
  clear hw0 hb0 hsz X0
  refine (sane_any _).mono ?_
  rintro e w1 ⟨rfl, hb1⟩
  replace x0 := cell_kept hb1 x0 hl_x
  replace x1 := cell_kept hb1 x1 hl_x
  replace x2 := cell_kept hb1 x2 hl_x
  replace x3 := cell_kept hb1 x3 hl_x
  replace x4 := cell_kept hb1 x4 hl_x
  replace x5 := cell_kept hb1 x5 hl_x
  replace Hb := Lib.hid (Hb.out.trans (hb1.mono hwl))
  replace hl_x := Nat.lt_of_lt_of_le hl_x hb1.size
  replace hwl := Nat.le_trans hwl hb1.size
  clear hb1
  cases hf : fewB s with
  | false =>
    have Hf := Lib.hid hf
    clear hf
    go_wp2_with fail
    refine wp_region_grown (by kernel_rfl) (by kernel_rfl) ?_
    repeat (go_big_quiet_step (first | (go_at_call 10; exact calls_grown (few_eq s ⟨a0, k0, a1, k1, a2, k2, a3, k3, a4, k4, a5, k5⟩ _ (Hs.out.below (Hb.out.trans ((grown_below _ _).mono hwl))) hn false Hf.out))))
    refine wpQuiet_nil ?_
    intro w2 hw0
    have hb1 : Below w1.heap.size w1 w2 := by obtain ⟨n, rfl⟩ := hw0; exact grown_below _ n
    clear hw0
    replace x0 := cell_kept hb1 x0 hl_x
    replace x1 := cell_kept hb1 x1 hl_x
    replace x2 := cell_kept hb1 x2 hl_x
    replace x3 := cell_kept hb1 x3 hl_x
    replace x4 := cell_kept hb1 x4 hl_x
    replace x5 := cell_kept hb1 x5 hl_x
    replace Hb := Lib.hid (Hb.out.trans (hb1.mono hwl))
    replace hl_x := Nat.lt_of_lt_of_le hl_x hb1.size
    replace hwl := Nat.le_trans hwl hb1.size
    clear hb1
    go_wp2
    go_ret
    exact ⟨rfl, Hb.out⟩
  | true =>
    have Hf := Lib.hid hf
    clear hf
    go_wp2_with fail
    refine wp_region_grown (by kernel_rfl) (by kernel_rfl) ?_
    repeat (go_big_quiet_step (first | (go_at_call 10; exact calls_grown (few_eq s ⟨a0, k0, a1, k1, a2, k2, a3, k3, a4, k4, a5, k5⟩ _ (Hs.out.below (Hb.out.trans ((grown_below _ _).mono hwl))) hn true Hf.out)) | (go_at_call 11; exact calls_grown (check_eq s ⟨a0, k0, a1, k1, a2, k2, a3, k3, a4, k4, a5, k5⟩ _ (Hs.out.below (Hb.out.trans ((grown_below _ _).mono hwl))) Hf.out c Hc.out)) | (go_at_call 12; exact calls_grown (rcheck_eq s ⟨a0, k0, a1, k1, a2, k2, a3, k3, a4, k4, a5, k5⟩ _ (Hs.out.below (Hb.out.trans ((grown_below _ _).mono hwl))) Hf.out c Hc.out))))
    refine wpQuiet_nil ?_
    intro w2 hw0
    have hb1 : Below w1.heap.size w1 w2 := by obtain ⟨n, rfl⟩ := hw0; exact grown_below _ n
    clear hw0
    replace x0 := cell_kept hb1 x0 hl_x
    replace x1 := cell_kept hb1 x1 hl_x
    replace x2 := cell_kept hb1 x2 hl_x
    replace x3 := cell_kept hb1 x3 hl_x
    replace x4 := cell_kept hb1 x4 hl_x
    replace x5 := cell_kept hb1 x5 hl_x
    replace Hb := Lib.hid (Hb.out.trans (hb1.mono hwl))
    replace hl_x := Nat.lt_of_lt_of_le hl_x hb1.size
    replace hwl := Nat.le_trans hwl hb1.size
    clear hb1
    go_wp2
    go_ret
    exact ⟨by first | rfl | simp, Hb.out⟩

theorem own : ownKnob Try.prog.godebug = none := by kernel_rfl
theorem laidOut : laidOutB Try.prog = true := by kernel_rfl
set_option maxRecDepth 100000 in
theorem lifted (os : Os) (started : os.Started) (H : Type) (enc : TypeId × Value → H) :
    ReturnsInHanded {} Try.checked os 3 .any (Rows.typesCheckSpecSpec.pre6 enc Try.prog Try.f3 Rows.typesCheckSpecRow.domain false) (Rows.typesCheckSpecSpec.post enc Try.prog Try.f3 false true false false) := by
  refine returnsInHanded_of_change (C := Try.checked) own started (by kernel_rfl) Try.func3
    (ChangeSpec.witness6 (enc := enc) (C := Try.checked) false ⟨#[], #[.agg #[.slice none 0 0, .slice none 0 0, .slice none 0 0, .slice none 0 0, .slice none 0 0, .slice none 0 0]], []⟩ 8 (by kernel_rfl) (by kernel_rfl) (by kernel_rfl) (by kernel_rfl)) ?_
  intro W base args ds gs before hval0 hW hcnd _
  have hval : ∀ (j : Nat) t v, Try.f3.params[j]? = some t → args[j]? = some v → Value.okWide Try.prog W .any base t v := hval0
  have hW' := hW
  obtain ⟨p, q, hA0, hV, rfl, hfz, hnd⟩ := hW
  have hA : DataW.TrodAll enc Try.prog W 0 (fun _ => true) true Try.f3.params.toList args.toList ds p := hA0
  rw [Try.params3] at hA hval
  obtain ⟨v0, vs0, d0, ds0, p0, q0, hargs, rfl, rfl, h0, r0⟩ := trodAll_cons hA
  obtain ⟨rfl, rfl, rfl⟩ := trodAll_nil r0
  obtain rfl : args = #[v0] := by cases args; simp_all
  obtain ⟨rfl, rfl⟩ := trodVars_none hV
  have k0 := h0
  have lt0 : ∀ x ∈ p0, x.block < W.heap.size := by obtain ⟨m, hm⟩ := k0; exact DataW.trod_lt m _ _ _ hm
  obtain ⟨s0, at0, rfl, hs0, hn0⟩ := open_source (hval 0 29 v0 rfl rfl) h0
  clear hA0 hval0
  refine (walk s0 at0 W hs0 hn0).mono fun e W' ⟨he, bel⟩ => ?_
  subst he
  exact ⟨_, rfl, _, _, _, [], _, [], hW', trodAll_mk1 (shut_bool Try.underlying4 _), (trodAll_cons_mk (Below.trod laidOut (by kernel_rfl) (of_decide_eq_true (by kernel_rfl)) k0 bel lt0) trodAll_mk0), rfl, bel.frame _, fun h => by cases h⟩

theorem over : Rows.typesCheckSpecRow.holds Try.pinned (OpenSpec.ofChange Rows.typesCheckSpecSpec) :=
  OpenClaim.holds_of_wide 3 Try.f3 rfl rfl rfl rfl rfl rfl rfl ⟨rfl, rfl, rfl, rfl, rfl⟩ rfl rfl rfl rfl rfl (by kernel_rfl) Try.func3 (by kernel_rfl)
    (of_decide_eq_true (by kernel_rfl)) (by unfold Func.isWrapper; first | (rw [if_pos (by decide +kernel)]; kernel_rfl) | (rw [if_neg (by decide +kernel)]; exact ⟨rfl, rfl⟩))
    (fun os started H enc _ => lifted os started H enc)
end typesCheckSpec
theorem typesCheckSpec_holds : Rows.TypesCheckSpecSaid := typesCheckSpec.over
#print axioms typesCheckSpec_holds
end Go.Proofs.Ytogenjbabgibbaa

