/- TypesRules: for every source, number and lists of values the law returns true and leaves its arguments as they were. No condition. -/
import Derived.Test.YtogenjbabgibbaaTR3
namespace Go.Proofs.Ytogenjbabgibbaa
open Go.ChangeShapes Go.WideShapes Go.ChangeAt Go.RowKit
set_option maxRecDepth 20000 in
/-- lists of values as they are handed over -/
theorem open_ints2 {H : Type} {enc : TypeId × Value → H} {w : World} {spare : Nat → Bool} {held : Bool} {v : Value} {d : DataW H} {p : List MemPlace} {r : Reach} {b0 : Nat} (hv : Value.okWide Try.prog w r b0 42 v)
    (h : DataW.Trod enc Try.prog w 0 spare held 42 v d p) : ∃ (l : List (List Int)) (a : Option Addr) (c : Nat), v = .slice a l.length c ∧ Sl 1 (RSl 1 RInt) w a l := by
  obtain ⟨a, n, k, rfl⟩ := okWide_slice (e := 50) (by kernel_rfl) hv
  obtain ⟨fuel, hf⟩ := h
  have hf' : DataW.trod enc Try.prog w 0 spare held fuel 42 [.slice a n k] = some (d, p) := hf
  obtain ⟨l, a', c, e, hs⟩ := opens_slice (n := 1) (e := 50) (by kernel_rfl) (by kernel_rfl) (by decide) (opens_slice (n := 1) (e := 3) (by kernel_rfl) (by kernel_rfl) (by decide) (opens_int (by kernel_rfl))) enc w spare held fuel _ _ hf'
  simp only [List.cons.injEq, Value.slice.injEq, and_true] at e
  obtain ⟨rfl, rfl, rfl⟩ := e
  exact ⟨l, a, k, rfl, hs⟩
namespace typesRules
set_option maxRecDepth 20000 in
set_option maxHeartbeats 4000000 in
theorem walk_few (s : SourceD) (p : SrcAt) (z : Int) (L : List (List Int)) (va : Option Addr) (vk : Nat) (w : World) (hs : Src w s p) (hn : Lens s) (hfew : fewB s = false) (hL : Sl 1 (RSl 1 RInt) w va L) :
    Calls Try.prog 5 #[s.val p, .int .u8 z, .slice va L.length vk] w fun e w' => e = .returned (.bool true) ∧ Below w.heap.size w w' := by
  obtain ⟨a0, k0, a1, k1, a2, k2, a3, k3, a4, k4, a5, k5⟩ := p
  have Hs := Lib.hid hs
  have HL := Lib.hid hL
  clear hs hL
  go_enter Try.func5, Try.ntmps5
  go_wp2_with fail
  generalize hw0 : World.alloc _ _ = w0
  obtain ⟨X0, X1, hsz, hb0⟩ := blk2 hw0
  have x0 : w0.cell? ⟨w.heap.size, 0, none⟩ = some (.slice a0 s.issuers.length k0) := X0.cell 0
  have x1 : w0.cell? ⟨w.heap.size, 1, none⟩ = some (.slice a1 s.units.length k1) := X0.cell 1
  have x2 : w0.cell? ⟨w.heap.size, 2, none⟩ = some (.slice a2 s.schemas.length k2) := X0.cell 2
  have x3 : w0.cell? ⟨w.heap.size, 3, none⟩ = some (.slice a3 s.rules.length k3) := X0.cell 3
  have x4 : w0.cell? ⟨w.heap.size, 4, none⟩ = some (.slice a4 s.converts k4) := X0.cell 4
  have x5 : w0.cell? ⟨w.heap.size, 5, none⟩ = some (.slice a5 s.purposes.length k5) := X0.cell 5
  have hl_x : w.heap.size < w0.heap.size := by omega
  have b0 : w0.cell? ⟨w.heap.size + 1, 0, none⟩ = some (.slice va L.length vk) := X1.cell 0
  have hl_b : w.heap.size + 1 < w0.heap.size := by omega
  have hwl : w.heap.size ≤ w0.heap.size := hb0.size
  have Hb := Lib.hid hb0
  clear hw0 hb0 hsz X0 X1
  refine (sane_any _).mono ?_
  rintro e w1 ⟨rfl, hb1⟩
  replace x0 := cell_kept hb1 x0 hl_x
  replace x1 := cell_kept hb1 x1 hl_x
  replace x2 := cell_kept hb1 x2 hl_x
  replace x3 := cell_kept hb1 x3 hl_x
  replace x4 := cell_kept hb1 x4 hl_x
  replace x5 := cell_kept hb1 x5 hl_x
  replace b0 := cell_kept hb1 b0 hl_b
  replace Hb := Lib.hid (Hb.out.trans (hb1.mono hwl))
  replace hl_x := Nat.lt_of_lt_of_le hl_x hb1.size
  replace hl_b := Nat.lt_of_lt_of_le hl_b hb1.size
  replace hwl := Nat.le_trans hwl hb1.size
  clear hb1
  go_wp2_with fail
  refine (few_q s ⟨a0, k0, a1, k1, a2, k2, a3, k3, a4, k4, a5, k5⟩ _ (Hs.out.below Hb.out) hn false hfew).mono ?_
  rintro e w2 ⟨rfl, hb1⟩
  replace x0 := cell_kept hb1 x0 hl_x
  replace x1 := cell_kept hb1 x1 hl_x
  replace x2 := cell_kept hb1 x2 hl_x
  replace x3 := cell_kept hb1 x3 hl_x
  replace x4 := cell_kept hb1 x4 hl_x
  replace x5 := cell_kept hb1 x5 hl_x
  replace b0 := cell_kept hb1 b0 hl_b
  replace Hb := Lib.hid (Hb.out.trans (hb1.mono hwl))
  replace hl_x := Nat.lt_of_lt_of_le hl_x hb1.size
  replace hl_b := Nat.lt_of_lt_of_le hl_b hb1.size
  replace hwl := Nat.le_trans hwl hb1.size
  clear hb1
  go_wp2_with fail
  go_ret
  exact ⟨rfl, Hb.out⟩

set_option maxRecDepth 20000 in
set_option maxHeartbeats 4000000 in
theorem walk_none (s : SourceD) (p : SrcAt) (z : Int) (L : List (List Int)) (va : Option Addr) (vk : Nat) (w : World) (hs : Src w s p) (hn : Lens s) (hfew : fewB s = true) (q0 : ((s.rules.length : Int) == 0) = true) (hL : Sl 1 (RSl 1 RInt) w va L) :
    Calls Try.prog 5 #[s.val p, .int .u8 z, .slice va L.length vk] w fun e w' => e = .returned (.bool true) ∧ Below w.heap.size w w' := by
  obtain ⟨a0, k0, a1, k1, a2, k2, a3, k3, a4, k4, a5, k5⟩ := p
  have Hs := Lib.hid hs
  have HL := Lib.hid hL
  clear hs hL
  go_enter Try.func5, Try.ntmps5
  go_wp2_with fail
  generalize hw0 : World.alloc _ _ = w0
  obtain ⟨X0, X1, hsz, hb0⟩ := blk2 hw0
  have x0 : w0.cell? ⟨w.heap.size, 0, none⟩ = some (.slice a0 s.issuers.length k0) := X0.cell 0
  have x1 : w0.cell? ⟨w.heap.size, 1, none⟩ = some (.slice a1 s.units.length k1) := X0.cell 1
  have x2 : w0.cell? ⟨w.heap.size, 2, none⟩ = some (.slice a2 s.schemas.length k2) := X0.cell 2
  have x3 : w0.cell? ⟨w.heap.size, 3, none⟩ = some (.slice a3 s.rules.length k3) := X0.cell 3
  have x4 : w0.cell? ⟨w.heap.size, 4, none⟩ = some (.slice a4 s.converts k4) := X0.cell 4
  have x5 : w0.cell? ⟨w.heap.size, 5, none⟩ = some (.slice a5 s.purposes.length k5) := X0.cell 5
  have hl_x : w.heap.size < w0.heap.size := by omega
  have b0 : w0.cell? ⟨w.heap.size + 1, 0, none⟩ = some (.slice va L.length vk) := X1.cell 0
  have hl_b : w.heap.size + 1 < w0.heap.size := by omega
  have hwl : w.heap.size ≤ w0.heap.size := hb0.size
  have Hb := Lib.hid hb0
  clear hw0 hb0 hsz X0 X1
  refine (sane_any _).mono ?_
  rintro e w1 ⟨rfl, hb1⟩
  replace x0 := cell_kept hb1 x0 hl_x
  replace x1 := cell_kept hb1 x1 hl_x
  replace x2 := cell_kept hb1 x2 hl_x
  replace x3 := cell_kept hb1 x3 hl_x
  replace x4 := cell_kept hb1 x4 hl_x
  replace x5 := cell_kept hb1 x5 hl_x
  replace b0 := cell_kept hb1 b0 hl_b
  replace Hb := Lib.hid (Hb.out.trans (hb1.mono hwl))
  replace hl_x := Nat.lt_of_lt_of_le hl_x hb1.size
  replace hl_b := Nat.lt_of_lt_of_le hl_b hb1.size
  replace hwl := Nat.le_trans hwl hb1.size
  clear hb1
  go_wp2_with fail
  refine (few_q s ⟨a0, k0, a1, k1, a2, k2, a3, k3, a4, k4, a5, k5⟩ _ (Hs.out.below Hb.out) hn true hfew).mono ?_
  rintro e w2 ⟨rfl, hb1⟩
  replace x0 := cell_kept hb1 x0 hl_x
  replace x1 := cell_kept hb1 x1 hl_x
  replace x2 := cell_kept hb1 x2 hl_x
  replace x3 := cell_kept hb1 x3 hl_x
  replace x4 := cell_kept hb1 x4 hl_x
  replace x5 := cell_kept hb1 x5 hl_x
  replace b0 := cell_kept hb1 b0 hl_b
  replace Hb := Lib.hid (Hb.out.trans (hb1.mono hwl))
  replace hl_x := Nat.lt_of_lt_of_le hl_x hb1.size
  replace hl_b := Nat.lt_of_lt_of_le hl_b hb1.size
  replace hwl := Nat.le_trans hwl hb1.size
  clear hb1
  go_wp2_with fail
  go_ret
  exact ⟨rfl, Hb.out⟩

set_option maxRecDepth 20000 in
set_option maxHeartbeats 4000000 in
theorem walk_bad (s : SourceD) (p : SrcAt) (z : Int) (L : List (List Int)) (va : Option Addr) (vk : Nat) (w : World) (hs : Src w s p) (hn : Lens s) (hfew : fewB s = true) (hne : 0 < s.rules.length) (c : Int) (hc : checkB s = c) (hc0 : ¬ c = 0) (hL : Sl 1 (RSl 1 RInt) w va L) :
    Calls Try.prog 5 #[s.val p, .int .u8 z, .slice va L.length vk] w fun e w' => e = .returned (.bool true) ∧ Below w.heap.size w w' := by
  have q0 : ((s.rules.length : Int) == 0) = false := beq_eq_false_iff_ne.2 (by omega)
  have q1 : (c != 0) = true := by simpa using hc0
  have Hc := Lib.hid hc
  clear hc
  obtain ⟨a0, k0, a1, k1, a2, k2, a3, k3, a4, k4, a5, k5⟩ := p
  have Hs := Lib.hid hs
  have HL := Lib.hid hL
  clear hs hL
  go_enter Try.func5, Try.ntmps5
  go_wp2_with fail
  generalize hw0 : World.alloc _ _ = w0
  obtain ⟨X0, X1, hsz, hb0⟩ := blk2 hw0
  have x0 : w0.cell? ⟨w.heap.size, 0, none⟩ = some (.slice a0 s.issuers.length k0) := X0.cell 0
  have x1 : w0.cell? ⟨w.heap.size, 1, none⟩ = some (.slice a1 s.units.length k1) := X0.cell 1
  have x2 : w0.cell? ⟨w.heap.size, 2, none⟩ = some (.slice a2 s.schemas.length k2) := X0.cell 2
  have x3 : w0.cell? ⟨w.heap.size, 3, none⟩ = some (.slice a3 s.rules.length k3) := X0.cell 3
  have x4 : w0.cell? ⟨w.heap.size, 4, none⟩ = some (.slice a4 s.converts k4) := X0.cell 4
  have x5 : w0.cell? ⟨w.heap.size, 5, none⟩ = some (.slice a5 s.purposes.length k5) := X0.cell 5
  have hl_x : w.heap.size < w0.heap.size := by omega
  have b0 : w0.cell? ⟨w.heap.size + 1, 0, none⟩ = some (.slice va L.length vk) := X1.cell 0
  have hl_b : w.heap.size + 1 < w0.heap.size := by omega
  have hwl : w.heap.size ≤ w0.heap.size := hb0.size
  have Hb := Lib.hid hb0
  clear hw0 hb0 hsz X0 X1
  refine (sane_any _).mono ?_
  rintro e w1 ⟨rfl, hb1⟩
  replace x0 := cell_kept hb1 x0 hl_x
  replace x1 := cell_kept hb1 x1 hl_x
  replace x2 := cell_kept hb1 x2 hl_x
  replace x3 := cell_kept hb1 x3 hl_x
  replace x4 := cell_kept hb1 x4 hl_x
  replace x5 := cell_kept hb1 x5 hl_x
  replace b0 := cell_kept hb1 b0 hl_b
  replace Hb := Lib.hid (Hb.out.trans (hb1.mono hwl))
  replace hl_x := Nat.lt_of_lt_of_le hl_x hb1.size
  replace hl_b := Nat.lt_of_lt_of_le hl_b hb1.size
  replace hwl := Nat.le_trans hwl hb1.size
  clear hb1
  go_wp2_with fail
  refine (few_q s ⟨a0, k0, a1, k1, a2, k2, a3, k3, a4, k4, a5, k5⟩ _ (Hs.out.below Hb.out) hn true hfew).mono ?_
  rintro e w2 ⟨rfl, hb1⟩
  replace x0 := cell_kept hb1 x0 hl_x
  replace x1 := cell_kept hb1 x1 hl_x
  replace x2 := cell_kept hb1 x2 hl_x
  replace x3 := cell_kept hb1 x3 hl_x
  replace x4 := cell_kept hb1 x4 hl_x
  replace x5 := cell_kept hb1 x5 hl_x
  replace b0 := cell_kept hb1 b0 hl_b
  replace Hb := Lib.hid (Hb.out.trans (hb1.mono hwl))
  replace hl_x := Nat.lt_of_lt_of_le hl_x hb1.size
  replace hl_b := Nat.lt_of_lt_of_le hl_b hb1.size
  replace hwl := Nat.le_trans hwl hb1.size
  clear hb1
  go_wp2_with fail
  refine (check_q s ⟨a0, k0, a1, k1, a2, k2, a3, k3, a4, k4, a5, k5⟩ _ (Hs.out.below Hb.out) hfew c Hc.out).mono ?_
  rintro e w3 ⟨rfl, hb1⟩
  replace x0 := cell_kept hb1 x0 hl_x
  replace x1 := cell_kept hb1 x1 hl_x
  replace x2 := cell_kept hb1 x2 hl_x
  replace x3 := cell_kept hb1 x3 hl_x
  replace x4 := cell_kept hb1 x4 hl_x
  replace x5 := cell_kept hb1 x5 hl_x
  replace b0 := cell_kept hb1 b0 hl_b
  replace Hb := Lib.hid (Hb.out.trans (hb1.mono hwl))
  replace hl_x := Nat.lt_of_lt_of_le hl_x hb1.size
  replace hl_b := Nat.lt_of_lt_of_le hl_b hb1.size
  replace hwl := Nat.le_trans hwl hb1.size
  clear hb1
  go_wp2_with fail
  go_ret
  exact ⟨rfl, Hb.out⟩

theorem walk (s : SourceD) (p : SrcAt) (z : Int) (L : List (List Int)) (va : Option Addr) (vk : Nat) (w : World) (hs : Src w s p) (hn : Lens s) (wf : (Lit.int .u8 z).wf = true) (hL : Sl 1 (RSl 1 RInt) w va L) :
    Calls Try.prog 5 #[s.val p, .int .u8 z, .slice va L.length vk] w fun e w' => e = .returned (.bool true) ∧ Below w.heap.size w w' := by
  have hz : 0 ≤ z ∧ z < 256 := by
    simp [Lit.wf, IntKind.min, IntKind.max, IntKind.bits, IntKind.signed] at wf
    omega
  cases hfew : fewB s with
  | false => exact walk_few s p z L va vk w hs hn hfew hL
  | true =>
    rcases Nat.eq_zero_or_pos s.rules.length with hne | hne
    · exact walk_none s p z L va vk w hs hn hfew (beq_iff_eq.2 (by omega)) hL
    · by_cases hc : checkB s = 0
      · exact rules_main s p z L va vk w hs hn hz.1 hz.2 hfew hc hne hL
      · exact walk_bad s p z L va vk w hs hn hfew hne _ rfl hc hL

theorem own : ownKnob Try.prog.godebug = none := by kernel_rfl
theorem laidOut : laidOutB Try.prog = true := by kernel_rfl
set_option maxRecDepth 100000 in
theorem lifted (os : Os) (started : os.Started) (H : Type) (enc : TypeId × Value → H) :
    ReturnsInHanded {} Try.checked os 5 .any (Rows.typesRulesSpec.pre6 enc Try.prog Try.f5 Rows.typesRulesRow.domain false) (Rows.typesRulesSpec.post enc Try.prog Try.f5 false true false false) := by
  refine returnsInHanded_of_change (C := Try.checked) own started (by kernel_rfl) Try.func5
    (ChangeSpec.witness6 (enc := enc) (C := Try.checked) false ⟨#[], #[.agg #[.slice none 0 0, .slice none 0 0, .slice none 0 0, .slice none 0 0, .slice none 0 0, .slice none 0 0], .int .u8 0, .slice none 0 0], []⟩ 8 (by kernel_rfl) (by kernel_rfl) (by kernel_rfl) (by kernel_rfl)) ?_
  intro W base args ds gs before hval0 hW hcnd _
  have hval : ∀ (j : Nat) t v, Try.f5.params[j]? = some t → args[j]? = some v → Value.okWide Try.prog W .any base t v := hval0
  have hW' := hW
  obtain ⟨p, q, hA0, hV, rfl, hfz, hnd⟩ := hW
  have hA : DataW.TrodAll enc Try.prog W 0 (fun _ => true) true Try.f5.params.toList args.toList ds p := hA0
  rw [Try.params5] at hA hval
  obtain ⟨v0, vs0, d0, ds0, p0, q0, hargs, rfl, rfl, h0, r0⟩ := trodAll_cons hA
  obtain ⟨v1, vs1, d1, ds1, p1, q1, rfl, rfl, rfl, h1, r1⟩ := trodAll_cons r0
  obtain ⟨v2, vs2, d2, ds2, p2, q2, rfl, rfl, rfl, h2, r2⟩ := trodAll_cons r1
  obtain ⟨rfl, rfl, rfl⟩ := trodAll_nil r2
  obtain rfl : args = #[v0, v1, v2] := by cases args; simp_all
  obtain ⟨rfl, rfl⟩ := trodVars_none hV
  have k0 := h0
  have lt0 : ∀ x ∈ p0, x.block < W.heap.size := by obtain ⟨m, hm⟩ := k0; exact DataW.trod_lt m _ _ _ hm
  obtain ⟨s0, at0, rfl, hs0, hn0⟩ := open_source (hval 0 29 v0 rfl rfl) h0
  have k1 := h1
  have lt1 : ∀ x ∈ p1, x.block < W.heap.size := by obtain ⟨m, hm⟩ := k1; exact DataW.trod_lt m _ _ _ hm
  obtain ⟨z1, rfl, rfl, rfl, wf1⟩ := open_int Try.underlying5 (hval 1 5 v1 rfl rfl) h1
  have k2 := h2
  have lt2 : ∀ x ∈ p2, x.block < W.heap.size := by obtain ⟨m, hm⟩ := k2; exact DataW.trod_lt m _ _ _ hm
  obtain ⟨l2, a2, c2, rfl, hl2⟩ := open_ints2 (hval 2 42 v2 rfl rfl) h2
  clear hA0 hval0
  refine (walk s0 at0 z1 l2 a2 c2 W hs0 hn0 wf1 hl2).mono fun e W' ⟨he, bel⟩ => ?_
  subst he
  exact ⟨_, rfl, _, _, _, [], _, [], hW', trodAll_mk1 (shut_bool Try.underlying4 _), (trodAll_cons_mk (Below.trod laidOut (by kernel_rfl) (of_decide_eq_true (by kernel_rfl)) k0 bel lt0) (trodAll_cons_mk (Below.trod laidOut (by kernel_rfl) (of_decide_eq_true (by kernel_rfl)) k1 bel lt1) (trodAll_cons_mk (Below.trod laidOut (by kernel_rfl) (of_decide_eq_true (by kernel_rfl)) k2 bel lt2) trodAll_mk0))), rfl, bel.frame _, fun h => by cases h⟩

theorem over : Rows.typesRulesRow.holds Try.pinned (OpenSpec.ofChange Rows.typesRulesSpec) :=
  OpenClaim.holds_of_wide 5 Try.f5 rfl rfl rfl rfl rfl rfl rfl ⟨rfl, rfl, rfl, rfl, rfl⟩ rfl rfl rfl rfl rfl (by kernel_rfl) Try.func5 (by kernel_rfl)
    (of_decide_eq_true (by kernel_rfl)) (by unfold Func.isWrapper; first | (rw [if_pos (by decide +kernel)]; kernel_rfl) | (rw [if_neg (by decide +kernel)]; exact ⟨rfl, rfl⟩))
    (fun os started H enc _ => lifted os started H enc)
end typesRules
theorem typesRules_holds : Rows.TypesRulesSaid := typesRules.over
#print axioms typesRules_holds
end Go.Proofs.Ytogenjbabgibbaa

