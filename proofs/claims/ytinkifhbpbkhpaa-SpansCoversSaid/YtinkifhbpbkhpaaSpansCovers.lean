/- SpansCovers: for every list and three numbers the law returns true and leaves its arguments as they were. No condition. -/
import Derived.Test.YtinkifhbpbkhpaaSane
import Derived.Test.YtinkifhbpbkhpaaRchk
import Derived.Test.YtinkifhbpbkhpaaOpen
import Derived.Test.YtinkifhbpbkhpaaAlg
namespace Go.Proofs.Ytinkifhbpbkhpaa
open Go.ChangeShapes Go.WideShapes Go.ChangeAt Go.RowKit
set_option linter.unusedVariables false

theorem anyB_one (a b d : Int) : anyB [(a, b)] d = (decide (a ≤ d) && decide (d < b)) := by simp [anyB]
theorem cov_minus {g : Nat → Bool} {a b : Int} (ha : 0 ≤ a) (hb : b ≤ 1024) (hab : a < b) : covB g a b = decide ((runsL (fun d => dayF [(a, b)] d && !(g d))).length = 0) := by
  rw [Bool.eq_iff_iff, covB_iff, decide_eq_true_eq, List.length_eq_zero_iff]
  unfold runsL
  rw [runsTo_nil_iff]
  constructor
  · rintro (h | ⟨_, _, h⟩) i hi
    · omega
    · simp only [dayF, anyB_one]
      by_cases h1 : a ≤ (i : Int) ∧ (i : Int) < b
      · rw [h i h1.1 h1.2]; simp
      · have : (decide (a ≤ (i : Int)) && decide ((i : Int) < b)) = false := by rw [← Bool.decide_and]; simpa using h1
        rw [this]; rfl
  · intro h
    refine Or.inr ⟨ha, hb, fun d h1 h2 => ?_⟩
    have := h d (by omega)
    simp only [dayF, anyB_one] at this
    simpa [h1, h2] using this
theorem cov_split {g : Nat → Bool} {a m b : Int} (ha : 0 ≤ a) (hb : b ≤ 1024) (ham : a ≤ m) (hmb : m ≤ b) : covB g a b = (covB g a m && covB g m b) := by
  rw [Bool.eq_iff_iff, Bool.and_eq_true, covB_iff, covB_iff, covB_iff]
  constructor
  · rintro (h | ⟨h1, h2, h3⟩)
    · exact ⟨Or.inl (by omega), Or.inl (by omega)⟩
    · exact ⟨Or.inr ⟨h1, by omega, fun d h4 h5 => h3 d h4 (by omega)⟩, Or.inr ⟨by omega, h2, fun d h4 h5 => h3 d (by omega) h5⟩⟩
  · rintro ⟨h1, h2⟩
    refine Or.inr ⟨ha, hb, fun d h4 h5 => ?_⟩
    by_cases h : (d : Int) < m
    · rcases h1 with h1 | ⟨_, _, h1⟩
      · omega
      · exact h1 d h4 h
    · rcases h2 with h2 | ⟨_, _, h2⟩
      · omega
      · exact h2 d (by omega) h5

namespace spansCovers

set_option maxRecDepth 100000 in
set_option maxHeartbeats 8000000 in
theorem walk (a0 : Option Addr) (cap0 : Nat) (L0 : SL) (z1 z2 z3 : Int) (w : World) (s0 : Sp w a0 L0) (wf1 : (Lit.int .u16 z1).wf = true) (wf2 : (Lit.int .u16 z2).wf = true) (wf3 : (Lit.int .u16 z3).wf = true) :
    Calls Try.prog 9 #[.slice a0 L0.length cap0, .int .u16 z1, .int .u16 z2, .int .u16 z3] w fun e w' => e = .returned (.bool true) ∧ Below w.heap.size w w' := by
  have b1 := bounds_u16 wf1
  have b2 := bounds_u16 wf2
  have b3 := bounds_u16 wf3
  clear wf1 wf2 wf3
  have S0 := Lib.hid s0
  clear s0
  by_cases hl : L0.length ≤ 40
  case neg =>
    have hq : decide (L0.length ≤ 40) = false := by simpa using hl
    go_enter Try.func9, Try.ntmps9
    go_wp2_with fail
    refine (sane_any _).mono ?_
    rintro e w1 ⟨rfl, hb1⟩
    go_wp2_with fail
    refine (few_any _ _ _ _).mono ?_
    rintro e w2 ⟨rfl, rfl⟩
    go_wp2
    go_ret
    exact ⟨rfl, hb1⟩
  have hq : decide (L0.length ≤ 40) = true := by simpa using hl
  have hl2 : L0.length ≤ 100000 := by omega
  obtain ⟨b1, b1'⟩ := b1
  obtain ⟨b2, b2'⟩ := b2
  obtain ⟨b3, b3'⟩ := b3
  go_enter Try.func9, Try.ntmps9
  go_wp2_with fail
  refine (sane_any _).mono ?_
  rintro e w1 ⟨rfl, hb1⟩
  have S1 := Lib.hid (S0.out.below hb1)
  have B1 := Lib.hid hb1
  have z1s := hb1.size
  clear hb1 S0
  go_wp2_with fail
  refine (few_any _ _ _ _).mono ?_
  rintro e w2 ⟨rfl, rfl⟩
  go_wp2_with fail
  have ra : 0 ≤ z1 % 1025 ∧ z1 % 1025 ≤ 1024 := by omega
  have rb : 0 ≤ z2 % 1025 ∧ z2 % 1025 ≤ 1024 := by omega
  generalize z1 % 1025 = A at *
  generalize z2 % 1025 = B at *
  obtain ⟨ra1, ra2⟩ := ra
  obtain ⟨rb1, rb2⟩ := rb
  have hb0 : Below w1.heap.size w1 (w1.alloc (.cells #[.int .i64 A, .int .i64 B] 31)) := (Below.refl _ _).alloc (Nat.le_refl _) _
  have S2 := Lib.hid (S1.out.below hb0)
  have B2 := Lib.hid (B1.out.trans (hb0.mono z1s))
  clear hb0
  refine (covers_any a0 cap0 L0 A B _ S2.out hl2).mono ?_
  rintro e w3 ⟨rfl, hb3⟩
  have S3 := Lib.hid (S2.out.below hb3)
  have B3 := Lib.hid (B2.out.trans (hb3.mono B2.out.size))
  have X3 := (Blk.new w1 #[.int .i64 A, .int .i64 B] 31).below hb3 (by simp)
  have x0 := X3.cell 0
  have x1 := X3.cell 1
  simp at x0 x1
  have z3s := B3.out.size
  clear hb3 S2 B2 X3 S1 B1 z1s
  by_cases hab : B ≤ A
  · have hc : covB (dayF L0) A B = true := covB_triv hab
    rw [hc]
    clear hc
    go_wp2
    go_ret
    exact ⟨rfl, B3.out⟩
  have hab' : A < B := by omega
  have hm1 : 0 ≤ z3 % (B - A + 1) := Int.emod_nonneg _ (by omega)
  have hm2 : z3 % (B - A + 1) < B - A + 1 := Int.emod_lt_of_pos _ (by omega)
  obtain ⟨m, hm⟩ : ∃ m, A + z3 % (B - A + 1) = m := ⟨_, rfl⟩
  have hc1 := cov_minus (g := dayF L0) ra1 rb2 hab'
  have hc2 := cov_split (g := dayF L0) (a := A) (m := m) (b := B) ra1 rb2 (by omega) (by omega)
  have hc3 : covB (dayF L0) A (1025 + z3) = false := covB_out (by omega) (by omega)
  have HM := Lib.hid hm
  have C2 := Lib.hid hc2
  have C3 := Lib.hid hc3
  obtain ⟨x, hx⟩ : ∃ x, runsL (fun d => dayF [(A, B)] d && !(dayF L0 d)) = x := ⟨_, rfl⟩
  rw [hx] at hc1
  have HX := Lib.hid hx
  obtain ⟨ok, hok⟩ : ∃ ok, covB (dayF L0) A B = ok := ⟨_, rfl⟩
  rw [hok] at hc1 ⊢
  have HO := Lib.hid hok
  have C1 := Lib.hid hc1
  obtain ⟨o1, ho1⟩ : ∃ o, covB (dayF L0) A m = o := ⟨_, rfl⟩
  obtain ⟨o2, ho2⟩ : ∃ o, covB (dayF L0) m B = o := ⟨_, rfl⟩
  have H1 := Lib.hid ho1
  have H2 := Lib.hid ho2
  have hmb : A ≤ m ∧ m ≤ B := by omega
  have HMB := Lib.hid hmb
  clear hc1 hc2 hc3 hx hok ho1 ho2 hab hmb hm
  go_wp2_with fail
  have hsp : Sp (w3.alloc (.cells #[.int .i64 A, .int .i64 B] 31)) (some ⟨w3.heap.size, 0, none⟩) [(A, B)] := fun i hi => by
    have hb := Blk.new w3 #[.int .i64 A, .int .i64 B] 31
    have hi0 : i = 0 := by simpa using hi
    subst hi0
    exact ⟨w3.heap.size, 0, rfl, hb.lt, hb.cell 0, hb.cell 1⟩
  have hb0 : Below w3.heap.size w3 (w3.alloc (.cells #[.int .i64 A, .int .i64 B] 31)) := (Below.refl _ _).alloc (Nat.le_refl _) _
  have S4 := Lib.hid (S3.out.below hb0)
  have B4 := Lib.hid (B3.out.trans (hb0.mono z3s))
  clear hb0
  refine (minus_to (some ⟨w3.heap.size, 0, none⟩) a0 1 cap0 [(A, B)] L0 HX.out _ hsp S4.out (by simp) hl2).mono ?_
  rintro e w5 ⟨⟨a5, c5, rfl, h5⟩, hb5⟩
  have S5 := Lib.hid (S4.out.below hb5)
  have B5 := Lib.hid (B4.out.trans (hb5.mono B4.out.size))
  have z5s := B5.out.size
  clear hb5 h5 hsp S4 B4 S3 B3
  have hlx : ((x.length : Int) == 0) = ok := by
    rw [C1.out, Bool.eq_iff_iff]; simp
  have HLX := Lib.hid hlx
  generalize x.length = xl at *
  go_wp2_with fail
  rw [HM.out]
  refine (covers_to a0 cap0 L0 A m H1.out _ S5.out hl2).mono ?_
  rintro e w6 ⟨rfl, hb6⟩
  have S6 := Lib.hid (S5.out.below hb6)
  have B6 := Lib.hid (B5.out.trans (hb6.mono z5s))
  have z6s := B6.out.size
  clear hb6 S5 B5 z5s hm1 hm2
  have hko : ok = (o1 && o2) := by rw [← HO.out, C2.out, H1.out, H2.out]
  cases o1
  · have hk : ok = false := by simpa using hko
    subst hk
    clear hko
    go_wp2_with fail
    refine (covers_to a0 cap0 L0 A (1025 + z3) C3.out _ S6.out hl2).mono ?_
    rintro e w7 ⟨rfl, hb7⟩
    have B7 := Lib.hid (B6.out.trans (hb7.mono z6s))
    clear hb7
    go_wp2
    go_ret
    exact ⟨rfl, B7.out⟩
  · have hk : ok = o2 := by simpa using hko
    subst hk
    clear hko
    go_wp2_with fail
    refine (covers_to a0 cap0 L0 m B H2.out _ S6.out hl2).mono ?_
    rintro e w7 ⟨rfl, hb7⟩
    have S7 := Lib.hid (S6.out.below hb7)
    have B7 := Lib.hid (B6.out.trans (hb7.mono z6s))
    have z7s := B7.out.size
    clear hb7 S6 B6 z6s
    have hee : (ok == ok) = true := by simp
    go_wp2_with fail
    refine (covers_to a0 cap0 L0 A (1025 + z3) C3.out _ S7.out hl2).mono ?_
    rintro e w8 ⟨rfl, hb8⟩
    have B8 := Lib.hid (B7.out.trans (hb8.mono z7s))
    clear hb8
    go_wp2
    go_ret
    exact ⟨rfl, B8.out⟩

set_option maxRecDepth 100000 in
theorem lifted (os : Os) (started : os.Started) (H : Type) (enc : TypeId × Value → H) :
    ReturnsInHanded {} Try.checked os 9 .any (Rows.spansCoversSpec.pre6 enc Try.prog Try.f9 Rows.spansCoversRow.domain false) (Rows.spansCoversSpec.post enc Try.prog Try.f9 false true false false) := by
  refine returnsInHanded_of_change (C := Try.checked) own started (by kernel_rfl) Try.func9
    (ChangeSpec.witness6 (enc := enc) (C := Try.checked) false ⟨#[], #[.slice none 0 0, .int .u16 0, .int .u16 0, .int .u16 0], []⟩ 8 (by kernel_rfl) (by kernel_rfl) (by kernel_rfl) (by kernel_rfl)) ?_
  intro W base args ds gs before hval0 hW hcnd _
  have hval : ∀ (j : Nat) t v, Try.f9.params[j]? = some t → args[j]? = some v → Value.okWide Try.prog W .any base t v := hval0
  have hW' := hW
  obtain ⟨p, q, hA0, hV, rfl, hfz, hnd⟩ := hW
  have hA : DataW.TrodAll enc Try.prog W 0 (fun _ => true) true Try.f9.params.toList args.toList ds p := hA0
  rw [Try.params9] at hA hval
  obtain ⟨v0, vs0, d0, ds0, p0, q0, hargs, rfl, rfl, h0, r0⟩ := trodAll_cons hA
  obtain ⟨v1, vs1, d1, ds1, p1, q1, rfl, rfl, rfl, h1, r1⟩ := trodAll_cons r0
  obtain ⟨v2, vs2, d2, ds2, p2, q2, rfl, rfl, rfl, h2, r2⟩ := trodAll_cons r1
  obtain ⟨v3, vs3, d3, ds3, p3, q3, rfl, rfl, rfl, h3, r3⟩ := trodAll_cons r2
  obtain ⟨rfl, rfl, rfl⟩ := trodAll_nil r3
  obtain rfl : args = #[v0, v1, v2, v3] := by cases args; simp_all
  obtain ⟨rfl, rfl⟩ := trodVars_none hV
  have k0 := h0
  have lt0 : ∀ x ∈ p0, x.block < W.heap.size := by obtain ⟨m, hm⟩ := k0; exact DataW.trod_lt m _ _ _ hm
  obtain ⟨a0, n0, cap0, rfl⟩ := okWide_slice Try.underlying22 (hval 0 22 v0 rfl rfl)
  obtain ⟨L0, rfl, s0⟩ := open_sp h0
  have k1 := h1
  have lt1 : ∀ x ∈ p1, x.block < W.heap.size := by obtain ⟨m, hm⟩ := k1; exact DataW.trod_lt m _ _ _ hm
  obtain ⟨z1, rfl, rfl, rfl, wf1⟩ := open_int Try.underlying39 (hval 1 39 v1 rfl rfl) h1
  have k2 := h2
  have lt2 : ∀ x ∈ p2, x.block < W.heap.size := by obtain ⟨m, hm⟩ := k2; exact DataW.trod_lt m _ _ _ hm
  obtain ⟨z2, rfl, rfl, rfl, wf2⟩ := open_int Try.underlying39 (hval 2 39 v2 rfl rfl) h2
  have k3 := h3
  have lt3 : ∀ x ∈ p3, x.block < W.heap.size := by obtain ⟨m, hm⟩ := k3; exact DataW.trod_lt m _ _ _ hm
  obtain ⟨z3, rfl, rfl, rfl, wf3⟩ := open_int Try.underlying39 (hval 3 39 v3 rfl rfl) h3
  clear hA0 hval0
  refine (walk a0 cap0 L0 z1 z2 z3 W s0 wf1 wf2 wf3).mono fun e W' ⟨he, bel⟩ => ?_
  subst he
  exact ⟨_, rfl, _, _, _, [], _, [], hW', trodAll_mk1 (shut_bool Try.underlying4 _), (trodAll_cons_mk (Below.trod laidOut (by kernel_rfl) (of_decide_eq_true (by kernel_rfl)) k0 bel lt0) (trodAll_cons_mk (Below.trod laidOut (by kernel_rfl) (of_decide_eq_true (by kernel_rfl)) k1 bel lt1) (trodAll_cons_mk (Below.trod laidOut (by kernel_rfl) (of_decide_eq_true (by kernel_rfl)) k2 bel lt2) (trodAll_cons_mk (Below.trod laidOut (by kernel_rfl) (of_decide_eq_true (by kernel_rfl)) k3 bel lt3) trodAll_mk0)))), rfl, bel.frame _, fun h => by cases h⟩

theorem over : Rows.spansCoversRow.holds Try.pinned (OpenSpec.ofChange Rows.spansCoversSpec) :=
  OpenClaim.holds_of_wide 9 Try.f9 rfl rfl rfl rfl rfl rfl rfl ⟨rfl, rfl, rfl, rfl, rfl⟩ rfl rfl rfl rfl rfl (by kernel_rfl) Try.func9 (by kernel_rfl)
    (of_decide_eq_true (by kernel_rfl)) (by unfold Func.isWrapper; first | (rw [if_pos (by decide +kernel)]; kernel_rfl) | (rw [if_neg (by decide +kernel)]; exact ⟨rfl, rfl⟩))
    (fun os started H enc _ => lifted os started H enc)
end spansCovers
theorem spansCovers_holds : Rows.SpansCoversSaid := spansCovers.over
#print axioms spansCovers_holds
end Go.Proofs.Ytinkifhbpbkhpaa
