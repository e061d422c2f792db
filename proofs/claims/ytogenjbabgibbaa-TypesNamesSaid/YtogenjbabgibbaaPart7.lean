/- Part 7 of the walks and laws that these claims rest on. No condition. -/
import Derived.Test.YtogenjbabgibbaaPart6
set_option linter.all false
set_option linter.unusedSimpArgs false
set_option linter.unusedVariables false
set_option linter.unnecessarySimpa false
namespace Go.Proofs.Ytogenjbabgibbaa
open Go.RowKit
set_option maxRecDepth 20000 in
set_option maxHeartbeats 8000000 in
theorem names_main (s : SourceD) (p : SrcAt) (nm : ByteArray) (w : World) (hs : Src w s p) (hn : Lens s) (hnm : nm.size ≤ maxLen) (hfew : fewB s = true) (hk3 : s.rules.length ≤ p.k3) (hk5 : s.purposes.length ≤ p.k5) :
    Calls Try.prog 8 #[s.val p, .string nm] w fun e w' => e = .returned (.bool true) ∧ Below w.heap.size w w' := by
  obtain ⟨i9, z9, hi9, hz9, hs9, hb9⟩ := info9
  obtain ⟨i69, z69, hi69, hz69, hs69, hb69⟩ := info69
  obtain ⟨i57, z57, hi57, hz57, hs57, hb57⟩ := info57
  obtain ⟨i74, z74, hi74, hz74, hs74, hb74⟩ := info74
  obtain ⟨i77, z77, hi77, hz77, hs77, hb77⟩ := info77
  have hlens : s.issuers.length ≤ 12 ∧ s.units.length ≤ 70 ∧ s.schemas.length ≤ 20 ∧ s.rules.length ≤ 20 ∧ s.converts ≤ 20 ∧ s.purposes.length ≤ 12 := by
    unfold fewB fewL at hfew
    simp only [Bool.and_eq_true, decide_eq_true_eq] at hfew
    exact hfew.2.2.2
  have hm0 : s.issuers.length ≤ 1000 := by omega
  have hm1 : s.units.length ≤ 1000 := by omega
  have hm2 : s.schemas.length ≤ 1000 := by omega
  have hm5 : s.purposes.length ≤ 1000 := by omega
  have hm3 : s.rules.length ≤ 1000 := by omega
  obtain ⟨a0, k0, a1, k1, a2, k2, a3, k3, a4, k4, a5, k5⟩ := p
  simp only at hk3 hk5
  obtain ⟨fI, hI0, hI1⟩ := src0_of hs.h0 (fun es x h => by obtain ⟨rfl, _⟩ := h; exact ⟨rfl, by simp [Value.oneCell']⟩)
  obtain ⟨fU, hU0, hU1⟩ := src0_of hs.h1 (fun es x h => by obtain ⟨rfl, _⟩ := h.flat; exact ⟨rfl, by simp [Value.oneCell']⟩)
  obtain ⟨fS, hS0, hS1⟩ := src0_of hs.h2 (fun es x h => by obtain ⟨_, _, _, _, rfl, _⟩ := h.flat; exact ⟨rfl, by simp [Value.oneCell']⟩)
  obtain ⟨fP, hP0, hP1⟩ := src0_of hs.h5 (fun es x h => by obtain ⟨_, _, rfl, _⟩ := h.flat; exact ⟨rfl, by simp [Value.oneCell']⟩)
  have hmf : ∀ i (hi : i < s.schemas.length), s.schemas[i].fields.length ≤ 1000 := fun i hi => by
    unfold fewB at hfew
    simp only [Bool.and_eq_true] at hfew
    have := List.all_eq_true.1 hfew.1 _ (List.getElem_mem hi)
    unfold fewS at this
    simp only [Bool.and_eq_true, decide_eq_true_eq] at this
    omega
  have Hmf := Lib.hid hmf
  have HfS := Lib.hid hS0
  have HS1 := Lib.hid hS1
  have HfP := Lib.hid hP0
  have HP1 := Lib.hid hP1
  have HfI := Lib.hid hI0
  have HI1 := Lib.hid hI1
  have HfU := Lib.hid hU0
  have HU1 := Lib.hid hU1
  have Hs := Lib.hid hs
  have Hlens := Lib.hid hlens
  have Hfew := Lib.hid hfew
  obtain ⟨c, hc⟩ : ∃ c, checkB s = c := ⟨_, rfl⟩
  have hcc := check_cases s
  rw [hc] at hcc
  have Hcc := Lib.hid hcc
  have Hc := Lib.hid hc
  clear hc hcc
  clear hs hI0 hI1 hU0 hU1 hS0 hS1 hP0 hP1 hmf hlens hfew
  go_enter Try.func8, Try.ntmps8
  go_wp2_with fail
  generalize hw0 : World.alloc _ _ = w0
  obtain ⟨X0, hsz, hb0⟩ := blk1 hw0
  have HBs := Lib.hid X0
  have Hb := Lib.hid hb0
  clear hw0 X0 hsz hb0
  refine (sane_any _).mono ?_
  rintro e w1 ⟨rfl, hb1⟩
  replace HBs := Lib.hid (HBs.out.below hb1 HBs.out.lt)
  replace Hb := Lib.hid (Hb.out.trans (hb1.mono Hb.out.size))
  have x0 : w1.cell? ⟨w.heap.size, 0, none⟩ = some (.slice a0 s.issuers.length k0) := HBs.out.cell 0
  have x1 : w1.cell? ⟨w.heap.size, 1, none⟩ = some (.slice a1 s.units.length k1) := HBs.out.cell 1
  have x2 : w1.cell? ⟨w.heap.size, 2, none⟩ = some (.slice a2 s.schemas.length k2) := HBs.out.cell 2
  have x3 : w1.cell? ⟨w.heap.size, 3, none⟩ = some (.slice a3 s.rules.length k3) := HBs.out.cell 3
  have x4 : w1.cell? ⟨w.heap.size, 4, none⟩ = some (.slice a4 s.converts k4) := HBs.out.cell 4
  have x5 : w1.cell? ⟨w.heap.size, 5, none⟩ = some (.slice a5 s.purposes.length k5) := HBs.out.cell 5
  clear hb1
  go_wp2_with fail
  refine (few_q s ⟨a0, k0, a1, k1, a2, k2, a3, k3, a4, k4, a5, k5⟩ _ (Hs.out.below Hb.out) hn true Hfew.out).mono ?_
  rintro e w2 ⟨rfl, hb1⟩
  replace HBs := Lib.hid (HBs.out.below hb1 HBs.out.lt)
  replace Hb := Lib.hid (Hb.out.trans (hb1.mono Hb.out.size))
  clear x0 x1 x2 x3 x4 x5 hb1
  have x0 : w2.cell? ⟨w.heap.size, 0, none⟩ = some (.slice a0 s.issuers.length k0) := HBs.out.cell 0
  have x1 : w2.cell? ⟨w.heap.size, 1, none⟩ = some (.slice a1 s.units.length k1) := HBs.out.cell 1
  have x2 : w2.cell? ⟨w.heap.size, 2, none⟩ = some (.slice a2 s.schemas.length k2) := HBs.out.cell 2
  have x3 : w2.cell? ⟨w.heap.size, 3, none⟩ = some (.slice a3 s.rules.length k3) := HBs.out.cell 3
  have x4 : w2.cell? ⟨w.heap.size, 4, none⟩ = some (.slice a4 s.converts k4) := HBs.out.cell 4
  have x5 : w2.cell? ⟨w.heap.size, 5, none⟩ = some (.slice a5 s.purposes.length k5) := HBs.out.cell 5

  obtain ⟨gx, hgx⟩ : ∃ g, w2.heap.size = g := ⟨_, rfl⟩
  have hsx : w.heap.size < gx := by have := HBs.out.lt; omega
  go_wp2_with (at_builtin; generalize hw0 : World.alloc _ _ = wa; obtain ⟨X0, X1, hsz, hb0⟩ := blk2 hw0; rw [hgx] at X0 X1 hsz; refine wpList_append_copy rfl _ _ 22 rfl (gx + 1) 9 i9 z9 1 i9.bytes Try.underlying22 hi9 hz9 hs9 rfl (by decide) (gx + 1) X1 (Nat.le_refl _) (by omega) a0 s.issuers.length k0 fI (HfI.out.below (Hb.out.trans (hb0.mono Hb.out.size))) hm0 hb9 rfl rfl ?_; intro gi ci w3 hb1 hO; have HBx := Lib.hid (X0.below hb1 X0.lt); replace hb1 := hb0.trans (hb1.mono hb0.size); replace HBs := Lib.hid (HBs.out.below hb1 HBs.out.lt); replace Hb := Lib.hid (Hb.out.trans (hb1.mono Hb.out.size)); have hxi : gx < gi := hO.ge; have HOI := Lib.hid hO; have y0 : w3.cell? ⟨gx, 0, none⟩ = some (.slice a0 s.issuers.length k0) := HBx.out.cell 0; have fy0 : w3.frozen? ⟨gx, 0, none⟩ = false := HBx.out.frozen 0; clear hO hw0 X0 X1 hsz hb0 hb1 x0 x1 x2 x3 x4 x5)
  clear y0 fy0
  generalize hw0 : World.setCell _ _ _ = w4
  obtain ⟨q1, q2, q3, q4, q5⟩ := set_facts hw0

  have hX : Blk w4 gx #[.slice (some ⟨gi, 0, none⟩) s.issuers.length ci, .slice a1 s.units.length k1, .slice a2 s.schemas.length k2, .slice a3 s.rules.length k3, .slice a4 s.converts k4, .slice a5 s.purposes.length k5] 29 := hw0 ▸ HBx.out.set 0 _
  replace HBs := Lib.hid (q4 HBs.out (by omega))
  replace HOI := Lib.hid (q5 HOI.out (by omega))
  replace Hb := Lib.hid (Hb.out.trans (q2 w.heap.size (by omega)))

  replace HBx := Lib.hid hX
  clear hX hw0 q1 q2 q3 q4 q5
  go_loopw [30] (fun i wr => ∃ k : Nat, k ≤ s.issuers.length ∧ i = .int .i64 k ∧ Hid (Own wr (gx + 1) gi 1 s.issuers.length (mixF k (fun _ => [.string nm]) fI)) ∧ Below gi w4 wr) (fun i _ => s.issuers.length - (intOf i).toNat)
  case atStart => exact ⟨0, Nat.zero_le _, rfl, Lib.hid HOI.out.mix0, Below.refl _ _⟩
  case round =>
    obtain ⟨k, hk, rfl, Hn, hb1⟩ := hrel
    clear HOI
    replace HBs := Lib.hid (HBs.out.below hb1 (by omega))
    replace HBx := Lib.hid (HBx.out.below hb1 (by omega))
    replace Hb := Lib.hid (Hb.out.trans (hb1.mono (by omega)))

    by_cases hlt : k < s.issuers.length
    case pos =>
      have hlt' : (k : Int) < (s.issuers.length : Int) := by omega
      have y0 : wr.cell? ⟨gx, 0, none⟩ = some (.slice (some ⟨gi, 0, none⟩) s.issuers.length ci) := HBx.out.cell 0

      obtain ⟨v0, _, hc⟩ := Hn.out.cl k hlt 0 (by decide)
      rw [Nat.mul_one, Nat.add_zero] at hc
      have fz := Hn.out.fz k
      go_wp2_with fail
      go_roundw
      case rel =>
        have hset := Hn.out.set hlt (show 0 < 1 by decide) (.string nm)
        rw [Nat.mul_one, Nat.add_zero] at hset
        refine ⟨k + 1, by omega, by go_num, Lib.hid (hset.mixS ?_ fun i hi => setE_ne hi), hb1.setCell (Nat.le_refl _) _⟩
        rw [setE_at, mixF_at]
        match fI k, HfI.out.ln k hlt with
        | [u], _ => rfl
      case measure => simp [intOf]; omega
    case neg =>
      obtain rfl : k = s.issuers.length := by omega
      have HOI := Lib.hid Hn.out.mixN
      have hgw : gi < wr.heap.size := HOI.out.lt
      clear Hn hb1 hlt
      have y1 : wr.cell? ⟨gx, 1, none⟩ = some (.slice a1 s.units.length k1) := HBx.out.cell 1

      have x1 : wr.cell? ⟨w.heap.size, 1, none⟩ = some (.slice a1 s.units.length k1) := HBs.out.cell 1

      have fy1 : wr.frozen? ⟨gx, 1, none⟩ = false := HBx.out.frozen 1
      obtain ⟨b1, hb1e⟩ : ∃ g, wr.heap.size = g := ⟨_, rfl⟩
      have hxb : gi < b1 := by omega
      have hsb : w.heap.size < b1 := by omega
      go_wp2_with (
        at_builtin
        generalize hw0 : World.alloc _ _ = wa
        obtain ⟨X0, hsz, hb0⟩ := blk1 hw0
        rw [hb1e] at X0 hsz
        refine wpList_append_copy rfl _ _ 23 rfl b1 69 i69 z69 5 i69.bytes Try.underlying23 hi69 hz69 hs69 rfl (by decide) b1 X0 (Nat.le_refl _) (by omega) a1 s.units.length k1 fU (HfU.out.below (Hb.out.trans (hb0.mono Hb.out.size))) hm1 hb69 rfl rfl ?_
        intro gu cu w5 hb1 hO
        replace hb1 := hb0.trans (hb1.mono hb0.size)
        clear hw0 X0 hsz hb0
        replace HBs := Lib.hid (HBs.out.below hb1 HBs.out.lt)
        replace HBx := Lib.hid (HBx.out.below hb1 HBx.out.lt)
        replace HOI := Lib.hid (HOI.out.below hb1 HOI.out.lt)
        replace Hb := Lib.hid (Hb.out.trans (hb1.mono Hb.out.size))
        have hb1u : b1 ≤ gu := hO.ge
        have HOU := Lib.hid hO
        clear y1 x1 fy1 hO hb1
        have y1 : w5.cell? ⟨gx, 1, none⟩ = some (.slice a1 s.units.length k1) := HBx.out.cell 1
        have fy1 : w5.frozen? ⟨gx, 1, none⟩ = false := HBx.out.frozen 1
        clear hb1e)
      clear y1 fy1
      generalize hw0 : World.setCell _ _ _ = w6
      obtain ⟨q1, q2, q3, q4, q5⟩ := set_facts hw0
      have hX : Blk w6 gx #[.slice (some ⟨gi, 0, none⟩) s.issuers.length ci, .slice (some ⟨gu, 0, none⟩) s.units.length cu, .slice a2 s.schemas.length k2, .slice a3 s.rules.length k3, .slice a4 s.converts k4, .slice a5 s.purposes.length k5] 29 := hw0 ▸ HBx.out.set 1 _
      replace HBs := Lib.hid (q4 HBs.out (by omega))
      replace HOI := Lib.hid (q5 HOI.out (by omega))
      replace HOU := Lib.hid (q5 HOU.out (by omega))
      replace Hb := Lib.hid (Hb.out.trans (q2 w.heap.size (by omega)))
      replace HBx := Lib.hid hX
      clear hX hw0 q1 q2 q3 q4 q5

      go_loopw [47] (fun i wr => ∃ k : Nat, k ≤ s.units.length ∧ i = .int .i64 k ∧ Hid (Own wr b1 gu 5 s.units.length (mixF k (fun i => (((fU i).set 0 (.string nm)).set 1 (.string nm)).set 2 (.int .i64 7)) fU)) ∧ Below gu w6 wr) (fun i _ => s.units.length - (intOf i).toNat)
      case atStart => exact ⟨0, Nat.zero_le _, rfl, Lib.hid HOU.out.mix0, Below.refl _ _⟩
      case round =>
        obtain ⟨k, hk, rfl, Hn, hb1⟩ := hrel
        clear HOU
        replace HBs := Lib.hid (HBs.out.below hb1 (by omega))
        replace HBx := Lib.hid (HBx.out.below hb1 (by omega))
        replace HOI := Lib.hid (HOI.out.below hb1 (by omega))
        replace Hb := Lib.hid (Hb.out.trans (hb1.mono (by omega)))

        by_cases hlt : k < s.units.length
        case pos =>
          have hlt' : (k : Int) < (s.units.length : Int) := by omega
          have y1 : wr.cell? ⟨gx, 1, none⟩ = some (.slice (some ⟨gu, 0, none⟩) s.units.length cu) := HBx.out.cell 1

          go_wp2_with fail
          have hglt : gu < wr.heap.size := Hn.out.lt
          refine wp_region_rel [50, 51, 52, 53, 54, 55, 56, 57, 58, 59, 60, 61, 62, 63, 64, 65, 66] (RSet gu [(k * 5, .string nm), (k * 5 + 1, .string nm), (k * 5 + 2, .int .i64 7)]) (PhiS gu [.val (.pointer (some ⟨gx, 1, none⟩)), .val (.slice (some ⟨gu, 0, none⟩) s.units.length cu), .val (.int .i64 k), .val (.pointer (some ⟨gx, 1, none⟩)), .val (.slice (some ⟨gu, 0, none⟩) s.units.length cu), .val (.int .i64 k), .val (.pointer (some ⟨gx, 1, none⟩)), .val (.slice (some ⟨gu, 0, none⟩) s.units.length cu), .val (.int .i64 k), .val (.string nm), .val (.string nm), .val (.pointer (some ⟨gu, k * 5, none⟩)), .val (.pointer (some ⟨gu, k * 5, none⟩)), .st (k * 5) (.string nm), .val (.pointer (some ⟨gu, k * 5, none⟩)), .val (.pointer (some ⟨gu, k * 5 + 1, none⟩)), .st (k * 5 + 1) (.string nm), .val (.pointer (some ⟨gu, k * 5, none⟩)), .val (.pointer (some ⟨gu, k * 5 + 2, none⟩)), .st (k * 5 + 2) (.int .i64 7)]) (by kernel_rfl) (by kernel_rfl) rfl (RSet.drew _ hglt) (fun h k => h.trans k) (PhiS.stab ?stab) (PhiS.none (by rfl)) ?step ?fin
          case stab =>
            simp only [List.mem_cons, List.not_mem_nil, or_false, forall_eq_or_imp, forall_eq, true_or, or_true, and_true, true_and]
          case step =>
            intro i o ho a' w' hr hoth hd
            have o5 : a'.eval (.tmp 5) = .pointer (some ⟨gx, 0, none⟩) := hoth 5 (by decide)
            have o7 : a'.eval (.tmp 7) = .int .i64 k := hoth 7 (by decide)
            have o1 : a'.eval (.tmp 1) = .string nm := hoth 1 (by decide)
            have hc : ∀ v, a'.eval (.const v) = v := fun _ => rfl
            replace y1 : w'.cell? ⟨gx, 1, none⟩ = some (.slice (some ⟨gu, 0, none⟩) s.units.length cu) := (hr.blk HBx.out (by omega)).cell 1
            obtain ⟨v0, e0⟩ := Option.isSome_iff_exists.1 (hr.some_ (k * 5) (by obtain ⟨v, _, h⟩ := Hn.out.cl k hlt 0 (by decide); rw [Nat.add_zero] at h; rw [h]; rfl))
            obtain ⟨v1, e1⟩ := Option.isSome_iff_exists.1 (hr.some_ (k * 5 + 1) (by obtain ⟨v, _, h⟩ := Hn.out.cl k hlt 1 (by decide); rw [h]; rfl))
            obtain ⟨v2, e2⟩ := Option.isSome_iff_exists.1 (hr.some_ (k * 5 + 2) (by obtain ⟨v, _, h⟩ := Hn.out.cl k hlt 2 (by decide); rw [h]; rfl))
            have fz0 := (hr.fz (k * 5) hglt).trans (Hn.out.fz _)
            have fz1 := (hr.fz (k * 5 + 1) hglt).trans (Hn.out.fz _)
            have fz2 := (hr.fz (k * 5 + 2) hglt).trans (Hn.out.fz _)
            have hrf : RSet gu [(k * 5, .string nm), (k * 5 + 1, .string nm), (k * 5 + 2, .int .i64 7)] w' w' := RSet.refl w'
            match i, ho with
            | 0, ho =>
              have ho' := Option.some.inj ho
              subst ho'
              clear hd hoth
              generalize a'.eval = E at *
              simp [go_sem, repR, o5]
              exact ⟨hrf, rfl⟩
            | 1, ho =>
              have ho' := Option.some.inj ho
              subst ho'
              have e0 : a'.eval (.tmp 50) = .pointer (some ⟨gx, 1, none⟩) := hd ⟨0, .data⟩ (by simp) rfl
              clear hd hoth
              generalize a'.eval = E at *
              simp [go_sem, repR, e0, y1]
              exact ⟨hrf, rfl⟩
            | 2, ho =>
              have ho' := Option.some.inj ho
              subst ho'
              clear hd hoth
              generalize a'.eval = E at *
              simp [go_sem, repR, o7]
              exact ⟨hrf, rfl⟩
            | 3, ho =>
              have ho' := Option.some.inj ho
              subst ho'
              clear hd hoth
              generalize a'.eval = E at *
              simp [go_sem, repR, o5]
              exact ⟨hrf, rfl⟩
            | 4, ho =>
              have ho' := Option.some.inj ho
              subst ho'
              have e3 : a'.eval (.tmp 53) = .pointer (some ⟨gx, 1, none⟩) := hd ⟨3, .data⟩ (by simp) rfl
              clear hd hoth
              generalize a'.eval = E at *
              simp [go_sem, repR, e3, y1]
              exact ⟨hrf, rfl⟩
            | 5, ho =>
              have ho' := Option.some.inj ho
              subst ho'
              clear hd hoth
              generalize a'.eval = E at *
              simp [go_sem, repR, o7]
              exact ⟨hrf, rfl⟩
            | 6, ho =>
              have ho' := Option.some.inj ho
              subst ho'
              clear hd hoth
              generalize a'.eval = E at *
              simp [go_sem, repR, o5]
              exact ⟨hrf, rfl⟩
            | 7, ho =>
              have ho' := Option.some.inj ho
              subst ho'
              have e6 : a'.eval (.tmp 56) = .pointer (some ⟨gx, 1, none⟩) := hd ⟨6, .data⟩ (by simp) rfl
              clear hd hoth
              generalize a'.eval = E at *
              simp [go_sem, repR, e6, y1]
              exact ⟨hrf, rfl⟩
            | 8, ho =>
              have ho' := Option.some.inj ho
              subst ho'
              clear hd hoth
              generalize a'.eval = E at *
              simp [go_sem, repR, o7]
              exact ⟨hrf, rfl⟩
            | 9, ho =>
              have ho' := Option.some.inj ho
              subst ho'
              clear hd hoth
              generalize a'.eval = E at *
              simp [go_sem, repR, o1]
              exact ⟨hrf, rfl⟩
            | 10, ho =>
              have ho' := Option.some.inj ho
              subst ho'
              clear hd hoth
              generalize a'.eval = E at *
              simp [go_sem, repR, o1]
              exact ⟨hrf, rfl⟩
            | 11, ho =>
              have ho' := Option.some.inj ho
              subst ho'
              have e1 : a'.eval (.tmp 51) = .slice (some ⟨gu, 0, none⟩) s.units.length cu := hd ⟨1, .data⟩ (by simp) rfl
              have e2 : a'.eval (.tmp 52) = .int .i64 k := hd ⟨2, .data⟩ (by simp) rfl
              clear hd hoth
              generalize a'.eval = E at *
              simp [go_sem, repR, e1, e2, hlt']
              exact ⟨hrf, rfl⟩
            | 12, ho =>
              have ho' := Option.some.inj ho
              subst ho'
              have e11 : a'.eval (.tmp 61) = .pointer (some ⟨gu, k * 5, none⟩) := hd ⟨11, .data⟩ (by simp) rfl
              clear hd hoth
              generalize a'.eval = E at *
              simp [go_sem, repR, e11]
              exact ⟨hrf, rfl⟩
            | 13, ho =>
              have ho' := Option.some.inj ho
              subst ho'
              have e12 : a'.eval (.tmp 62) = .pointer (some ⟨gu, k * 5, none⟩) := hd ⟨12, .data⟩ (by simp) rfl
              have e9 : a'.eval (.tmp 59) = .string nm := hd ⟨9, .data⟩ (by simp) rfl
              clear hd hoth
              generalize a'.eval = E at *
              simp [go_sem, repR, e12, e9, fz0, e0]
              exact RSet.set (by simp) (by simp) (by rw [e0]; rfl)
            | 14, ho =>
              have ho' := Option.some.inj ho
              subst ho'
              have e4 : a'.eval (.tmp 54) = .slice (some ⟨gu, 0, none⟩) s.units.length cu := hd ⟨4, .data⟩ (by simp) rfl
              have e5 : a'.eval (.tmp 55) = .int .i64 k := hd ⟨5, .data⟩ (by simp) rfl
              clear hd hoth
              generalize a'.eval = E at *
              simp [go_sem, repR, e4, e5, hlt']
              exact ⟨hrf, rfl⟩
            | 15, ho =>
              have ho' := Option.some.inj ho
              subst ho'
              have e14 : a'.eval (.tmp 63) = .pointer (some ⟨gu, k * 5, none⟩) := hd ⟨14, .data⟩ (by simp) rfl
              clear hd hoth
              generalize a'.eval = E at *
              simp [go_sem, repR, e14]
              exact ⟨hrf, rfl⟩
            | 16, ho =>
              have ho' := Option.some.inj ho
              subst ho'
              have e15 : a'.eval (.tmp 64) = .pointer (some ⟨gu, k * 5 + 1, none⟩) := hd ⟨15, .data⟩ (by simp) rfl
              have e10 : a'.eval (.tmp 60) = .string nm := hd ⟨10, .data⟩ (by simp) rfl
              clear hd hoth
              generalize a'.eval = E at *
              simp [go_sem, repR, e15, e10, fz1, e1]
              exact RSet.set (by simp) (by simp) (by rw [e1]; rfl)
            | 17, ho =>
              have ho' := Option.some.inj ho
              subst ho'
              have e7 : a'.eval (.tmp 57) = .slice (some ⟨gu, 0, none⟩) s.units.length cu := hd ⟨7, .data⟩ (by simp) rfl
              have e8 : a'.eval (.tmp 58) = .int .i64 k := hd ⟨8, .data⟩ (by simp) rfl
              clear hd hoth
              generalize a'.eval = E at *
              simp [go_sem, repR, e7, e8, hlt']
              exact ⟨hrf, rfl⟩
            | 18, ho =>
              have ho' := Option.some.inj ho
              subst ho'
              have e17 : a'.eval (.tmp 65) = .pointer (some ⟨gu, k * 5, none⟩) := hd ⟨17, .data⟩ (by simp) rfl
              clear hd hoth
              generalize a'.eval = E at *
              simp [go_sem, repR, e17]
              exact ⟨hrf, rfl⟩
            | 19, ho =>
              have ho' := Option.some.inj ho
              subst ho'
              have e18 : a'.eval (.tmp 66) = .pointer (some ⟨gu, k * 5 + 2, none⟩) := hd ⟨18, .data⟩ (by simp) rfl
              clear hd hoth
              generalize a'.eval = E at *
              simp [go_sem, repR, e18, fz2, hc, e2]
              exact RSet.set (by simp) (by simp) (by rw [e2]; rfl)
            | i + 20, ho => exact absurd (List.getElem?_eq_some_iff.1 ho).1 (by simp)
          case fin =>

            intro f w7 hr hp
            have n0 : w7.cell? ⟨gu, k * 5, none⟩ = some (.string nm) := hp 13 _ rfl
            have n1 : w7.cell? ⟨gu, k * 5 + 1, none⟩ = some (.string nm) := hp 16 _ rfl
            have n2 : w7.cell? ⟨gu, k * 5 + 2, none⟩ = some (.int .i64 7) := hp 19 _ rfl
            clear hp
            simp [puts, Act.put]
            go_wp2_with fail
            go_roundw
            case rel =>
              obtain ⟨c0, c1, c2, c3, c4, hq⟩ := len5 (HfU.out.ln k hlt)
              have hset := RSet.row (os := [(0, .string nm), (1, .string nm), (2, .int .i64 7)]) (r := (((fU k).set 0 (.string nm)).set 1 (.string nm)).set 2 (.int .i64 7)) hr Hn.out (by simp) hlt (by simp; exact ⟨n0, n1, n2⟩)
                (by rw [hq]; simp) (fun j hj hne => by rw [mixF_at, hq]; simp at hne; match j, hj with | 3, _ => rfl | 4, _ => rfl | 0, _ => exact absurd rfl hne.1 | 1, _ => exact absurd rfl hne.2.1 | 2, _ => exact absurd rfl hne.2.2)
              exact ⟨k + 1, by omega, by go_num, Lib.hid (hset.mixS (if_pos rfl) fun i hi => if_neg hi), hb1.trans (hr.below (Nat.le_refl _) hglt)⟩
            case measure => simp [intOf]; omega
        case neg =>
          obtain rfl : k = s.units.length := by omega
          have HOU := Lib.hid Hn.out.mixN
          have hgw2 : gu < wr.heap.size := HOU.out.lt
          clear Hn hb1 hlt
          have y2 : wr.cell? ⟨gx, 2, none⟩ = some (.slice a2 s.schemas.length k2) := HBx.out.cell 2

          have x2 : wr.cell? ⟨w.heap.size, 2, none⟩ = some (.slice a2 s.schemas.length k2) := HBs.out.cell 2

          have fy2 : wr.frozen? ⟨gx, 2, none⟩ = false := HBx.out.frozen 2
          obtain ⟨b2, hb2e⟩ : ∃ g, wr.heap.size = g := ⟨_, rfl⟩
          have hub : gu < b2 := by omega
          have hsb2 : w.heap.size < b2 := by omega
          go_wp2_with (
            at_builtin
            generalize hw0 : World.alloc _ _ = wa
            obtain ⟨X0, hsz, hb0⟩ := blk1 hw0
            rw [hb2e] at X0 hsz
            refine wpList_append_copy rfl _ _ 24 rfl b2 57 i57 z57 6 i57.bytes Try.underlying24 hi57 hz57 hs57 rfl (by decide) b2 X0 (Nat.le_refl _) (by omega) a2 s.schemas.length k2 fS (HfS.out.below (Hb.out.trans (hb0.mono Hb.out.size))) hm2 hb57 rfl rfl ?_
            intro gs cs w8 hb1 hO
            replace hb1 := hb0.trans (hb1.mono hb0.size)
            clear hw0 X0 hsz hb0
            replace HBs := Lib.hid (HBs.out.below hb1 HBs.out.lt)
            replace HBx := Lib.hid (HBx.out.below hb1 HBx.out.lt)
            replace HOI := Lib.hid (HOI.out.below hb1 HOI.out.lt)
            replace HOU := Lib.hid (HOU.out.below hb1 HOU.out.lt)
            replace Hb := Lib.hid (Hb.out.trans (hb1.mono Hb.out.size))
            have hb2s : b2 ≤ gs := hO.ge
            have HOS := Lib.hid hO
            clear y2 x2 fy2 hO hb1
            have y2 : w8.cell? ⟨gx, 2, none⟩ = some (.slice a2 s.schemas.length k2) := HBx.out.cell 2
            have fy2 : w8.frozen? ⟨gx, 2, none⟩ = false := HBx.out.frozen 2
            clear hb2e)
          clear y2 fy2
          generalize hw0 : World.setCell _ _ _ = w9
          obtain ⟨q1, q2, q3, q4, q5⟩ := set_facts hw0
          have hX : Blk w9 gx #[.slice (some ⟨gi, 0, none⟩) s.issuers.length ci, .slice (some ⟨gu, 0, none⟩) s.units.length cu, .slice (some ⟨gs, 0, none⟩) s.schemas.length cs, .slice a3 s.rules.length k3, .slice a4 s.converts k4, .slice a5 s.purposes.length k5] 29 := hw0 ▸ HBx.out.set 2 _
          replace HBs := Lib.hid (q4 HBs.out (by omega))
          replace HOI := Lib.hid (q5 HOI.out (by omega))
          replace HOU := Lib.hid (q5 HOU.out (by omega))
          replace HOS := Lib.hid (q5 HOS.out (by omega))
          replace Hb := Lib.hid (Hb.out.trans (q2 w.heap.size (by omega)))
          replace HBx := Lib.hid hX
          clear hX hw0 q1 q2 q3 q4 q5

          go_loopw [76] (fun i wr => ∃ (k : Nat) (V : Nat → Value), k ≤ s.schemas.length ∧ i = .int .i64 k ∧ Hid (Own wr b2 gs 6 s.schemas.length (mixF k (fun i => (((fS i).set 0 (.string nm)).set 1 (.string nm)).set 4 (V i)) fS)) ∧ Hid (∀ i (hi : i < s.schemas.length), i < k → FRow w wr nm gs s.schemas[i] (V i)) ∧ Below gs w9 wr) (fun i _ => s.schemas.length - (intOf i).toNat)
          case atStart => exact ⟨0, fun _ => undef, Nat.zero_le _, rfl, Lib.hid HOS.out.mix0, Lib.hid fun i _ hi => absurd hi (Nat.not_lt_zero i), Below.refl _ _⟩
          case round =>
            obtain ⟨k, V, hk, rfl, Hn, HV, hb1⟩ := hrel
            clear HOS
            replace HBs := Lib.hid (HBs.out.below hb1 (by omega))
            replace HBx := Lib.hid (HBx.out.below hb1 (by omega))
            replace HOI := Lib.hid (HOI.out.below hb1 (by omega))
            replace HOU := Lib.hid (HOU.out.below hb1 (by omega))
            replace Hb := Lib.hid (Hb.out.trans (hb1.mono (by omega)))

            by_cases hlt : k < s.schemas.length
            case pos =>
              have hlt' : (k : Int) < (s.schemas.length : Int) := by omega
              have y2 : wr.cell? ⟨gx, 2, none⟩ = some (.slice (some ⟨gs, 0, none⟩) s.schemas.length cs) := HBx.out.cell 2

              go_wp2_with fail
              have hglt : gs < wr.heap.size := Hn.out.lt
              refine wp_region_rel [79, 80, 81, 82, 83, 84, 85, 86, 87, 88, 89, 90] (RSet gs [(k * 6, .string nm), (k * 6 + 1, .string nm)]) (PhiS gs [.val (.pointer (some ⟨gx, 2, none⟩)), .val (.slice (some ⟨gs, 0, none⟩) s.schemas.length cs), .val (.int .i64 k), .val (.pointer (some ⟨gx, 2, none⟩)), .val (.slice (some ⟨gs, 0, none⟩) s.schemas.length cs), .val (.int .i64 k), .val (.string nm), .val (.string nm), .val (.pointer (some ⟨gs, k * 6, none⟩)), .val (.pointer (some ⟨gs, k * 6, none⟩)), .st (k * 6) (.string nm), .val (.pointer (some ⟨gs, k * 6, none⟩)), .val (.pointer (some ⟨gs, k * 6 + 1, none⟩)), .st (k * 6 + 1) (.string nm)]) (by kernel_rfl) (by kernel_rfl) rfl (RSet.drew _ hglt) (fun h k => h.trans k) (PhiS.stab ?stab) (PhiS.none (by rfl)) ?step ?fin
              case stab =>
                simp only [List.mem_cons, List.not_mem_nil, or_false, forall_eq_or_imp, forall_eq, true_or, or_true, and_true, true_and]
              case step =>
                intro i o ho a' w' hr hoth hd
                have o5 : a'.eval (.tmp 5) = .pointer (some ⟨gx, 0, none⟩) := hoth 5 (by decide)
                have o8 : a'.eval (.tmp 8) = .int .i64 k := hoth 8 (by decide)
                have o1 : a'.eval (.tmp 1) = .string nm := hoth 1 (by decide)
                have hc : ∀ v, a'.eval (.const v) = v := fun _ => rfl
                replace y2 : w'.cell? ⟨gx, 2, none⟩ = some (.slice (some ⟨gs, 0, none⟩) s.schemas.length cs) := (hr.blk HBx.out (by omega)).cell 2
                obtain ⟨v0, e0⟩ := Option.isSome_iff_exists.1 (hr.some_ (k * 6) (by obtain ⟨v, _, h⟩ := Hn.out.cl k hlt 0 (by decide); rw [Nat.add_zero] at h; rw [h]; rfl))
                obtain ⟨v1, e1⟩ := Option.isSome_iff_exists.1 (hr.some_ (k * 6 + 1) (by obtain ⟨v, _, h⟩ := Hn.out.cl k hlt 1 (by decide); rw [h]; rfl))
                have fz0 := (hr.fz (k * 6) hglt).trans (Hn.out.fz _)
                have fz1 := (hr.fz (k * 6 + 1) hglt).trans (Hn.out.fz _)
                have hrf : RSet gs [(k * 6, .string nm), (k * 6 + 1, .string nm)] w' w' := RSet.refl w'
                match i, ho with
                | 0, ho =>
                  have ho' := Option.some.inj ho
                  subst ho'
                  clear hd hoth
                  generalize a'.eval = E at *
                  simp [go_sem, repR, o5]
                  exact ⟨hrf, rfl⟩
                | 1, ho =>
                  have ho' := Option.some.inj ho
                  subst ho'
                  have e0 : a'.eval (.tmp 79) = .pointer (some ⟨gx, 2, none⟩) := hd ⟨0, .data⟩ (by simp) rfl
                  clear hd hoth
                  generalize a'.eval = E at *
                  simp [go_sem, repR, e0, y2]
                  exact ⟨hrf, rfl⟩
                | 2, ho =>
                  have ho' := Option.some.inj ho
                  subst ho'
                  clear hd hoth
                  generalize a'.eval = E at *
                  simp [go_sem, repR, o8]
                  exact ⟨hrf, rfl⟩
                | 3, ho =>
                  have ho' := Option.some.inj ho
                  subst ho'
                  clear hd hoth
                  generalize a'.eval = E at *
                  simp [go_sem, repR, o5]
                  exact ⟨hrf, rfl⟩
                | 4, ho =>
                  have ho' := Option.some.inj ho
                  subst ho'
                  have e3 : a'.eval (.tmp 82) = .pointer (some ⟨gx, 2, none⟩) := hd ⟨3, .data⟩ (by simp) rfl
                  clear hd hoth
                  generalize a'.eval = E at *
                  simp [go_sem, repR, e3, y2]
                  exact ⟨hrf, rfl⟩
                | 5, ho =>
                  have ho' := Option.some.inj ho
                  subst ho'
                  clear hd hoth
                  generalize a'.eval = E at *
                  simp [go_sem, repR, o8]
                  exact ⟨hrf, rfl⟩
                | 6, ho =>
                  have ho' := Option.some.inj ho
                  subst ho'
                  clear hd hoth
                  generalize a'.eval = E at *
                  simp [go_sem, repR, o1]
                  exact ⟨hrf, rfl⟩
                | 7, ho =>
                  have ho' := Option.some.inj ho
                  subst ho'
                  clear hd hoth
                  generalize a'.eval = E at *
                  simp [go_sem, repR, o1]
                  exact ⟨hrf, rfl⟩
                | 8, ho =>
                  have ho' := Option.some.inj ho
                  subst ho'
                  have e1 : a'.eval (.tmp 80) = .slice (some ⟨gs, 0, none⟩) s.schemas.length cs := hd ⟨1, .data⟩ (by simp) rfl
                  have e2 : a'.eval (.tmp 81) = .int .i64 k := hd ⟨2, .data⟩ (by simp) rfl
                  clear hd hoth
                  generalize a'.eval = E at *
                  simp [go_sem, repR, e1, e2, hlt']
                  exact ⟨hrf, rfl⟩
                | 9, ho =>
                  have ho' := Option.some.inj ho
                  subst ho'
                  have e8 : a'.eval (.tmp 87) = .pointer (some ⟨gs, k * 6, none⟩) := hd ⟨8, .data⟩ (by simp) rfl
                  clear hd hoth
                  generalize a'.eval = E at *
                  simp [go_sem, repR, e8]
                  exact ⟨hrf, rfl⟩
                | 10, ho =>
                  have ho' := Option.some.inj ho
                  subst ho'
                  have e9 : a'.eval (.tmp 88) = .pointer (some ⟨gs, k * 6, none⟩) := hd ⟨9, .data⟩ (by simp) rfl
                  have e6 : a'.eval (.tmp 85) = .string nm := hd ⟨6, .data⟩ (by simp) rfl
                  clear hd hoth
                  generalize a'.eval = E at *
                  simp [go_sem, repR, e9, e6, fz0, e0]
                  exact RSet.set (by simp) (by simp) (by rw [e0]; rfl)
                | 11, ho =>
                  have ho' := Option.some.inj ho
                  subst ho'
                  have e4 : a'.eval (.tmp 83) = .slice (some ⟨gs, 0, none⟩) s.schemas.length cs := hd ⟨4, .data⟩ (by simp) rfl
                  have e5 : a'.eval (.tmp 84) = .int .i64 k := hd ⟨5, .data⟩ (by simp) rfl
                  clear hd hoth
                  generalize a'.eval = E at *
                  simp [go_sem, repR, e4, e5, hlt']
                  exact ⟨hrf, rfl⟩
                | 12, ho =>
                  have ho' := Option.some.inj ho
                  subst ho'
                  have e11 : a'.eval (.tmp 89) = .pointer (some ⟨gs, k * 6, none⟩) := hd ⟨11, .data⟩ (by simp) rfl
                  clear hd hoth
                  generalize a'.eval = E at *
                  simp [go_sem, repR, e11]
                  exact ⟨hrf, rfl⟩
                | 13, ho =>
                  have ho' := Option.some.inj ho
                  subst ho'
                  have e12 : a'.eval (.tmp 90) = .pointer (some ⟨gs, k * 6 + 1, none⟩) := hd ⟨12, .data⟩ (by simp) rfl
                  have e7 : a'.eval (.tmp 86) = .string nm := hd ⟨7, .data⟩ (by simp) rfl
                  clear hd hoth
                  generalize a'.eval = E at *
                  simp [go_sem, repR, e12, e7, fz1, e1]
                  exact RSet.set (by simp) (by simp) (by rw [e1]; rfl)
                | i + 14, ho => exact absurd (List.getElem?_eq_some_iff.1 ho).1 (by simp)
              case fin =>

                intro f w10 hr hp
                have n0 : w10.cell? ⟨gs, k * 6, none⟩ = some (.string nm) := hp 10 _ rfl
                have n1 : w10.cell? ⟨gs, k * 6 + 1, none⟩ = some (.string nm) := hp 13 _ rfl
                clear hp
                obtain ⟨sk, hsk⟩ : ∃ x, s.schemas[k] = x := ⟨_, rfl⟩
                obtain ⟨fa, fk, da, dk, hq, hfl, _⟩ := (HS1.out k hlt).flat
                have hmk := Hmf.out k hlt
                rw [hsk] at hq hfl hmk
                obtain ⟨bS, oS, e2, hbS, hcl⟩ := HfS.out.cl k hlt
                have d4 : w.cell? ⟨bS, oS + k * 6 + 4, none⟩ = some (.slice fa sk.fields.length fk) := by rw [hcl 4 (by decide), hq]; rfl
                obtain ⟨es, hE0, hE1⟩ := src0_of hfl (fun es x h => by obtain ⟨_, _, rfl, _⟩ := h.flat; exact ⟨rfl, by simp [Value.oneCell']⟩)
                have HE0 := Lib.hid hE0
                have HE1 := Lib.hid hE1
                have He2 := Lib.hid e2
                clear hE0 hE1 hfl hcl e2
                have Hrow := Lib.hid (RSet.row (os := [(0, .string nm), (1, .string nm)]) (r := ((fS k).set 0 (.string nm)).set 1 (.string nm)) hr Hn.out (by simp) hlt (by simp; exact ⟨n0, n1⟩)
                  (by rw [hq]; simp) (fun j hj hne => by rw [mixF_at, hq]; simp at hne; match j, hj with | 2, _ => rfl | 3, _ => rfl | 4, _ => rfl | 5, _ => rfl | 0, _ => exact absurd rfl hne.1 | 1, _ => exact absurd rfl hne.2))
                replace HV := Lib.hid fun i hi hik => (HV.out i hi hik).rset hr
                replace Hb := Lib.hid (Hb.out.trans (hr.below (B := w.heap.size) (by omega) hglt))
                replace HBs := Lib.hid (hr.blk HBs.out (by omega))
                replace HBx := Lib.hid (hr.blk HBx.out (by omega))
                replace HOI := Lib.hid (hr.own HOI.out (by omega))
                replace HOU := Lib.hid (hr.own HOU.out (by omega))

                replace hb1 := hb1.trans (hr.below (Nat.le_refl _) hglt)
                clear Hn hr n0 n1 y2 hglt
                have Hq := Lib.hid hq
                clear hq
                simp [puts, Act.put]
                go_wp2_with fail
                refine wp_region_reps [91, 92, 93, 94, 95, 96, 97, 98, 99, 100, 101] (PhiB [.val (.pointer (some ⟨gx, 2, none⟩)), .val (.slice (some ⟨gs, 0, none⟩) s.schemas.length cs), .val (.int .i64 k), .p (EmptyAt w10.heap.size 74), .val (.pointer (some ⟨w.heap.size, 2, none⟩)), .val (.slice (some ⟨bS, oS, none⟩) s.schemas.length k2), .val (.int .i64 k), .val (.pointer (some ⟨bS, oS + k * 6, none⟩)), .val (.pointer (some ⟨bS, oS + k * 6 + 4, none⟩)), .val (.slice fa sk.fields.length fk), .p (CopyAt w10.heap.size 11 sk.fields.length es)]) (by kernel_rfl) (by kernel_rfl) (by kernel_rfl) (PhiB.stab ?stab) ?step ?fin
                case stab =>
                  intro x hx
                  simp only [List.mem_cons, List.not_mem_nil, or_false] at hx
                  rcases hx with rfl | rfl | rfl | rfl | rfl | rfl | rfl | rfl | rfl | rfl | rfl <;> first | trivial | exact EmptyAt.stab | exact CopyAt.stab
                case step =>
                  intro i o hi ho a' w' hb hoth hd
                  have o5 : a'.eval (.tmp 5) = .pointer (some ⟨gx, 0, none⟩) := hoth 5 (by decide)
                  have o8 : a'.eval (.tmp 8) = .int .i64 k := hoth 8 (by decide)
                  have o2 : a'.eval (.tmp 2) = .pointer (some ⟨w.heap.size, 0, none⟩) := hoth 2 (by decide)
                  have hc : ∀ v, a'.eval (.const v) = v := fun _ => rfl
                  have hB := hb.size
                  have y2 : w'.cell? ⟨gx, 2, none⟩ = some (.slice (some ⟨gs, 0, none⟩) s.schemas.length cs) := (HBx.out.below hb HBx.out.lt).cell 2
                  have x2 : w'.cell? ⟨w.heap.size, 2, none⟩ = some (.slice (some ⟨bS, oS, none⟩) s.schemas.length k2) := He2.out ▸ (HBs.out.below hb HBs.out.lt).cell 2
                  have d4' : w'.cell? ⟨bS, oS + k * 6 + 4, none⟩ = some (.slice fa sk.fields.length fk) := ((Hb.out.trans (hb.mono Hb.out.size)).cell (p := ⟨bS, _, none⟩) hbS).trans d4
                  match i, hi with
                  | 0, _ =>
                    have ho' := Option.some.inj ho
                    subst ho'
                    clear hd hoth
                    generalize a'.eval = E at *
                    simp [go_sem, repUpon, o5]
                    exact ⟨Below.refl _ _, rfl⟩
                  | 1, _ =>
                    have ho' := Option.some.inj ho
                    subst ho'
                    have e0 : a'.eval (.tmp 91) = .pointer (some ⟨gx, 2, none⟩) := hd ⟨0, .data⟩ (by simp) rfl
                    clear hd hoth
                    generalize a'.eval = E at *
                    simp [go_sem, repUpon, e0, y2]
                    exact ⟨Below.refl _ _, rfl⟩
                  | 2, _ =>
                    have ho' := Option.some.inj ho
                    subst ho'
                    clear hd hoth
                    generalize a'.eval = E at *
                    simp [go_sem, repUpon, o8]
                    exact ⟨Below.refl _ _, rfl⟩
                  | 3, _ =>
                    have ho' := Option.some.inj ho
                    subst ho'
                    clear hd hoth
                    generalize a'.eval = E at *
                    simp [go_sem, repUpon]
                    exact ⟨(Below.refl _ _).alloc (Nat.le_refl _) _, ⟨_, rfl, hB, Blk.new _ _ _⟩⟩
                  | 4, _ =>
                    have ho' := Option.some.inj ho
                    subst ho'
                    clear hd hoth
                    generalize a'.eval = E at *
                    simp [go_sem, repUpon, o2]
                    exact ⟨Below.refl _ _, rfl⟩
                  | 5, _ =>
                    have ho' := Option.some.inj ho
                    subst ho'
                    have e4 : a'.eval (.tmp 95) = .pointer (some ⟨w.heap.size, 2, none⟩) := hd ⟨4, .data⟩ (by simp) rfl
                    clear hd hoth
                    generalize a'.eval = E at *
                    simp [go_sem, repUpon, e4, x2]
                    exact ⟨Below.refl _ _, rfl⟩
                  | 6, _ =>
                    have ho' := Option.some.inj ho
                    subst ho'
                    clear hd hoth
                    generalize a'.eval = E at *
                    simp [go_sem, repUpon, o8]
                    exact ⟨Below.refl _ _, rfl⟩
                  | 7, _ =>
                    have ho' := Option.some.inj ho
                    subst ho'
                    have e5 : a'.eval (.tmp 96) = .slice (some ⟨bS, oS, none⟩) s.schemas.length k2 := hd ⟨5, .data⟩ (by simp) rfl
                    have e6 : a'.eval (.tmp 97) = .int .i64 k := hd ⟨6, .data⟩ (by simp) rfl
                    clear hd hoth
                    generalize a'.eval = E at *
                    simp [go_sem, repUpon, e5, e6, hlt']
                    exact ⟨Below.refl _ _, rfl⟩
                  | 8, _ =>
                    have ho' := Option.some.inj ho
                    subst ho'
                    have e7 : a'.eval (.tmp 98) = .pointer (some ⟨bS, oS + k * 6, none⟩) := hd ⟨7, .data⟩ (by simp) rfl
                    clear hd hoth
                    generalize a'.eval = E at *
                    simp [go_sem, repUpon, e7]
                    exact ⟨Below.refl _ _, rfl⟩
                  | 9, _ =>
                    have ho' := Option.some.inj ho
                    subst ho'
                    have e8 : a'.eval (.tmp 99) = .pointer (some ⟨bS, oS + k * 6 + 4, none⟩) := hd ⟨8, .data⟩ (by simp) rfl
                    clear hd hoth
                    generalize a'.eval = E at *
                    simp [go_sem, repUpon, e8, d4']
                    exact ⟨Below.refl _ _, rfl⟩
                  | 10, _ =>
                    have ho' := Option.some.inj ho
                    subst ho'
                    have e3 : (EmptyAt w10.heap.size 74) (a'.eval (.tmp 94)) w' := hd ⟨3, .data⟩ (by simp) rfl
                    have e9 : a'.eval (.tmp 100) = .slice fa sk.fields.length fk := hd ⟨9, .data⟩ (by simp) rfl
                    clear hd hoth
                    generalize a'.eval = E at *
                    obtain ⟨g0, e3v, hg0, hblk⟩ := e3
                    obtain ⟨g, c, wn, hrun, hbel, hown⟩ := run_append_copy (P := Try.prog) w' w10.heap.size 54 54 74 i74 z74 11 i74.bytes Try.underlying54 hi74 hz74 hs74 rfl (by decide) g0 hblk hg0 hB fa sk.fields.length fk es (HE0.out.below (Hb.out.trans (hb.mono Hb.out.size))) hmk hb74
                    unfold execOp
                    simp only [resolve, invoke, builtin, Sem.run_bind, Sem.run_pure, Result.andThen_ok, List.map_toArray, List.map_cons, List.map_nil, e3v, e9, hrun]
                    exact ⟨hbel, g, c, rfl, hown⟩
                  | i + 11, hi => exact absurd hi (by simp)
                case fin =>

                  intro f' w11 hb2 hp
                  have hv92 : f' 92 = .slice (some ⟨gs, 0, none⟩) s.schemas.length cs := hp 1 (by decide)
                  have hv93 : f' 93 = .int .i64 k := hp 2 (by decide)
                  obtain ⟨gf, cf, hv101, hOf⟩ : CopyAt w10.heap.size 11 sk.fields.length es (f' 101) w11 := hp 10 (by decide)
                  clear hp
                  simp [puts, Act.put]
                  rw [hv92, hv93, hv101]
                  have hgsl : gs < w10.heap.size := Hrow.out.lt
                  have hsf : gs < gf := Nat.lt_of_lt_of_le hgsl hOf.ge
                  have hf10 : w10.heap.size ≤ gf := hOf.ge
                  have hsg2 : gx < gs := by omega
                  replace HBs := Lib.hid (HBs.out.below hb2 HBs.out.lt)
                  replace HBx := Lib.hid (HBx.out.below hb2 HBx.out.lt)
                  replace HOI := Lib.hid (HOI.out.below hb2 HOI.out.lt)
                  replace HOU := Lib.hid (HOU.out.below hb2 HOU.out.lt)
                  replace Hb := Lib.hid (Hb.out.trans (hb2.mono Hb.out.size))

                  replace Hrow := Lib.hid (Hrow.out.below hb2 Hrow.out.lt)
                  replace HV := Lib.hid fun i hi hik => (HV.out i hi hik).toB.below hb2 (Nat.le_refl _)
                  replace hb1 := hb1.trans (hb2.mono (by omega))
                  have HOf := Lib.hid hOf.base0
                  clear hOf hv92 hv93 hv101 hb2 d4
                  have y2 : w11.cell? ⟨gx, 2, none⟩ = some (.slice (some ⟨gs, 0, none⟩) s.schemas.length cs) := HBx.out.cell 2

                  obtain ⟨v4, hv4, z4⟩ := Hrow.out.cl k hlt 4 (by decide)
                  have fz4 := Hrow.out.fz (k * 6 + 4)
                  have hne1 : ¬ gx = gs := by omega
                  have hne2 : ¬ gs = gx := by omega
                  go_wp2_with fail
                  have hset := Hrow.out.set hlt (show 4 < 6 by decide) (.slice (some ⟨gf, 0, none⟩) sk.fields.length cf)
                  generalize hw0 : World.setCell _ _ _ = w12 at hset ⊢
                  obtain ⟨q1, q2, q3, q4, q5⟩ := set_facts hw0
                  replace HBs := Lib.hid (q4 HBs.out (by omega))
                  replace HBx := Lib.hid (q4 HBx.out (by omega))
                  replace HOI := Lib.hid (q5 HOI.out (by omega))
                  replace HOU := Lib.hid (q5 HOU.out (by omega))
                  replace Hb := Lib.hid (Hb.out.trans (q2 w.heap.size (by omega)))

                  have Hown := Lib.hid hset
                  replace HV := Lib.hid fun i hi hik => (HV.out i hi hik).set hw0 (Nat.le_refl _)
                  replace HOf := Lib.hid (q5 HOf.out (by omega))
                  have Hbo := Lib.hid (hb1.trans (q2 gs (Nat.le_refl _)))
                  clear hw0 q1 q2 q3 q4 q5 hset Hrow hb1 y2 z4 fz4 hv4 v4
                  go_loopw [111] (fun i wr => ∃ j : Nat, j ≤ sk.fields.length ∧ i = .int .i64 j ∧ Hid (Own wr 0 gf 11 sk.fields.length (mixF j (fun m => ((es m).set 0 (.string nm)).set 4 (.string nm)) es)) ∧ Below gf w12 wr) (fun i _ => sk.fields.length - (intOf i).toNat)
                  case atStart => exact ⟨0, Nat.zero_le _, rfl, Lib.hid HOf.out.mix0, Below.refl _ _⟩
                  case round =>
                    obtain ⟨j, hj, rfl, Hn2, hb1⟩ := hrel
                    clear HOf
                    replace HBs := Lib.hid (HBs.out.below hb1 (by omega))
                    replace HBx := Lib.hid (HBx.out.below hb1 (by omega))
                    replace HOI := Lib.hid (HOI.out.below hb1 (by omega))
                    replace HOU := Lib.hid (HOU.out.below hb1 (by omega))
                    replace Hown := Lib.hid (Hown.out.below hb1 (by omega))
                    replace Hb := Lib.hid (Hb.out.trans (hb1.mono (by omega)))

                    replace HV := Lib.hid fun i hi hik => (HV.out i hi hik).below hb1 hf10
                    replace Hbo := Lib.hid (Hbo.out.trans (hb1.mono (by omega)))
                    by_cases hjl : j < sk.fields.length
                    case pos =>
                      have hjl' : (j : Int) < (sk.fields.length : Int) := by omega
                      have y2 : wr.cell? ⟨gx, 2, none⟩ = some (.slice (some ⟨gs, 0, none⟩) s.schemas.length cs) := HBx.out.cell 2

                      have z4 : wr.cell? ⟨gs, k * 6 + 4, none⟩ = some (.slice (some ⟨gf, 0, none⟩) sk.fields.length cf) := Hown.out.at0 hlt (by decide) (by rw [setE_at, if_pos rfl, Hq.out]; rfl)
                      go_wp2_with fail
                      have hglt : gf < wr.heap.size := Hn2.out.lt
                      refine wp_region_rel [114, 115, 116, 117, 118, 119, 120, 121, 122, 123, 124, 125, 126, 127, 128, 129, 130, 131, 132, 133, 134] (RSet gf [(j * 11, .string nm), (j * 11 + 4, .string nm)]) (PhiS gf [.val (.pointer (some ⟨gx, 2, none⟩)), .val (.slice (some ⟨gs, 0, none⟩) s.schemas.length cs), .val (.int .i64 k), .val (.pointer (some ⟨gs, k * 6, none⟩)), .val (.pointer (some ⟨gs, k * 6 + 4, none⟩)), .val (.slice (some ⟨gf, 0, none⟩) sk.fields.length cf), .val (.int .i64 j), .val (.pointer (some ⟨gx, 2, none⟩)), .val (.slice (some ⟨gs, 0, none⟩) s.schemas.length cs), .val (.int .i64 k), .val (.pointer (some ⟨gs, k * 6, none⟩)), .val (.pointer (some ⟨gs, k * 6 + 4, none⟩)), .val (.slice (some ⟨gf, 0, none⟩) sk.fields.length cf), .val (.int .i64 j), .val (.string nm), .val (.string nm), .val (.pointer (some ⟨gf, j * 11, none⟩)), .val (.pointer (some ⟨gf, j * 11, none⟩)), .st (j * 11) (.string nm), .val (.pointer (some ⟨gf, j * 11, none⟩)), .val (.pointer (some ⟨gf, j * 11 + 1, none⟩)), .val (.pointer (some ⟨gf, j * 11 + 4, none⟩)), .st (j * 11 + 4) (.string nm)]) (by kernel_rfl) (by kernel_rfl) rfl (RSet.drew _ hglt) (fun h k => h.trans k) (PhiS.stab ?stab) (PhiS.none (by rfl)) ?step ?fin
                      case stab =>
                        simp only [List.mem_cons, List.not_mem_nil, or_false, forall_eq_or_imp, forall_eq, true_or, or_true, and_true, true_and]
                      case step =>
                        intro i o ho a' w' hr hoth hd
                        have o5 : a'.eval (.tmp 5) = .pointer (some ⟨gx, 0, none⟩) := hoth 5 (by decide)
                        have o8 : a'.eval (.tmp 8) = .int .i64 k := hoth 8 (by decide)
                        have o9 : a'.eval (.tmp 9) = .int .i64 j := hoth 9 (by decide)
                        have o1 : a'.eval (.tmp 1) = .string nm := hoth 1 (by decide)
                        have hc : ∀ v, a'.eval (.const v) = v := fun _ => rfl
                        replace y2 : w'.cell? ⟨gx, 2, none⟩ = some (.slice (some ⟨gs, 0, none⟩) s.schemas.length cs) := (hr.blk HBx.out (by omega)).cell 2
                        replace z4 : w'.cell? ⟨gs, k * 6 + 4, none⟩ = some (.slice (some ⟨gf, 0, none⟩) sk.fields.length cf) := (hr.own Hown.out (by omega)).at0 hlt (by decide) (by rw [setE_at, if_pos rfl, Hq.out]; rfl)
                        obtain ⟨v0, e0⟩ := Option.isSome_iff_exists.1 (hr.some_ (j * 11) (by obtain ⟨v, _, h⟩ := Hn2.out.cl j hjl 0 (by decide); rw [Nat.add_zero] at h; rw [h]; rfl))
                        obtain ⟨v1, e1⟩ := Option.isSome_iff_exists.1 (hr.some_ (j * 11 + 4) (by obtain ⟨v, _, h⟩ := Hn2.out.cl j hjl 4 (by decide); rw [h]; rfl))
                        have fz0 := (hr.fz (j * 11) hglt).trans (Hn2.out.fz _)
                        have fz1 := (hr.fz (j * 11 + 4) hglt).trans (Hn2.out.fz _)
                        have hrf : RSet gf [(j * 11, .string nm), (j * 11 + 4, .string nm)] w' w' := RSet.refl w'
                        match i, ho with
                        | 0, ho =>
                          have ho' := Option.some.inj ho
                          subst ho'
                          clear hd hoth
                          generalize a'.eval = E at *
                          simp [go_sem, repR, o5]
                          exact ⟨hrf, rfl⟩
                        | 1, ho =>
                          have ho' := Option.some.inj ho
                          subst ho'
                          have e0 : a'.eval (.tmp 114) = .pointer (some ⟨gx, 2, none⟩) := hd ⟨0, .data⟩ (by simp) rfl
                          clear hd hoth
                          generalize a'.eval = E at *
                          simp [go_sem, repR, e0, y2]
                          exact ⟨hrf, rfl⟩
                        | 2, ho =>
                          have ho' := Option.some.inj ho
                          subst ho'
                          clear hd hoth
                          generalize a'.eval = E at *
                          simp [go_sem, repR, o8]
                          exact ⟨hrf, rfl⟩
                        | 3, ho =>
                          have ho' := Option.some.inj ho
                          subst ho'
                          have e1 : a'.eval (.tmp 115) = .slice (some ⟨gs, 0, none⟩) s.schemas.length cs := hd ⟨1, .data⟩ (by simp) rfl
                          have e2 : a'.eval (.tmp 116) = .int .i64 k := hd ⟨2, .data⟩ (by simp) rfl
                          clear hd hoth
                          generalize a'.eval = E at *
                          simp [go_sem, repR, e1, e2, hlt']
                          exact ⟨hrf, rfl⟩
                        | 4, ho =>
                          have ho' := Option.some.inj ho
                          subst ho'
                          have e3 : a'.eval (.tmp 117) = .pointer (some ⟨gs, k * 6, none⟩) := hd ⟨3, .data⟩ (by simp) rfl
                          clear hd hoth
                          generalize a'.eval = E at *
                          simp [go_sem, repR, e3]
                          exact ⟨hrf, rfl⟩
                        | 5, ho =>
                          have ho' := Option.some.inj ho
                          subst ho'
                          have e4 : a'.eval (.tmp 118) = .pointer (some ⟨gs, k * 6 + 4, none⟩) := hd ⟨4, .data⟩ (by simp) rfl
                          clear hd hoth
                          generalize a'.eval = E at *
                          simp [go_sem, repR, e4, z4]
                          exact ⟨hrf, rfl⟩
                        | 6, ho =>
                          have ho' := Option.some.inj ho
                          subst ho'
                          clear hd hoth
                          generalize a'.eval = E at *
                          simp [go_sem, repR, o9]
                          exact ⟨hrf, rfl⟩
                        | 7, ho =>
                          have ho' := Option.some.inj ho
                          subst ho'
                          clear hd hoth
                          generalize a'.eval = E at *
                          simp [go_sem, repR, o5]
                          exact ⟨hrf, rfl⟩
                        | 8, ho =>
                          have ho' := Option.some.inj ho
                          subst ho'
                          have e7 : a'.eval (.tmp 121) = .pointer (some ⟨gx, 2, none⟩) := hd ⟨7, .data⟩ (by simp) rfl
                          clear hd hoth
                          generalize a'.eval = E at *
                          simp [go_sem, repR, e7, y2]
                          exact ⟨hrf, rfl⟩
                        | 9, ho =>
                          have ho' := Option.some.inj ho
                          subst ho'
                          clear hd hoth
                          generalize a'.eval = E at *
                          simp [go_sem, repR, o8]
                          exact ⟨hrf, rfl⟩
                        | 10, ho =>
                          have ho' := Option.some.inj ho
                          subst ho'
                          have e8 : a'.eval (.tmp 122) = .slice (some ⟨gs, 0, none⟩) s.schemas.length cs := hd ⟨8, .data⟩ (by simp) rfl
                          have e9 : a'.eval (.tmp 123) = .int .i64 k := hd ⟨9, .data⟩ (by simp) rfl
                          clear hd hoth
                          generalize a'.eval = E at *
                          simp [go_sem, repR, e8, e9, hlt']
                          exact ⟨hrf, rfl⟩
                        | 11, ho =>
                          have ho' := Option.some.inj ho
                          subst ho'
                          have e10 : a'.eval (.tmp 124) = .pointer (some ⟨gs, k * 6, none⟩) := hd ⟨10, .data⟩ (by simp) rfl
                          clear hd hoth
                          generalize a'.eval = E at *
                          simp [go_sem, repR, e10]
                          exact ⟨hrf, rfl⟩
                        | 12, ho =>
                          have ho' := Option.some.inj ho
                          subst ho'
                          have e11 : a'.eval (.tmp 125) = .pointer (some ⟨gs, k * 6 + 4, none⟩) := hd ⟨11, .data⟩ (by simp) rfl
                          clear hd hoth
                          generalize a'.eval = E at *
                          simp [go_sem, repR, e11, z4]
                          exact ⟨hrf, rfl⟩
                        | 13, ho =>
                          have ho' := Option.some.inj ho
                          subst ho'
                          clear hd hoth
                          generalize a'.eval = E at *
                          simp [go_sem, repR, o9]
                          exact ⟨hrf, rfl⟩
                        | 14, ho =>
                          have ho' := Option.some.inj ho
                          subst ho'
                          clear hd hoth
                          generalize a'.eval = E at *
                          simp [go_sem, repR, o1]
                          exact ⟨hrf, rfl⟩
                        | 15, ho =>
                          have ho' := Option.some.inj ho
                          subst ho'
                          clear hd hoth
                          generalize a'.eval = E at *
                          simp [go_sem, repR, o1]
                          exact ⟨hrf, rfl⟩
                        | 16, ho =>
                          have ho' := Option.some.inj ho
                          subst ho'
                          have e5 : a'.eval (.tmp 119) = .slice (some ⟨gf, 0, none⟩) sk.fields.length cf := hd ⟨5, .data⟩ (by simp) rfl
                          have e6 : a'.eval (.tmp 120) = .int .i64 j := hd ⟨6, .data⟩ (by simp) rfl
                          clear hd hoth
                          generalize a'.eval = E at *
                          simp [go_sem, repR, e5, e6, hjl']
                          exact ⟨hrf, rfl⟩
                        | 17, ho =>
                          have ho' := Option.some.inj ho
                          subst ho'
                          have e16 : a'.eval (.tmp 130) = .pointer (some ⟨gf, j * 11, none⟩) := hd ⟨16, .data⟩ (by simp) rfl
                          clear hd hoth
                          generalize a'.eval = E at *
                          simp [go_sem, repR, e16]
                          exact ⟨hrf, rfl⟩
                        | 18, ho =>
                          have ho' := Option.some.inj ho
                          subst ho'
                          have e17 : a'.eval (.tmp 131) = .pointer (some ⟨gf, j * 11, none⟩) := hd ⟨17, .data⟩ (by simp) rfl
                          have e14 : a'.eval (.tmp 128) = .string nm := hd ⟨14, .data⟩ (by simp) rfl
                          clear hd hoth
                          generalize a'.eval = E at *
                          simp [go_sem, repR, e17, e14, fz0, e0]
                          exact RSet.set (by simp) (by simp) (by rw [e0]; rfl)
                        | 19, ho =>
                          have ho' := Option.some.inj ho
                          subst ho'
                          have e12 : a'.eval (.tmp 126) = .slice (some ⟨gf, 0, none⟩) sk.fields.length cf := hd ⟨12, .data⟩ (by simp) rfl
                          have e13 : a'.eval (.tmp 127) = .int .i64 j := hd ⟨13, .data⟩ (by simp) rfl
                          clear hd hoth
                          generalize a'.eval = E at *
                          simp [go_sem, repR, e12, e13, hjl']
                          exact ⟨hrf, rfl⟩
                        | 20, ho =>
                          have ho' := Option.some.inj ho
                          subst ho'
                          have e19 : a'.eval (.tmp 132) = .pointer (some ⟨gf, j * 11, none⟩) := hd ⟨19, .data⟩ (by simp) rfl
                          clear hd hoth
                          generalize a'.eval = E at *
                          simp [go_sem, repR, e19]
                          exact ⟨hrf, rfl⟩
                        | 21, ho =>
                          have ho' := Option.some.inj ho
                          subst ho'
                          have e20 : a'.eval (.tmp 133) = .pointer (some ⟨gf, j * 11 + 1, none⟩) := hd ⟨20, .data⟩ (by simp) rfl
                          clear hd hoth
                          generalize a'.eval = E at *
                          simp [go_sem, repR, e20]
                          exact ⟨hrf, rfl⟩
                        | 22, ho =>
                          have ho' := Option.some.inj ho
                          subst ho'
                          have e21 : a'.eval (.tmp 134) = .pointer (some ⟨gf, j * 11 + 4, none⟩) := hd ⟨21, .data⟩ (by simp) rfl
                          have e15 : a'.eval (.tmp 129) = .string nm := hd ⟨15, .data⟩ (by simp) rfl
                          clear hd hoth
                          generalize a'.eval = E at *
                          simp [go_sem, repR, e21, e15, fz1, e1]
                          exact RSet.set (by simp) (by simp) (by rw [e1]; rfl)
                        | i + 23, ho => exact absurd (List.getElem?_eq_some_iff.1 ho).1 (by simp)
                      case fin =>

                        intro f w13 hr hp
                        have n0 : w13.cell? ⟨gf, j * 11, none⟩ = some (.string nm) := hp 18 _ rfl
                        have n1 : w13.cell? ⟨gf, j * 11 + 4, none⟩ = some (.string nm) := hp 22 _ rfl
                        clear hp
                        simp [puts, Act.put]
                        go_wp2_with fail
                        go_roundw
                        case rel =>
                          obtain ⟨c0, c1, c2, c3, c4, c5, c6, c7, c8, c9, c10, hq⟩ := len11 (HE0.out.ln j hjl)
                          have hset := RSet.row (os := [(0, .string nm), (4, .string nm)]) (r := ((es j).set 0 (.string nm)).set 4 (.string nm)) hr Hn2.out (by simp) hjl (by simp; exact ⟨n0, n1⟩)
                            (by rw [hq]; simp) (fun m hm hne => by rw [mixF_at, hq]; simp at hne; match m, hm with | 1, _ => rfl | 2, _ => rfl | 3, _ => rfl | 5, _ => rfl | 6, _ => rfl | 7, _ => rfl | 8, _ => rfl | 9, _ => rfl | 10, _ => rfl | 0, _ => exact absurd rfl hne.1 | 4, _ => exact absurd rfl hne.2)
                          exact ⟨j + 1, by omega, by go_num, Lib.hid (hset.mixS (if_pos rfl) fun i hi => if_neg hi), hb1.trans (hr.below (Nat.le_refl _) hglt)⟩
                        case measure => simp [intOf]; omega
                    case neg =>
                      obtain rfl : j = sk.fields.length := by omega
                      have hfr : FRow w wr nm gs s.schemas[k] (.slice (some ⟨gf, 0, none⟩) sk.fields.length cf) := by
                        rw [hsk]
                        exact ⟨gf, cf, es, rfl, hsf, Hn2.out.mixN, HE1.out⟩
                      have Hfr := Lib.hid hfr
                      clear Hn2 hb1 hjl hfr
                      go_wp2_with fail
                      go_roundw
                      case rel =>
                        refine ⟨k + 1, fun i => if i = k then .slice (some ⟨gf, 0, none⟩) sk.fields.length cf else V i, by omega, by go_num, Lib.hid (Hown.out.mixS ?_ fun i hi => ?_), Lib.hid fun i hi hik => ?_, Hbo.out⟩
                        · rw [setE_at]
                          simp only [if_true]
                        · rw [setE_ne hi]
                          simp only [if_neg hi]
                          unfold mixF
                          by_cases e : i < k
                          · rw [if_pos e, if_pos e]
                            simp only [if_neg hi]
                          · rw [if_neg e, if_neg e]
                        · by_cases e : i = k
                          · subst e
                            simp only [if_true]
                            exact Hfr.out
                          · simp only [if_neg e]
                            exact (HV.out i hi (by omega)).toRow
                      case measure => simp [intOf]; omega
            case neg =>
              obtain rfl : k = s.schemas.length := by omega
              have HOS := Lib.hid Hn.out.mixN
              have hgw3 : gs < wr.heap.size := HOS.out.lt
              replace HV := Lib.hid fun i hi => (HV.out i hi hi).toB
              clear Hn hb1 hlt
              have y5 : wr.cell? ⟨gx, 5, none⟩ = some (.slice a5 s.purposes.length k5) := HBx.out.cell 5

              have x5 : wr.cell? ⟨w.heap.size, 5, none⟩ = some (.slice a5 s.purposes.length k5) := HBs.out.cell 5

              have fy5 : wr.frozen? ⟨gx, 5, none⟩ = false := HBx.out.frozen 5
              obtain ⟨b5, hb5e⟩ : ∃ g, wr.heap.size = g := ⟨_, rfl⟩
              replace HV : Hid (∀ i (hi : i < s.schemas.length), FRowB w wr nm gs b5 s.schemas[i] (V i)) := hb5e ▸ HV
              have hs5 : gs < b5 := by omega
              have hsb5 : w.heap.size < b5 := by omega
              go_wp2_with (
                at_builtin
                generalize hw0 : World.alloc _ _ = wa
                obtain ⟨X0, hsz, hb0⟩ := blk1 hw0
                rw [hb5e] at X0 hsz
                refine wpList_append_copy rfl _ _ 27 rfl b5 77 i77 z77 3 i77.bytes Try.underlying27 hi77 hz77 hs77 rfl (by decide) b5 X0 (Nat.le_refl _) (by omega) a5 s.purposes.length k5 fP (HfP.out.below (Hb.out.trans (hb0.mono Hb.out.size))) hm5 hb77 rfl rfl ?_
                intro gp cp w14 hb1 hO
                replace hb1 := hb0.trans (hb1.mono hb0.size)
                clear hw0 X0 hsz hb0
                replace HV := Lib.hid fun i hi => (HV.out i hi).below hb1 (by omega)
                replace HBs := Lib.hid (HBs.out.below hb1 HBs.out.lt)
                replace HBx := Lib.hid (HBx.out.below hb1 HBx.out.lt)
                replace HOI := Lib.hid (HOI.out.below hb1 HOI.out.lt)
                replace HOU := Lib.hid (HOU.out.below hb1 HOU.out.lt)
                replace HOS := Lib.hid (HOS.out.below hb1 HOS.out.lt)
                replace Hb := Lib.hid (Hb.out.trans (hb1.mono Hb.out.size))
                have hb5p : b5 ≤ gp := hO.ge
                have HOP := Lib.hid hO
                clear y5 x5 fy5 hO hb1
                have y5 : w14.cell? ⟨gx, 5, none⟩ = some (.slice a5 s.purposes.length k5) := HBx.out.cell 5
                have fy5 : w14.frozen? ⟨gx, 5, none⟩ = false := HBx.out.frozen 5
                clear hb5e)
              clear y5 fy5
              generalize hw0 : World.setCell _ _ _ = w15
              obtain ⟨q1, q2, q3, q4, q5⟩ := set_facts hw0
              have hX : Blk w15 gx #[.slice (some ⟨gi, 0, none⟩) s.issuers.length ci, .slice (some ⟨gu, 0, none⟩) s.units.length cu, .slice (some ⟨gs, 0, none⟩) s.schemas.length cs, .slice a3 s.rules.length k3, .slice a4 s.converts k4, .slice (some ⟨gp, 0, none⟩) s.purposes.length cp] 29 := hw0 ▸ HBx.out.set 5 _
              replace HBs := Lib.hid (q4 HBs.out (by omega))
              replace HOI := Lib.hid (q5 HOI.out (by omega))
              replace HOU := Lib.hid (q5 HOU.out (by omega))
              replace HOS := Lib.hid (q5 HOS.out (by omega))
              replace HOP := Lib.hid (q5 HOP.out (by omega))
              replace Hb := Lib.hid (Hb.out.trans (q2 w.heap.size (by omega)))
              replace HV := Lib.hid fun i hi => (HV.out i hi).set hw0 (by omega)
              replace HBx := Lib.hid hX
              clear hX hw0 q1 q2 q3 q4 q5

              go_loopw [145] (fun i wr => ∃ k : Nat, k ≤ s.purposes.length ∧ i = .int .i64 k ∧ Hid (Own wr b5 gp 3 s.purposes.length (mixF k (fun i => (fP i).set 0 (.string nm)) fP)) ∧ Below gp w15 wr) (fun i _ => s.purposes.length - (intOf i).toNat)
              case atStart => exact ⟨0, Nat.zero_le _, rfl, Lib.hid HOP.out.mix0, Below.refl _ _⟩
              case round =>
                obtain ⟨k, hk, rfl, Hn, hb1⟩ := hrel
                clear HOP
                replace HBs := Lib.hid (HBs.out.below hb1 (by omega))
                replace HBx := Lib.hid (HBx.out.below hb1 (by omega))
                replace HOI := Lib.hid (HOI.out.below hb1 (by omega))
                replace HOU := Lib.hid (HOU.out.below hb1 (by omega))
                replace HOS := Lib.hid (HOS.out.below hb1 (by omega))
                replace Hb := Lib.hid (Hb.out.trans (hb1.mono (by omega)))

                replace HV := Lib.hid fun i hi => (HV.out i hi).below hb1 (by omega)
                by_cases hlt : k < s.purposes.length
                case pos =>
                  have hlt' : (k : Int) < (s.purposes.length : Int) := by omega
                  have y5 : wr.cell? ⟨gx, 5, none⟩ = some (.slice (some ⟨gp, 0, none⟩) s.purposes.length cp) := HBx.out.cell 5

                  obtain ⟨v0, _, hc⟩ := Hn.out.cl k hlt 0 (by decide)
                  rw [Nat.add_zero] at hc
                  have fz := Hn.out.fz (k * 3)
                  go_wp2_with fail
                  go_roundw
                  case rel =>
                    have hset := Hn.out.set hlt (show 0 < 3 by decide) (.string nm)
                    rw [Nat.add_zero] at hset
                    refine ⟨k + 1, by omega, by go_num, Lib.hid (hset.mixS ?_ fun i hi => setE_ne hi), hb1.setCell (Nat.le_refl _) _⟩
                    rw [setE_at, mixF_at]
                  case measure => simp [intOf]; omega
                case neg =>
                  obtain rfl : k = s.purposes.length := by omega
                  have HOP := Lib.hid Hn.out.mixN
                  have hgw4 : gp < wr.heap.size := HOP.out.lt
                  clear Hn hb1 hlt
                  have x0 : wr.cell? ⟨w.heap.size, 0, none⟩ = some (.slice a0 s.issuers.length k0) := HBs.out.cell 0
                  have x1 : wr.cell? ⟨w.heap.size, 1, none⟩ = some (.slice a1 s.units.length k1) := HBs.out.cell 1
                  have x2 : wr.cell? ⟨w.heap.size, 2, none⟩ = some (.slice a2 s.schemas.length k2) := HBs.out.cell 2
                  have x3 : wr.cell? ⟨w.heap.size, 3, none⟩ = some (.slice a3 s.rules.length k3) := HBs.out.cell 3
                  have x4 : wr.cell? ⟨w.heap.size, 4, none⟩ = some (.slice a4 s.converts k4) := HBs.out.cell 4
                  have x5 : wr.cell? ⟨w.heap.size, 5, none⟩ = some (.slice a5 s.purposes.length k5) := HBs.out.cell 5

                  go_wp2_with fail
                  have HR := Lib.hid (src_ren (ci := ci) (cu := cu) (cs := cs) (cp := cp) hnm Hs.out Hb.out HOI.out HOU.out HU1.out HOS.out HS1.out HV.out HOP.out HP1.out)
                  refine (check_q s ⟨a0, k0, a1, k1, a2, k2, a3, k3, a4, k4, a5, k5⟩ _ (Hs.out.below Hb.out) Hfew.out c Hc.out).mono ?_
                  rintro e w16 ⟨rfl, hb1⟩
                  clear HOI HOU HOS HOP HV x0 x1 x2 x3 x4 x5
                  replace HBs := Lib.hid (HBs.out.below hb1 HBs.out.lt)
                  replace HBx := Lib.hid (HBx.out.below hb1 HBx.out.lt)
                  replace Hb := Lib.hid (Hb.out.trans (hb1.mono Hb.out.size))

                  replace HR := Lib.hid (HR.out.below hb1)
                  clear hb1
                  have y0 : w16.cell? ⟨gx, 0, none⟩ = some (.slice (some ⟨gi, 0, none⟩) s.issuers.length ci) := HBx.out.cell 0
                  have y1 : w16.cell? ⟨gx, 1, none⟩ = some (.slice (some ⟨gu, 0, none⟩) s.units.length cu) := HBx.out.cell 1
                  have y2 : w16.cell? ⟨gx, 2, none⟩ = some (.slice (some ⟨gs, 0, none⟩) s.schemas.length cs) := HBx.out.cell 2
                  have y3 : w16.cell? ⟨gx, 3, none⟩ = some (.slice a3 s.rules.length k3) := HBx.out.cell 3
                  have y4 : w16.cell? ⟨gx, 4, none⟩ = some (.slice a4 s.converts k4) := HBx.out.cell 4
                  have y5 : w16.cell? ⟨gx, 5, none⟩ = some (.slice (some ⟨gp, 0, none⟩) s.purposes.length cp) := HBx.out.cell 5

                  go_wp2_with fail
                  refine (ren_q HR.out Hfew.out c Hc.out).mono ?_
                  rintro e w17 ⟨rfl, hb1⟩
                  clear HR y0 y1 y2 y3 y4 y5
                  replace HBs := Lib.hid (HBs.out.below hb1 HBs.out.lt)
                  replace HBx := Lib.hid (HBx.out.below hb1 HBx.out.lt)
                  replace Hb := Lib.hid (Hb.out.trans (hb1.mono Hb.out.size))

                  clear hb1
                  by_cases hc0 : c = 0
                  case neg =>
                    have h1 : (c != 0) = true := by simpa using hc0
                    go_wp2
                    all_goals go_ret
                    all_goals exact ⟨ret_bool (by have := Hcc.out; first | rfl | (simp; omega)), Hb.out⟩
                  case pos =>
                    subst hc0
                    go_wp2_with fail
                    have x0 : w17.cell? ⟨w.heap.size, 0, none⟩ = some (.slice a0 s.issuers.length k0) := HBs.out.cell 0
                    have x1 : w17.cell? ⟨w.heap.size, 1, none⟩ = some (.slice a1 s.units.length k1) := HBs.out.cell 1
                    have x2 : w17.cell? ⟨w.heap.size, 2, none⟩ = some (.slice a2 s.schemas.length k2) := HBs.out.cell 2
                    have x3 : w17.cell? ⟨w.heap.size, 3, none⟩ = some (.slice a3 s.rules.length k3) := HBs.out.cell 3
                    have x4 : w17.cell? ⟨w.heap.size, 4, none⟩ = some (.slice a4 s.converts k4) := HBs.out.cell 4
                    have x5 : w17.cell? ⟨w.heap.size, 5, none⟩ = some (.slice a5 s.purposes.length k5) := HBs.out.cell 5

                    have hsl : w.heap.size < w17.heap.size := HBs.out.lt
                    go_region
                    · obtain ⟨gW, hgW⟩ : ∃ g, w17.heap.size = g := ⟨_, rfl⟩
                      generalize hw0 : World.alloc _ _ = wq
                      obtain ⟨X0, X1, hsz, hb1⟩ := blk2 hw0
                      rw [hgW] at X0 X1 hsz
                      replace hb1 := hb1.drew
                      replace X0 := X0.drew
                      replace X1 := X1.drew
                      rw [← World.size_drew wq] at hsz
                      generalize wq.drew = w18 at *
                      clear hw0 x0 x1 x2 x4
                      replace HBs := Lib.hid (HBs.out.below hb1 HBs.out.lt)
                      replace Hb := Lib.hid (Hb.out.trans (hb1.mono Hb.out.size))
                      have hsW : w.heap.size < gW := by omega
                      replace x3 : w18.cell? ⟨w.heap.size, 3, none⟩ = some (.slice a3 s.rules.length k3) := HBs.out.cell 3
                      replace x5 : w18.cell? ⟨w.heap.size, 5, none⟩ = some (.slice a5 s.purposes.length k5) := HBs.out.cell 5
                      have p0 : w18.cell? ⟨gW, 0, none⟩ = some (.slice a0 s.issuers.length k0) := X0.cell 0
                      have fp0 : w18.frozen? ⟨gW, 0, none⟩ = false := X0.frozen 0
                      have p1 : w18.cell? ⟨gW, 1, none⟩ = some (.slice a1 s.units.length k1) := X0.cell 1
                      have fp1 : w18.frozen? ⟨gW, 1, none⟩ = false := X0.frozen 1
                      have p2 : w18.cell? ⟨gW, 2, none⟩ = some (.slice a2 s.schemas.length k2) := X0.cell 2
                      have fp2 : w18.frozen? ⟨gW, 2, none⟩ = false := X0.frozen 2
                      have p3 : w18.cell? ⟨gW, 3, none⟩ = some (.slice a3 s.rules.length k3) := X0.cell 3
                      have fp3 : w18.frozen? ⟨gW, 3, none⟩ = false := X0.frozen 3
                      have p4 : w18.cell? ⟨gW, 4, none⟩ = some (.slice a4 s.converts k4) := X0.cell 4
                      have fp4 : w18.frozen? ⟨gW, 4, none⟩ = false := X0.frozen 4
                      have p5 : w18.cell? ⟨gW, 5, none⟩ = some (.slice a5 s.purposes.length k5) := X0.cell 5
                      have fp5 : w18.frozen? ⟨gW, 5, none⟩ = false := X0.frozen 5
                      have q0 : w18.cell? ⟨gW + 1, 0, none⟩ = some (.slice a0 s.issuers.length k0) := X1.cell 0
                      have fq0 : w18.frozen? ⟨gW + 1, 0, none⟩ = false := X1.frozen 0
                      have q1 : w18.cell? ⟨gW + 1, 1, none⟩ = some (.slice a1 s.units.length k1) := X1.cell 1
                      have fq1 : w18.frozen? ⟨gW + 1, 1, none⟩ = false := X1.frozen 1
                      have q2 : w18.cell? ⟨gW + 1, 2, none⟩ = some (.slice a2 s.schemas.length k2) := X1.cell 2
                      have fq2 : w18.frozen? ⟨gW + 1, 2, none⟩ = false := X1.frozen 2
                      have q3 : w18.cell? ⟨gW + 1, 3, none⟩ = some (.slice a3 s.rules.length k3) := X1.cell 3
                      have fq3 : w18.frozen? ⟨gW + 1, 3, none⟩ = false := X1.frozen 3
                      have q4 : w18.cell? ⟨gW + 1, 4, none⟩ = some (.slice a4 s.converts k4) := X1.cell 4
                      have fq4 : w18.frozen? ⟨gW + 1, 4, none⟩ = false := X1.frozen 4
                      have q5 : w18.cell? ⟨gW + 1, 5, none⟩ = some (.slice a5 s.purposes.length k5) := X1.cell 5
                      have fq5 : w18.frozen? ⟨gW + 1, 5, none⟩ = false := X1.frozen 5
                      have HX0 := Lib.hid X0
                      have HX1 := Lib.hid X1
                      clear X0 X1 hb1 hsl
                      have hn1 : ¬ gW + 1 = gW := by omega
                      have hn2 : ¬ gW = gW + 1 := by omega
                      have hn3 : ¬ gW = w.heap.size := by omega
                      have hn4 : ¬ gW + 1 = w.heap.size := by omega
                      have hn5 : ¬ w.heap.size = gW := by omega
                      have hn6 : ¬ w.heap.size = gW + 1 := by omega
                      by_cases hr0 : 0 < s.rules.length <;> by_cases hp0 : 0 < s.purposes.length
                      · have u1 : (1 : Int) ≤ (s.rules.length : Int) := by omega
                        have u2 : (s.rules.length : Int) - 1 ≤ (k3 : Int) := by omega
                        have u3 : (1 : Int) ≤ (s.purposes.length : Int) := by omega
                        have u4 : (s.purposes.length : Int) - 1 ≤ (k5 : Int) := by omega
                        go_wp2_with fail
                        generalize hw5 : World.setCell _ _ _ = w19
                        have HB9 := Lib.hid (show Blk w19 (gW + 1) #[.slice a0 s.issuers.length k0, .slice a1 s.units.length k1, .slice a2 s.schemas.length k2, .slice a3 (s.rules.length - 1) k3, .slice a4 s.converts k4, .slice a5 (s.purposes.length - 1) k5] 29 from hw5 ▸ (((((HX1.out.keep (a := ⟨gW, 3, none⟩) (by simp) _).keep (a := ⟨gW, 5, none⟩) (by simp) _).keep (a := ⟨gW, 4, none⟩) (by simp) _).set 3 _).set 5 _))
                        have hb9 : Below w.heap.size w18 w19 := by
                          rw [← hw5]
                          repeat (first | exact Below.refl _ _ | refine Below.setCell ?_ (by simp; omega) _)
                        have Hb9 := Lib.hid (Hb.out.trans hb9)
                        clear hw5 hb9 p0 fp0 p1 fp1 p2 fp2 p3 fp3 p4 fp4 p5 fp5 q0 fq0 q1 fq1 q2 fq2 q3 fq3 q4 fq4 q5 fq5 x3 x5
                        refine (sub_q (Hs.out.below Hb9.out) Hfew.out Hc.out (c := 0) (k := 0) (m := 0) (Nat.zero_le _) (Nat.zero_le _) (Nat.zero_le _) none none none 0 0 0 (.inl rfl) (.inl rfl)).mono ?_
                        rintro e w20 ⟨rfl, hb1⟩
                        replace HB9 := Lib.hid (HB9.out.below hb1 HB9.out.lt)
                        replace Hb9 := Lib.hid (Hb9.out.trans (hb1.mono Hb9.out.size))
                        clear hb1
                        have z0 : w20.cell? ⟨gW + 1, 0, none⟩ = some (.slice a0 s.issuers.length k0) := HB9.out.cell 0
                        have z1 : w20.cell? ⟨gW + 1, 1, none⟩ = some (.slice a1 s.units.length k1) := HB9.out.cell 1
                        have z2 : w20.cell? ⟨gW + 1, 2, none⟩ = some (.slice a2 s.schemas.length k2) := HB9.out.cell 2
                        have z3 : w20.cell? ⟨gW + 1, 3, none⟩ = some (.slice a3 (s.rules.length - 1) k3) := HB9.out.cell 3
                        have z4 : w20.cell? ⟨gW + 1, 4, none⟩ = some (.slice a4 s.converts k4) := HB9.out.cell 4
                        have z5 : w20.cell? ⟨gW + 1, 5, none⟩ = some (.slice a5 (s.purposes.length - 1) k5) := HB9.out.cell 5
                        go_wp2_with fail
                        refine (sub_q (Hs.out.below Hb9.out) Hfew.out Hc.out (c := s.converts) (k := (s.rules.length - 1)) (m := (s.purposes.length - 1)) (Nat.le_refl _) (by omega) (by omega) a3 a4 a5 k3 k4 k5 (.inr rfl) (.inr rfl)).mono ?_
                        rintro e w21 ⟨rfl, hb1⟩
                        replace Hb9 := Lib.hid (Hb9.out.trans (hb1.mono Hb9.out.size))
                        clear hb1 z0 z1 z2 z3 z4 z5
                        go_wp2
                        go_ret
                        exact ⟨rfl, Hb9.out⟩
                      · have u1 : (1 : Int) ≤ (s.rules.length : Int) := by omega
                        have u2 : (s.rules.length : Int) - 1 ≤ (k3 : Int) := by omega
                        go_wp2_with fail
                        generalize hw5 : World.setCell _ _ _ = w19
                        have HB9 := Lib.hid (show Blk w19 (gW + 1) #[.slice a0 s.issuers.length k0, .slice a1 s.units.length k1, .slice a2 s.schemas.length k2, .slice a3 (s.rules.length - 1) k3, .slice a4 s.converts k4, .slice a5 s.purposes.length k5] 29 from hw5 ▸ ((((HX1.out.keep (a := ⟨gW, 3, none⟩) (by simp) _).keep (a := ⟨gW, 5, none⟩) (by simp) _).keep (a := ⟨gW, 4, none⟩) (by simp) _).set 3 _))
                        have hb9 : Below w.heap.size w18 w19 := by
                          rw [← hw5]
                          repeat (first | exact Below.refl _ _ | refine Below.setCell ?_ (by simp; omega) _)
                        have Hb9 := Lib.hid (Hb.out.trans hb9)
                        clear hw5 hb9 p0 fp0 p1 fp1 p2 fp2 p3 fp3 p4 fp4 p5 fp5 q0 fq0 q1 fq1 q2 fq2 q3 fq3 q4 fq4 q5 fq5 x3 x5
                        refine (sub_q (Hs.out.below Hb9.out) Hfew.out Hc.out (c := 0) (k := 0) (m := 0) (Nat.zero_le _) (Nat.zero_le _) (Nat.zero_le _) none none none 0 0 0 (.inl rfl) (.inl rfl)).mono ?_
                        rintro e w20 ⟨rfl, hb1⟩
                        replace HB9 := Lib.hid (HB9.out.below hb1 HB9.out.lt)
                        replace Hb9 := Lib.hid (Hb9.out.trans (hb1.mono Hb9.out.size))
                        clear hb1
                        have z0 : w20.cell? ⟨gW + 1, 0, none⟩ = some (.slice a0 s.issuers.length k0) := HB9.out.cell 0
                        have z1 : w20.cell? ⟨gW + 1, 1, none⟩ = some (.slice a1 s.units.length k1) := HB9.out.cell 1
                        have z2 : w20.cell? ⟨gW + 1, 2, none⟩ = some (.slice a2 s.schemas.length k2) := HB9.out.cell 2
                        have z3 : w20.cell? ⟨gW + 1, 3, none⟩ = some (.slice a3 (s.rules.length - 1) k3) := HB9.out.cell 3
                        have z4 : w20.cell? ⟨gW + 1, 4, none⟩ = some (.slice a4 s.converts k4) := HB9.out.cell 4
                        have z5 : w20.cell? ⟨gW + 1, 5, none⟩ = some (.slice a5 s.purposes.length k5) := HB9.out.cell 5
                        go_wp2_with fail
                        refine (sub_q (Hs.out.below Hb9.out) Hfew.out Hc.out (c := s.converts) (k := (s.rules.length - 1)) (m := s.purposes.length) (Nat.le_refl _) (by omega) (by omega) a3 a4 a5 k3 k4 k5 (.inr rfl) (.inr rfl)).mono ?_
                        rintro e w21 ⟨rfl, hb1⟩
                        replace Hb9 := Lib.hid (Hb9.out.trans (hb1.mono Hb9.out.size))
                        clear hb1 z0 z1 z2 z3 z4 z5
                        go_wp2
                        go_ret
                        exact ⟨rfl, Hb9.out⟩
                      · have u3 : (1 : Int) ≤ (s.purposes.length : Int) := by omega
                        have u4 : (s.purposes.length : Int) - 1 ≤ (k5 : Int) := by omega
                        go_wp2_with fail
                        generalize hw5 : World.setCell _ _ _ = w19
                        have HB9 := Lib.hid (show Blk w19 (gW + 1) #[.slice a0 s.issuers.length k0, .slice a1 s.units.length k1, .slice a2 s.schemas.length k2, .slice a3 s.rules.length k3, .slice a4 s.converts k4, .slice a5 (s.purposes.length - 1) k5] 29 from hw5 ▸ ((((HX1.out.keep (a := ⟨gW, 3, none⟩) (by simp) _).keep (a := ⟨gW, 5, none⟩) (by simp) _).keep (a := ⟨gW, 4, none⟩) (by simp) _).set 5 _))
                        have hb9 : Below w.heap.size w18 w19 := by
                          rw [← hw5]
                          repeat (first | exact Below.refl _ _ | refine Below.setCell ?_ (by simp; omega) _)
                        have Hb9 := Lib.hid (Hb.out.trans hb9)
                        clear hw5 hb9 p0 fp0 p1 fp1 p2 fp2 p3 fp3 p4 fp4 p5 fp5 q0 fq0 q1 fq1 q2 fq2 q3 fq3 q4 fq4 q5 fq5 x3 x5
                        refine (sub_q (Hs.out.below Hb9.out) Hfew.out Hc.out (c := 0) (k := 0) (m := 0) (Nat.zero_le _) (Nat.zero_le _) (Nat.zero_le _) none none none 0 0 0 (.inl rfl) (.inl rfl)).mono ?_
                        rintro e w20 ⟨rfl, hb1⟩
                        replace HB9 := Lib.hid (HB9.out.below hb1 HB9.out.lt)
                        replace Hb9 := Lib.hid (Hb9.out.trans (hb1.mono Hb9.out.size))
                        clear hb1
                        have z0 : w20.cell? ⟨gW + 1, 0, none⟩ = some (.slice a0 s.issuers.length k0) := HB9.out.cell 0
                        have z1 : w20.cell? ⟨gW + 1, 1, none⟩ = some (.slice a1 s.units.length k1) := HB9.out.cell 1
                        have z2 : w20.cell? ⟨gW + 1, 2, none⟩ = some (.slice a2 s.schemas.length k2) := HB9.out.cell 2
                        have z3 : w20.cell? ⟨gW + 1, 3, none⟩ = some (.slice a3 s.rules.length k3) := HB9.out.cell 3
                        have z4 : w20.cell? ⟨gW + 1, 4, none⟩ = some (.slice a4 s.converts k4) := HB9.out.cell 4
                        have z5 : w20.cell? ⟨gW + 1, 5, none⟩ = some (.slice a5 (s.purposes.length - 1) k5) := HB9.out.cell 5
                        go_wp2_with fail
                        refine (sub_q (Hs.out.below Hb9.out) Hfew.out Hc.out (c := s.converts) (k := s.rules.length) (m := (s.purposes.length - 1)) (Nat.le_refl _) (by omega) (by omega) a3 a4 a5 k3 k4 k5 (.inr rfl) (.inr rfl)).mono ?_
                        rintro e w21 ⟨rfl, hb1⟩
                        replace Hb9 := Lib.hid (Hb9.out.trans (hb1.mono Hb9.out.size))
                        clear hb1 z0 z1 z2 z3 z4 z5
                        go_wp2
                        go_ret
                        exact ⟨rfl, Hb9.out⟩
                      · go_wp2_with fail
                        generalize hw5 : World.setCell _ _ _ = w19
                        have HB9 := Lib.hid (show Blk w19 (gW + 1) #[.slice a0 s.issuers.length k0, .slice a1 s.units.length k1, .slice a2 s.schemas.length k2, .slice a3 s.rules.length k3, .slice a4 s.converts k4, .slice a5 s.purposes.length k5] 29 from hw5 ▸ (((HX1.out.keep (a := ⟨gW, 3, none⟩) (by simp) _).keep (a := ⟨gW, 5, none⟩) (by simp) _).keep (a := ⟨gW, 4, none⟩) (by simp) _))
                        have hb9 : Below w.heap.size w18 w19 := by
                          rw [← hw5]
                          repeat (first | exact Below.refl _ _ | refine Below.setCell ?_ (by simp; omega) _)
                        have Hb9 := Lib.hid (Hb.out.trans hb9)
                        clear hw5 hb9 p0 fp0 p1 fp1 p2 fp2 p3 fp3 p4 fp4 p5 fp5 q0 fq0 q1 fq1 q2 fq2 q3 fq3 q4 fq4 q5 fq5 x3 x5
                        refine (sub_q (Hs.out.below Hb9.out) Hfew.out Hc.out (c := 0) (k := 0) (m := 0) (Nat.zero_le _) (Nat.zero_le _) (Nat.zero_le _) none none none 0 0 0 (.inl rfl) (.inl rfl)).mono ?_
                        rintro e w20 ⟨rfl, hb1⟩
                        replace HB9 := Lib.hid (HB9.out.below hb1 HB9.out.lt)
                        replace Hb9 := Lib.hid (Hb9.out.trans (hb1.mono Hb9.out.size))
                        clear hb1
                        have z0 : w20.cell? ⟨gW + 1, 0, none⟩ = some (.slice a0 s.issuers.length k0) := HB9.out.cell 0
                        have z1 : w20.cell? ⟨gW + 1, 1, none⟩ = some (.slice a1 s.units.length k1) := HB9.out.cell 1
                        have z2 : w20.cell? ⟨gW + 1, 2, none⟩ = some (.slice a2 s.schemas.length k2) := HB9.out.cell 2
                        have z3 : w20.cell? ⟨gW + 1, 3, none⟩ = some (.slice a3 s.rules.length k3) := HB9.out.cell 3
                        have z4 : w20.cell? ⟨gW + 1, 4, none⟩ = some (.slice a4 s.converts k4) := HB9.out.cell 4
                        have z5 : w20.cell? ⟨gW + 1, 5, none⟩ = some (.slice a5 s.purposes.length k5) := HB9.out.cell 5
                        go_wp2_with fail
                        refine (sub_q (Hs.out.below Hb9.out) Hfew.out Hc.out (c := s.converts) (k := s.rules.length) (m := s.purposes.length) (Nat.le_refl _) (by omega) (by omega) a3 a4 a5 k3 k4 k5 (.inr rfl) (.inr rfl)).mono ?_
                        rintro e w21 ⟨rfl, hb1⟩
                        replace Hb9 := Lib.hid (Hb9.out.trans (hb1.mono Hb9.out.size))
                        clear hb1 z0 z1 z2 z3 z4 z5
                        go_wp2
                        go_ret
                        exact ⟨rfl, Hb9.out⟩
                    · obtain ⟨gW, hgW⟩ : ∃ g, w17.heap.size = g := ⟨_, rfl⟩
                      generalize hw0 : World.alloc _ _ = wq
                      obtain ⟨X0, X1, hsz, hb1⟩ := blk2 hw0
                      rw [hgW] at X0 X1 hsz
                      replace hb1 := hb1.drew
                      replace X0 := X0.drew
                      replace X1 := X1.drew
                      rw [← World.size_drew wq] at hsz
                      generalize wq.drew = w18 at *
                      clear hw0 x0 x1 x2 x4
                      replace HBs := Lib.hid (HBs.out.below hb1 HBs.out.lt)
                      replace Hb := Lib.hid (Hb.out.trans (hb1.mono Hb.out.size))
                      have hsW : w.heap.size < gW := by omega
                      replace x3 : w18.cell? ⟨w.heap.size, 3, none⟩ = some (.slice a3 s.rules.length k3) := HBs.out.cell 3
                      replace x5 : w18.cell? ⟨w.heap.size, 5, none⟩ = some (.slice a5 s.purposes.length k5) := HBs.out.cell 5
                      have p0 : w18.cell? ⟨gW, 0, none⟩ = some (.slice a0 s.issuers.length k0) := X0.cell 0
                      have fp0 : w18.frozen? ⟨gW, 0, none⟩ = false := X0.frozen 0
                      have p1 : w18.cell? ⟨gW, 1, none⟩ = some (.slice a1 s.units.length k1) := X0.cell 1
                      have fp1 : w18.frozen? ⟨gW, 1, none⟩ = false := X0.frozen 1
                      have p2 : w18.cell? ⟨gW, 2, none⟩ = some (.slice a2 s.schemas.length k2) := X0.cell 2
                      have fp2 : w18.frozen? ⟨gW, 2, none⟩ = false := X0.frozen 2
                      have p3 : w18.cell? ⟨gW, 3, none⟩ = some (.slice a3 s.rules.length k3) := X0.cell 3
                      have fp3 : w18.frozen? ⟨gW, 3, none⟩ = false := X0.frozen 3
                      have p4 : w18.cell? ⟨gW, 4, none⟩ = some (.slice a4 s.converts k4) := X0.cell 4
                      have fp4 : w18.frozen? ⟨gW, 4, none⟩ = false := X0.frozen 4
                      have p5 : w18.cell? ⟨gW, 5, none⟩ = some (.slice a5 s.purposes.length k5) := X0.cell 5
                      have fp5 : w18.frozen? ⟨gW, 5, none⟩ = false := X0.frozen 5
                      have q0 : w18.cell? ⟨gW + 1, 0, none⟩ = some (.slice a0 s.issuers.length k0) := X1.cell 0
                      have fq0 : w18.frozen? ⟨gW + 1, 0, none⟩ = false := X1.frozen 0
                      have q1 : w18.cell? ⟨gW + 1, 1, none⟩ = some (.slice a1 s.units.length k1) := X1.cell 1
                      have fq1 : w18.frozen? ⟨gW + 1, 1, none⟩ = false := X1.frozen 1
                      have q2 : w18.cell? ⟨gW + 1, 2, none⟩ = some (.slice a2 s.schemas.length k2) := X1.cell 2
                      have fq2 : w18.frozen? ⟨gW + 1, 2, none⟩ = false := X1.frozen 2
                      have q3 : w18.cell? ⟨gW + 1, 3, none⟩ = some (.slice a3 s.rules.length k3) := X1.cell 3
                      have fq3 : w18.frozen? ⟨gW + 1, 3, none⟩ = false := X1.frozen 3
                      have q4 : w18.cell? ⟨gW + 1, 4, none⟩ = some (.slice a4 s.converts k4) := X1.cell 4
                      have fq4 : w18.frozen? ⟨gW + 1, 4, none⟩ = false := X1.frozen 4
                      have q5 : w18.cell? ⟨gW + 1, 5, none⟩ = some (.slice a5 s.purposes.length k5) := X1.cell 5
                      have fq5 : w18.frozen? ⟨gW + 1, 5, none⟩ = false := X1.frozen 5
                      have HX0 := Lib.hid X0
                      have HX1 := Lib.hid X1
                      clear X0 X1 hb1 hsl
                      have hn1 : ¬ gW + 1 = gW := by omega
                      have hn2 : ¬ gW = gW + 1 := by omega
                      have hn3 : ¬ gW = w.heap.size := by omega
                      have hn4 : ¬ gW + 1 = w.heap.size := by omega
                      have hn5 : ¬ w.heap.size = gW := by omega
                      have hn6 : ¬ w.heap.size = gW + 1 := by omega
                      by_cases hr0 : 0 < s.rules.length <;> by_cases hp0 : 0 < s.purposes.length
                      · have u1 : (1 : Int) ≤ (s.rules.length : Int) := by omega
                        have u2 : (s.rules.length : Int) - 1 ≤ (k3 : Int) := by omega
                        have u3 : (1 : Int) ≤ (s.purposes.length : Int) := by omega
                        have u4 : (s.purposes.length : Int) - 1 ≤ (k5 : Int) := by omega
                        go_wp2_with fail
                        generalize hw5 : World.setCell _ _ _ = w19
                        have HB9 := Lib.hid (show Blk w19 (gW) #[.slice a0 s.issuers.length k0, .slice a1 s.units.length k1, .slice a2 s.schemas.length k2, .slice a3 (s.rules.length - 1) k3, .slice a4 s.converts k4, .slice a5 (s.purposes.length - 1) k5] 29 from hw5 ▸ (((((HX0.out.keep (a := ⟨gW + 1, 3, none⟩) (by simp) _).keep (a := ⟨gW + 1, 5, none⟩) (by simp) _).keep (a := ⟨gW + 1, 4, none⟩) (by simp) _).set 3 _).set 5 _))
                        have hb9 : Below w.heap.size w18 w19 := by
                          rw [← hw5]
                          repeat (first | exact Below.refl _ _ | refine Below.setCell ?_ (by simp; omega) _)
                        have Hb9 := Lib.hid (Hb.out.trans hb9)
                        clear hw5 hb9 p0 fp0 p1 fp1 p2 fp2 p3 fp3 p4 fp4 p5 fp5 q0 fq0 q1 fq1 q2 fq2 q3 fq3 q4 fq4 q5 fq5 x3 x5
                        refine (sub_q (Hs.out.below Hb9.out) Hfew.out Hc.out (c := 0) (k := 0) (m := 0) (Nat.zero_le _) (Nat.zero_le _) (Nat.zero_le _) none none none 0 0 0 (.inl rfl) (.inl rfl)).mono ?_
                        rintro e w20 ⟨rfl, hb1⟩
                        replace HB9 := Lib.hid (HB9.out.below hb1 HB9.out.lt)
                        replace Hb9 := Lib.hid (Hb9.out.trans (hb1.mono Hb9.out.size))
                        clear hb1
                        have z0 : w20.cell? ⟨gW, 0, none⟩ = some (.slice a0 s.issuers.length k0) := HB9.out.cell 0
                        have z1 : w20.cell? ⟨gW, 1, none⟩ = some (.slice a1 s.units.length k1) := HB9.out.cell 1
                        have z2 : w20.cell? ⟨gW, 2, none⟩ = some (.slice a2 s.schemas.length k2) := HB9.out.cell 2
                        have z3 : w20.cell? ⟨gW, 3, none⟩ = some (.slice a3 (s.rules.length - 1) k3) := HB9.out.cell 3
                        have z4 : w20.cell? ⟨gW, 4, none⟩ = some (.slice a4 s.converts k4) := HB9.out.cell 4
                        have z5 : w20.cell? ⟨gW, 5, none⟩ = some (.slice a5 (s.purposes.length - 1) k5) := HB9.out.cell 5
                        go_wp2_with fail
                        refine (sub_q (Hs.out.below Hb9.out) Hfew.out Hc.out (c := s.converts) (k := (s.rules.length - 1)) (m := (s.purposes.length - 1)) (Nat.le_refl _) (by omega) (by omega) a3 a4 a5 k3 k4 k5 (.inr rfl) (.inr rfl)).mono ?_
                        rintro e w21 ⟨rfl, hb1⟩
                        replace Hb9 := Lib.hid (Hb9.out.trans (hb1.mono Hb9.out.size))
                        clear hb1 z0 z1 z2 z3 z4 z5
                        go_wp2
                        go_ret
                        exact ⟨rfl, Hb9.out⟩
                      · have u1 : (1 : Int) ≤ (s.rules.length : Int) := by omega
                        have u2 : (s.rules.length : Int) - 1 ≤ (k3 : Int) := by omega
                        go_wp2_with fail
                        generalize hw5 : World.setCell _ _ _ = w19
                        have HB9 := Lib.hid (show Blk w19 (gW) #[.slice a0 s.issuers.length k0, .slice a1 s.units.length k1, .slice a2 s.schemas.length k2, .slice a3 (s.rules.length - 1) k3, .slice a4 s.converts k4, .slice a5 s.purposes.length k5] 29 from hw5 ▸ ((((HX0.out.keep (a := ⟨gW + 1, 3, none⟩) (by simp) _).keep (a := ⟨gW + 1, 5, none⟩) (by simp) _).keep (a := ⟨gW + 1, 4, none⟩) (by simp) _).set 3 _))
                        have hb9 : Below w.heap.size w18 w19 := by
                          rw [← hw5]
                          repeat (first | exact Below.refl _ _ | refine Below.setCell ?_ (by simp; omega) _)
                        have Hb9 := Lib.hid (Hb.out.trans hb9)
                        clear hw5 hb9 p0 fp0 p1 fp1 p2 fp2 p3 fp3 p4 fp4 p5 fp5 q0 fq0 q1 fq1 q2 fq2 q3 fq3 q4 fq4 q5 fq5 x3 x5
                        refine (sub_q (Hs.out.below Hb9.out) Hfew.out Hc.out (c := 0) (k := 0) (m := 0) (Nat.zero_le _) (Nat.zero_le _) (Nat.zero_le _) none none none 0 0 0 (.inl rfl) (.inl rfl)).mono ?_
                        rintro e w20 ⟨rfl, hb1⟩
                        replace HB9 := Lib.hid (HB9.out.below hb1 HB9.out.lt)
                        replace Hb9 := Lib.hid (Hb9.out.trans (hb1.mono Hb9.out.size))
                        clear hb1
                        have z0 : w20.cell? ⟨gW, 0, none⟩ = some (.slice a0 s.issuers.length k0) := HB9.out.cell 0
                        have z1 : w20.cell? ⟨gW, 1, none⟩ = some (.slice a1 s.units.length k1) := HB9.out.cell 1
                        have z2 : w20.cell? ⟨gW, 2, none⟩ = some (.slice a2 s.schemas.length k2) := HB9.out.cell 2
                        have z3 : w20.cell? ⟨gW, 3, none⟩ = some (.slice a3 (s.rules.length - 1) k3) := HB9.out.cell 3
                        have z4 : w20.cell? ⟨gW, 4, none⟩ = some (.slice a4 s.converts k4) := HB9.out.cell 4
                        have z5 : w20.cell? ⟨gW, 5, none⟩ = some (.slice a5 s.purposes.length k5) := HB9.out.cell 5
                        go_wp2_with fail
                        refine (sub_q (Hs.out.below Hb9.out) Hfew.out Hc.out (c := s.converts) (k := (s.rules.length - 1)) (m := s.purposes.length) (Nat.le_refl _) (by omega) (by omega) a3 a4 a5 k3 k4 k5 (.inr rfl) (.inr rfl)).mono ?_
                        rintro e w21 ⟨rfl, hb1⟩
                        replace Hb9 := Lib.hid (Hb9.out.trans (hb1.mono Hb9.out.size))
                        clear hb1 z0 z1 z2 z3 z4 z5
                        go_wp2
                        go_ret
                        exact ⟨rfl, Hb9.out⟩
                      · have u3 : (1 : Int) ≤ (s.purposes.length : Int) := by omega
                        have u4 : (s.purposes.length : Int) - 1 ≤ (k5 : Int) := by omega
                        go_wp2_with fail
                        generalize hw5 : World.setCell _ _ _ = w19
                        have HB9 := Lib.hid (show Blk w19 (gW) #[.slice a0 s.issuers.length k0, .slice a1 s.units.length k1, .slice a2 s.schemas.length k2, .slice a3 s.rules.length k3, .slice a4 s.converts k4, .slice a5 (s.purposes.length - 1) k5] 29 from hw5 ▸ ((((HX0.out.keep (a := ⟨gW + 1, 3, none⟩) (by simp) _).keep (a := ⟨gW + 1, 5, none⟩) (by simp) _).keep (a := ⟨gW + 1, 4, none⟩) (by simp) _).set 5 _))
                        have hb9 : Below w.heap.size w18 w19 := by
                          rw [← hw5]
                          repeat (first | exact Below.refl _ _ | refine Below.setCell ?_ (by simp; omega) _)
                        have Hb9 := Lib.hid (Hb.out.trans hb9)
                        clear hw5 hb9 p0 fp0 p1 fp1 p2 fp2 p3 fp3 p4 fp4 p5 fp5 q0 fq0 q1 fq1 q2 fq2 q3 fq3 q4 fq4 q5 fq5 x3 x5
                        refine (sub_q (Hs.out.below Hb9.out) Hfew.out Hc.out (c := 0) (k := 0) (m := 0) (Nat.zero_le _) (Nat.zero_le _) (Nat.zero_le _) none none none 0 0 0 (.inl rfl) (.inl rfl)).mono ?_
                        rintro e w20 ⟨rfl, hb1⟩
                        replace HB9 := Lib.hid (HB9.out.below hb1 HB9.out.lt)
                        replace Hb9 := Lib.hid (Hb9.out.trans (hb1.mono Hb9.out.size))
                        clear hb1
                        have z0 : w20.cell? ⟨gW, 0, none⟩ = some (.slice a0 s.issuers.length k0) := HB9.out.cell 0
                        have z1 : w20.cell? ⟨gW, 1, none⟩ = some (.slice a1 s.units.length k1) := HB9.out.cell 1
                        have z2 : w20.cell? ⟨gW, 2, none⟩ = some (.slice a2 s.schemas.length k2) := HB9.out.cell 2
                        have z3 : w20.cell? ⟨gW, 3, none⟩ = some (.slice a3 s.rules.length k3) := HB9.out.cell 3
                        have z4 : w20.cell? ⟨gW, 4, none⟩ = some (.slice a4 s.converts k4) := HB9.out.cell 4
                        have z5 : w20.cell? ⟨gW, 5, none⟩ = some (.slice a5 (s.purposes.length - 1) k5) := HB9.out.cell 5
                        go_wp2_with fail
                        refine (sub_q (Hs.out.below Hb9.out) Hfew.out Hc.out (c := s.converts) (k := s.rules.length) (m := (s.purposes.length - 1)) (Nat.le_refl _) (by omega) (by omega) a3 a4 a5 k3 k4 k5 (.inr rfl) (.inr rfl)).mono ?_
                        rintro e w21 ⟨rfl, hb1⟩
                        replace Hb9 := Lib.hid (Hb9.out.trans (hb1.mono Hb9.out.size))
                        clear hb1 z0 z1 z2 z3 z4 z5
                        go_wp2
                        go_ret
                        exact ⟨rfl, Hb9.out⟩
                      · go_wp2_with fail
                        generalize hw5 : World.setCell _ _ _ = w19
                        have HB9 := Lib.hid (show Blk w19 (gW) #[.slice a0 s.issuers.length k0, .slice a1 s.units.length k1, .slice a2 s.schemas.length k2, .slice a3 s.rules.length k3, .slice a4 s.converts k4, .slice a5 s.purposes.length k5] 29 from hw5 ▸ (((HX0.out.keep (a := ⟨gW + 1, 3, none⟩) (by simp) _).keep (a := ⟨gW + 1, 5, none⟩) (by simp) _).keep (a := ⟨gW + 1, 4, none⟩) (by simp) _))
                        have hb9 : Below w.heap.size w18 w19 := by
                          rw [← hw5]
                          repeat (first | exact Below.refl _ _ | refine Below.setCell ?_ (by simp; omega) _)
                        have Hb9 := Lib.hid (Hb.out.trans hb9)
                        clear hw5 hb9 p0 fp0 p1 fp1 p2 fp2 p3 fp3 p4 fp4 p5 fp5 q0 fq0 q1 fq1 q2 fq2 q3 fq3 q4 fq4 q5 fq5 x3 x5
                        refine (sub_q (Hs.out.below Hb9.out) Hfew.out Hc.out (c := 0) (k := 0) (m := 0) (Nat.zero_le _) (Nat.zero_le _) (Nat.zero_le _) none none none 0 0 0 (.inl rfl) (.inl rfl)).mono ?_
                        rintro e w20 ⟨rfl, hb1⟩
                        replace HB9 := Lib.hid (HB9.out.below hb1 HB9.out.lt)
                        replace Hb9 := Lib.hid (Hb9.out.trans (hb1.mono Hb9.out.size))
                        clear hb1
                        have z0 : w20.cell? ⟨gW, 0, none⟩ = some (.slice a0 s.issuers.length k0) := HB9.out.cell 0
                        have z1 : w20.cell? ⟨gW, 1, none⟩ = some (.slice a1 s.units.length k1) := HB9.out.cell 1
                        have z2 : w20.cell? ⟨gW, 2, none⟩ = some (.slice a2 s.schemas.length k2) := HB9.out.cell 2
                        have z3 : w20.cell? ⟨gW, 3, none⟩ = some (.slice a3 s.rules.length k3) := HB9.out.cell 3
                        have z4 : w20.cell? ⟨gW, 4, none⟩ = some (.slice a4 s.converts k4) := HB9.out.cell 4
                        have z5 : w20.cell? ⟨gW, 5, none⟩ = some (.slice a5 s.purposes.length k5) := HB9.out.cell 5
                        go_wp2_with fail
                        refine (sub_q (Hs.out.below Hb9.out) Hfew.out Hc.out (c := s.converts) (k := s.rules.length) (m := s.purposes.length) (Nat.le_refl _) (by omega) (by omega) a3 a4 a5 k3 k4 k5 (.inr rfl) (.inr rfl)).mono ?_
                        rintro e w21 ⟨rfl, hb1⟩
                        replace Hb9 := Lib.hid (Hb9.out.trans (hb1.mono Hb9.out.size))
                        clear hb1 z0 z1 z2 z3 z4 z5
                        go_wp2
                        go_ret
                        exact ⟨rfl, Hb9.out⟩
end Go.Proofs.Ytogenjbabgibbaa
