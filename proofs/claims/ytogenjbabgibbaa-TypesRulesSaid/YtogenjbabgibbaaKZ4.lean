import Derived.Test.YtogenjbabgibbaaKZ2
namespace Go.Proofs.Ytogenjbabgibbaa
open Go.RowKit
structure Lens (s : SourceD) : Prop where
  l2 : s.schemas.length ≤ 9223372036854775807
  l3 : s.rules.length ≤ 9223372036854775807
  l5 : s.purposes.length ≤ 9223372036854775807
def fewF (f : FieldD) : Bool := decide (f.ty.names.length ≤ 20)
def fewS (x : SchemaD) : Bool := decide (x.fields.length ≤ 14) && x.fields.all fewF
def fewR (r : RuleD) : Bool := decide (r.froms.length ≤ 6 ∧ r.where_.length ≤ 12 ∧ r.sets.length ≤ 16)
def fewP (x : PurposeD) : Bool := decide (x.may.length ≤ 70)
def fewL (s : SourceD) : Bool := decide (s.issuers.length ≤ 12 ∧ s.units.length ≤ 70 ∧ s.schemas.length ≤ 20 ∧ s.rules.length ≤ 20 ∧ s.converts ≤ 20 ∧ s.purposes.length ≤ 12)
def fewB (s : SourceD) : Bool := s.schemas.all fewS && (s.rules.all fewR && (s.purposes.all fewP && fewL s))
theorem few_of {s : SourceD} (h : fewB s = true) : Few s := by
  unfold fewB at h
  simp only [Bool.and_eq_true] at h
  refine ⟨fun x hx f hf => ?_, fun x hx => ?_⟩
  · have h1 := List.all_eq_true.1 h.1 x hx
    simp only [fewS, Bool.and_eq_true] at h1
    have h2 := List.all_eq_true.1 h1.2 f hf
    simp [fewF] at h2; omega
  · have h1 := List.all_eq_true.1 h.1 x hx
    simp [fewS] at h1; omega
set_option maxRecDepth 20000 in
set_option maxHeartbeats 4000000 in
theorem few_any (s : SourceD) (p : SrcAt) (w : World) (hs : Src w s p) (hn : Lens s) :
    Calls Try.prog 10 #[s.val p] w fun e w' => e = .returned (.bool (fewB s)) ∧ Below w.heap.size w w' := by
  obtain ⟨a0, k0, a1, k1, a2, k2, a3, k3, a4, k4, a5, k5⟩ := p
  obtain ⟨hn1, hn2, hn3⟩ := hn
  have Hs := Lib.hid hs
  have Hv := Lib.hid (show fewB s = (s.schemas.all fewS && (s.rules.all fewR && (s.purposes.all fewP && fewL s))) from rfl)
  clear hs
  go_enter Try.func10, Try.ntmps10
  go_wp2_with fail
  generalize hw0 : World.alloc _ _ = w0
  obtain ⟨X0, hsz, hb0⟩ := blk1 hw0
  have x0 : w0.cell? ⟨w.heap.size, 0, none⟩ = some (.slice a0 s.issuers.length k0) := X0.cell 0
  have x1 : w0.cell? ⟨w.heap.size, 1, none⟩ = some (.slice a1 s.units.length k1) := X0.cell 1
  have x2 : w0.cell? ⟨w.heap.size, 2, none⟩ = some (.slice a2 s.schemas.length k2) := X0.cell 2
  have x3 : w0.cell? ⟨w.heap.size, 3, none⟩ = some (.slice a3 s.rules.length k3) := X0.cell 3
  have x4 : w0.cell? ⟨w.heap.size, 4, none⟩ = some (.slice a4 s.converts k4) := X0.cell 4
  have x5 : w0.cell? ⟨w.heap.size, 5, none⟩ = some (.slice a5 s.purposes.length k5) := X0.cell 5
  have hl_x : w.heap.size < w0.heap.size := by omega
  have hwl : w.heap.size ≤ w0.heap.size := hb0.size
  have Hb := Lib.hid hb0
  clear hw0 hb0 hsz X0
  go_loopw [3] (fun i wr => ∃ k : Nat, k ≤ (s.schemas).length ∧ i = .int .i64 k ∧ Hid (PreP (fewS) (s.schemas) k) ∧ Below w0.heap.size w0 wr) (fun i _ => (s.schemas).length - (intOf i).toNat)
  case atStart => exact ⟨0, Nat.zero_le _, rfl, Lib.hid PreP.zero, Below.refl _ _⟩
  case round =>
    obtain ⟨k, hk, rfl, Hn, hb1⟩ := hrel
    have Hb1 := Lib.hid hb1
    have hwl1 := hb1.size
    replace x0 := cell_kept hb1 x0 hl_x
    replace x1 := cell_kept hb1 x1 hl_x
    replace x2 := cell_kept hb1 x2 hl_x
    replace x3 := cell_kept hb1 x3 hl_x
    replace x4 := cell_kept hb1 x4 hl_x
    replace x5 := cell_kept hb1 x5 hl_x
    replace Hb := Lib.hid (Hb.out.trans (hb1.mono hwl))
    replace hl_x := Nat.lt_of_lt_of_le hl_x hb1.size
    replace hwl := Nat.le_trans hwl hb1.size
    clear hb1
    by_cases hlt : k < (s.schemas).length
    case pos =>
      have hlt' : (k : Int) < ((s.schemas).length : Int) := by omega
      obtain ⟨b, off, e1, hl_d, _, fa, fk, da, dk, d0, d1, d2, d3, d4, d5, hff⟩ := SchemaD.out ((Hs.out.below Hb.out).h2) k hlt
      simp only at e1
      subst e1
      have hsuc := fun h => Hn.out.succ hlt h
      have hno := fun h => not_all (p := fewS) hlt h
      generalize (s.schemas)[k] = x at *
      have Hsuc := Lib.hid hsuc
      have Hno := Lib.hid hno
      clear hsuc hno
      have Hff := Lib.hid hff
      have Hssuc := Hsuc
      have Hsno := Hno
      clear Hsuc Hno hff
      by_cases hf14 : x.fields.length ≤ 14
      case neg =>
        have hq' : (14 : Int) < (x.fields.length : Int) := by omega
        have Hq := Lib.hid hf14
        clear hf14
        go_wp2_with fail
        all_goals (try (exfalso; omega))
        go_ret
        exact ⟨ret_bool (by rw [Hv.out, Hsno.out (by simp [fewS, Hq.out])]; rfl), Hb.out⟩
      have hq' : ¬ (14 : Int) < (x.fields.length : Int) := by omega
      go_wp2_with fail
      all_goals (try (exfalso; omega))
      clear hlt Hn
      have hjt := hlt'
      clear hlt'
      obtain ⟨j, rfl⟩ : ∃ j : Nat, j = k := ⟨_, rfl⟩
      obtain ⟨wo, rfl⟩ : ∃ wo : World, wo = wr := ⟨_, rfl⟩
      go_loopw [4] (fun i wr => ∃ k : Nat, k ≤ (x.fields).length ∧ i = .int .i64 k ∧ Hid (PreP (fewF) (x.fields) k) ∧ Below wo.heap.size wo wr) (fun i _ => (x.fields).length - (intOf i).toNat)
      case atStart => exact ⟨0, Nat.zero_le _, rfl, Lib.hid PreP.zero, Below.refl _ _⟩
      case round =>
        obtain ⟨k, hk, rfl, Hn, hb1⟩ := hrel
        have Hb2 := Lib.hid hb1
        have hwl2 := hb1.size
        replace x0 := cell_kept hb1 x0 hl_x
        replace x1 := cell_kept hb1 x1 hl_x
        replace x2 := cell_kept hb1 x2 hl_x
        replace x3 := cell_kept hb1 x3 hl_x
        replace x4 := cell_kept hb1 x4 hl_x
        replace x5 := cell_kept hb1 x5 hl_x
        replace d0 := cell_kept hb1 d0 hl_d
        replace d1 := cell_kept hb1 d1 hl_d
        replace d2 := cell_kept hb1 d2 hl_d
        replace d3 := cell_kept hb1 d3 hl_d
        replace d4 := cell_kept hb1 d4 hl_d
        replace d5 := cell_kept hb1 d5 hl_d
        replace Hb := Lib.hid (Hb.out.trans (hb1.mono hwl))
        replace Hb1 := Lib.hid (Hb1.out.trans (hb1.mono hwl1))
        replace hl_x := Nat.lt_of_lt_of_le hl_x hb1.size
        replace hl_d := Nat.lt_of_lt_of_le hl_d hb1.size
        replace hwl := Nat.le_trans hwl hb1.size
        replace hwl1 := Nat.le_trans hwl1 hb1.size
        clear hb1
        by_cases hlt : k < (x.fields).length
        case pos =>
          have hlt' : (k : Int) < ((x.fields).length : Int) := by omega
          obtain ⟨b2, o2, e1, hl_g, _, an, kn, g0, g1, g2, g3, g4, g5, g6, g7, g8, g9, g10, -⟩ := FieldD.out (Hff.out.below RFieldD.stab Hb2.out) k hlt
          subst e1
          have hsuc := fun h => Hn.out.succ hlt h
          have hno := fun h => not_all (p := fewF) hlt h
          generalize (x.fields)[k] = f at *
          have Hsuc := Lib.hid hsuc
          have Hno := Lib.hid hno
          clear hsuc hno
          by_cases hq : f.ty.names.length ≤ 20
          case neg =>
            have hq' : (20 : Int) < (f.ty.names.length : Int) := by omega
            have Hq := Lib.hid hq
            clear hq
            go_wp2_with fail
            all_goals (try (exfalso; omega))
            go_ret
            exact ⟨ret_bool (by rw [Hv.out, Hsno.out (by rw [fewS, Hno.out (by simp [fewF, Hq.out])]; simp)]; rfl), Hb.out⟩
          have hq' : ¬ (20 : Int) < (f.ty.names.length : Int) := by omega
          go_wp2_with fail
          all_goals (try (exfalso; omega))
          go_roundw
          case rel => exact ⟨k + 1, by omega, by go_num, Lib.hid (Hsuc.out (by simp [fewF, hq])), Hb2.out⟩
          case measure => simp [intOf]; omega
        case neg =>
          have hall := Hn.out.all (show (x.fields).length ≤ k by omega)
          clear Hn
          go_wp2_with fail
          go_roundw
          case rel => exact ⟨j + 1, by omega, by go_num, Lib.hid (Hssuc.out (by rw [fewS, hall, decide_eq_true hf14]; rfl)), Hb1.out⟩
          case measure => simp [intOf]; omega
    case neg =>
      have hall := Hn.out.all (show (s.schemas).length ≤ k by omega)
      clear Hn
      rw [hall, Bool.true_and] at Hv
      clear hall
      go_wp2_with fail
      obtain ⟨wq, rfl⟩ : ∃ wq : World, wq = wr := ⟨_, rfl⟩
      go_loopw [5] (fun i wr => ∃ k : Nat, k ≤ (s.rules).length ∧ i = .int .i64 k ∧ Hid (PreP (fewR) (s.rules) k) ∧ Below wq.heap.size wq wr) (fun i _ => (s.rules).length - (intOf i).toNat)
      case atStart => exact ⟨0, Nat.zero_le _, rfl, Lib.hid PreP.zero, Below.refl _ _⟩
      case round =>
        obtain ⟨k, hk, rfl, Hn, hb1⟩ := hrel
        have Hb2 := Lib.hid hb1
        have hwl2 := hb1.size
        replace x0 := cell_kept hb1 x0 hl_x
        replace x1 := cell_kept hb1 x1 hl_x
        replace x2 := cell_kept hb1 x2 hl_x
        replace x3 := cell_kept hb1 x3 hl_x
        replace x4 := cell_kept hb1 x4 hl_x
        replace x5 := cell_kept hb1 x5 hl_x
        replace Hb := Lib.hid (Hb.out.trans (hb1.mono hwl))
        replace Hb1 := Lib.hid (Hb1.out.trans (hb1.mono hwl1))
        replace hl_x := Nat.lt_of_lt_of_le hl_x hb1.size
        replace hwl := Nat.le_trans hwl hb1.size
        replace hwl1 := Nat.le_trans hwl1 hb1.size
        clear hb1
        by_cases hlt : k < (s.rules).length
        case pos =>
          have hlt' : (k : Int) < ((s.rules).length : Int) := by omega
          obtain ⟨b, off, e1, hl_d, _, p2, q2, p3, q3, p4, q4, d0, d1, d2, d3, d4, -⟩ := RuleD.out ((Hs.out.below Hb.out).h3) k hlt
          simp only at e1
          subst e1
          have hsuc := fun h => Hn.out.succ hlt h
          have hno := fun h => not_all (p := fewR) hlt h
          generalize (s.rules)[k] = x at *
          have Hsuc := Lib.hid hsuc
          have Hno := Lib.hid hno
          clear hsuc hno
          by_cases hq : x.froms.length ≤ 6 ∧ x.where_.length ≤ 12 ∧ x.sets.length ≤ 16
          case neg =>
            have Hq := Lib.hid hq
            clear hq
            go_wp2_with fail
            all_goals (try (exfalso; have := Hq.out; omega))
            all_goals go_ret
            all_goals exact ⟨ret_bool (by rw [Hv.out, Hno.out (by simp only [fewR]; exact decide_eq_false Hq.out)]; rfl), Hb.out⟩
          have Hq := Lib.hid hq
          obtain ⟨q1, q2, q3⟩ := hq
          go_wp2_with fail
          all_goals (try (exfalso; omega))
          go_roundw
          case rel => exact ⟨k + 1, by omega, by go_num, Lib.hid (Hsuc.out (by simp only [fewR]; exact decide_eq_true Hq.out)), Hb2.out⟩
          case measure => simp [intOf]; omega
        case neg =>
          have hall := Hn.out.all (show (s.rules).length ≤ k by omega)
          clear Hn
          rw [hall, Bool.true_and] at Hv
          clear hall
          go_wp2_with fail
          obtain ⟨wp, rfl⟩ : ∃ wp : World, wp = wr := ⟨_, rfl⟩
          go_loopw [6] (fun i wr => ∃ k : Nat, k ≤ (s.purposes).length ∧ i = .int .i64 k ∧ Hid (PreP (fewP) (s.purposes) k) ∧ Below wp.heap.size wp wr) (fun i _ => (s.purposes).length - (intOf i).toNat)
          case atStart => exact ⟨0, Nat.zero_le _, rfl, Lib.hid PreP.zero, Below.refl _ _⟩
          case round =>
            obtain ⟨k, hk, rfl, Hn, hb1⟩ := hrel
            have Hb3 := Lib.hid hb1
            have hwl3 := hb1.size
            replace x0 := cell_kept hb1 x0 hl_x
            replace x1 := cell_kept hb1 x1 hl_x
            replace x2 := cell_kept hb1 x2 hl_x
            replace x3 := cell_kept hb1 x3 hl_x
            replace x4 := cell_kept hb1 x4 hl_x
            replace x5 := cell_kept hb1 x5 hl_x
            replace Hb := Lib.hid (Hb.out.trans (hb1.mono hwl))
            replace Hb1 := Lib.hid (Hb1.out.trans (hb1.mono hwl1))
            replace Hb2 := Lib.hid (Hb2.out.trans (hb1.mono hwl2))
            replace hl_x := Nat.lt_of_lt_of_le hl_x hb1.size
            replace hwl := Nat.le_trans hwl hb1.size
            replace hwl1 := Nat.le_trans hwl1 hb1.size
            replace hwl2 := Nat.le_trans hwl2 hb1.size
            clear hb1
            by_cases hlt : k < (s.purposes).length
            case pos =>
              have hlt' : (k : Int) < ((s.purposes).length : Int) := by omega
              obtain ⟨b, off, e1, hl_d, _, pa, pk, d0, d1, d2, -⟩ := PurposeD.out ((Hs.out.below Hb.out).h5) k hlt
              simp only at e1
              subst e1
              have hsuc := fun h => Hn.out.succ hlt h
              have hno := fun h => not_all (p := fewP) hlt h
              generalize (s.purposes)[k] = x at *
              have Hsuc := Lib.hid hsuc
              have Hno := Lib.hid hno
              clear hsuc hno
              by_cases hq : x.may.length ≤ 70
              case neg =>
                have Hq := Lib.hid hq
                clear hq
                go_wp2_with fail
                all_goals (try (exfalso; have := Hq.out; omega))
                all_goals go_ret
                all_goals exact ⟨ret_bool (by rw [Hv.out, Hno.out (by simp only [fewP]; exact decide_eq_false Hq.out)]; rfl), Hb.out⟩
              have Hq := Lib.hid hq
              go_wp2_with fail
              all_goals (try (exfalso; omega))
              go_roundw
              case rel => exact ⟨k + 1, by omega, by go_num, Lib.hid (Hsuc.out (by simp only [fewP]; exact decide_eq_true Hq.out)), Hb3.out⟩
              case measure => simp [intOf]; omega
            case neg =>
              have hall := Hn.out.all (show (s.purposes).length ≤ k by omega)
              clear Hn
              rw [hall, Bool.true_and] at Hv
              clear hall
              by_cases hd : s.issuers.length ≤ 12 ∧ s.units.length ≤ 70 ∧ s.schemas.length ≤ 20 ∧ s.rules.length ≤ 20 ∧ s.converts ≤ 20 ∧ s.purposes.length ≤ 12
              · have Hd := Lib.hid hd
                obtain ⟨q1, q2, q3, q4, q5, q6⟩ := hd
                go_wp2_with fail
                all_goals (try (exfalso; omega))
                all_goals go_ret
                all_goals exact ⟨ret_bool (by rw [Hv.out, fewL, decide_eq_true Hd.out]; simp; try omega), Hb.out⟩
              · have Hd := Lib.hid hd
                clear hd
                go_wp2_with fail
                all_goals (try (exfalso; have := Hd.out; omega))
                all_goals go_ret
                all_goals exact ⟨ret_bool (by rw [Hv.out, fewL, decide_eq_false Hd.out]; try (have := Hd.out; simp; try omega)), Hb.out⟩

end Go.Proofs.Ytogenjbabgibbaa
