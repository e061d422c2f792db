import Derived.Test.YtogenjbabgibbaaKZ4
import Derived.Test.YtogenjbabgibbaaKZ3
import Derived.Test.YtogenjbabgibbaaKY
import Derived.Test.YtogenjbabgibbaaKW
import Derived.Test.YtogenjbabgibbaaKJ
namespace Go.Proofs.Ytogenjbabgibbaa
open Go.RowKit
theorem rschema_eq (s : SourceD) (p : SrcAt) (x : SchemaD) (fa : Option Addr) (fk : Nat) (da : Option Addr) (dk : Nat) (w : World) (hf : Sl 11 RFieldD w fa x.fields) (hsn : ∀ f ∈ x.fields, f.ty.names.length ≤ 100000) (r : Bool) (hr : schB s x = r) :
    Calls Try.prog 34 #[s.val p, x.val fa fk da dk] w fun e w' => e = .returned (.bool r) ∧ Below w.heap.size w w' := by
  subst hr
  exact rschema_any s p x fa fk da dk w hf w (Below.refl _ _) hsn
theorem rrule_eq (s : SourceD) (p : SrcAt) (x : RuleD) (q : RuleAt) (w : World) (hs : Src w s p) (hr : Rul w x q) (hsh : Short s) (hgd : Good s) (hsf : ShortF s) (r : Bool) (hv : rruleB s x = r) :
    Calls Try.prog 35 #[s.val p, x.val q] w fun e w' => e = .returned (.bool r) ∧ Below w.heap.size w w' := by
  subst hv
  exact rrule_any s p x q w hs hr hsh hgd hsf
theorem thereR_eq (s : SourceD) (p : SrcAt) (x : RefD) (w : World) (hs : Src w s p) (r : Bool) (hv : refIn s x = r) :
    Calls Try.prog 36 #[s.val p, .int .i64 x.schema, .int .i64 x.field] w fun e w' => e = .returned (.bool r) ∧ Below w.heap.size w w' := by
  subst hv
  exact there_any s p x.schema x.field w hs
def rpurpB (s : SourceD) (pu : PurposeD) : Bool := (decide (0 ≤ pu.most) && decide (pu.most ≤ 64)) && pu.may.all (refIn s)
def mayOK (x : PurposeD) : Bool := !decide (64 < x.may.length)
def lensB (s : SourceD) : Bool := decide (s.issuers.length ≤ 8) && (decide (s.units.length ≤ 64) && (decide (s.schemas.length ≤ 16) && (decide (s.rules.length ≤ 16) && (decide (s.converts ≤ 16) && decide (s.purposes.length ≤ 8)))))
theorem limB_eq (s : SourceD) : limB s = (lensB s && s.purposes.all mayOK) := by
  unfold limB lensB mayOK
  rw [List.any_eq_not_all_not]; simp
def restB (s : SourceD) : Bool := s.units.all (unitB s.units) && (s.schemas.all (schB s) && (s.rules.all (rruleB s) && s.purposes.all (rpurpB s)))
def rcheckB (s : SourceD) : Int := if limB s then (if restB s then 0 else 120) else 2
set_option maxRecDepth 20000 in
set_option maxHeartbeats 8000000 in
theorem rcheck_any (s : SourceD) (p : SrcAt) (w : World) (hs : Src w s p) (hf : Few s) (hmay : ∀ x ∈ s.purposes, x.may.length ≤ 100000) :
    Calls Try.prog 12 #[s.val p] w fun e w' => e = .returned (.int .i64 (rcheckB s)) ∧ Below w.heap.size w w' := by
  obtain ⟨a0, k0, a1, k1, a2, k2, a3, k3, a4, k4, a5, k5⟩ := p
  by_cases hd : s.issuers.length ≤ 8 ∧ s.units.length ≤ 64 ∧ s.schemas.length ≤ 16 ∧ s.rules.length ≤ 16 ∧ s.converts ≤ 16 ∧ s.purposes.length ≤ 8
  case neg =>
    have Hd := Lib.hid hd
    clear hs hd hmay
    go_enter Try.func12, Try.ntmps12
    go_wp2_with fail
    all_goals (try (exfalso; have := Hd.out; omega))
    all_goals go_ret
    all_goals exact ⟨ret_i (by have := Hd.out; rw [rcheckB, limB_eq, show lensB s = false by simp [lensB]; intros; omega]; rfl), by (repeat (first | exact Below.refl _ _ | refine Below.alloc ?_ (by first | (simp; done) | (simp; omega)) _ | refine Below.setCell ?_ (by first | (simp; done) | (simp; omega)) _ | refine below_drewN ?_ _))⟩
  have Hl := Lib.hid (show lensB s = true by simp [lensB, hd])
  obtain ⟨n1, n2, n3, n4, n5, n6⟩ := hd
  have hsh := hf.short
  have hsf : ShortF s := hf.fields
  have Hs := Lib.hid hs
  clear hs
  go_enter Try.func12, Try.ntmps12
  go_wp2_with fail
  all_goals (try (exfalso; omega))
  generalize hw0 : World.alloc _ _ = w0
  obtain ⟨X0, hsz, hb0⟩ := blk1 hw0
  have x0 : w0.cell? ⟨w.heap.size, 0, none⟩ = some (.slice a0 s.issuers.length k0) := X0.cell 0
  have x1 : w0.cell? ⟨w.heap.size, 1, none⟩ = some (.slice a1 s.units.length k1) := X0.cell 1
  have x2 : w0.cell? ⟨w.heap.size, 2, none⟩ = some (.slice a2 s.schemas.length k2) := X0.cell 2
  have x3 : w0.cell? ⟨w.heap.size, 3, none⟩ = some (.slice a3 s.rules.length k3) := X0.cell 3
  have x4 : w0.cell? ⟨w.heap.size, 4, none⟩ = some (.slice a4 s.converts k4) := X0.cell 4
  have x5 : w0.cell? ⟨w.heap.size, 5, none⟩ = some (.slice a5 s.purposes.length k5) := X0.cell 5
  have hl_x : w.heap.size < w0.heap.size := by omega
  have hwl : w.heap.size ≤ w0.heap.size := hb0.size
  have Hb := Lib.hid hb0
  clear hw0 hb0 hsz X0
  go_loopw [3] (fun i wr => ∃ k : Nat, k ≤ (s.purposes).length ∧ i = .int .i64 k ∧ Hid (PreP (mayOK) (s.purposes) k) ∧ Below w0.heap.size w0 wr) (fun i _ => (s.purposes).length - (intOf i).toNat)
  case atStart => exact ⟨0, Nat.zero_le _, rfl, Lib.hid PreP.zero, Below.refl _ _⟩
  case round =>
    obtain ⟨k, hk, rfl, Hn, hb1⟩ := hrel
    have Hb1 := Lib.hid hb1
    have hwl1 := hb1.size
    replace x0 := cell_kept hb1 x0 hl_x
    replace x1 := cell_kept hb1 x1 hl_x
    replace x2 := cell_kept hb1 x2 hl_x
    replace x3 := cell_kept hb1 x3 hl_x
    replace x4 := cell_kept hb1 x4 hl_x
    replace x5 := cell_kept hb1 x5 hl_x
    replace Hb := Lib.hid (Hb.out.trans (hb1.mono hwl))
    replace hl_x := Nat.lt_of_lt_of_le hl_x hb1.size
    replace hwl := Nat.le_trans hwl hb1.size
    clear hb1
    by_cases hlt : k < (s.purposes).length
    case pos =>
      have hlt' : (k : Int) < ((s.purposes).length : Int) := by omega
      obtain ⟨b, off, e1, hl_d, _, pa, pk, d0, d1, d2, -⟩ := PurposeD.out ((Hs.out.below Hb.out).h5) k hlt
      simp only at e1
      subst e1
      have hsuc := fun h => Hn.out.succ hlt h
      have hno := fun h => not_all (p := mayOK) hlt h
      generalize (s.purposes)[k] = x at *
      have Hsuc := Lib.hid hsuc
      have Hno := Lib.hid hno
      clear hsuc hno
      by_cases hq : x.may.length ≤ 64
      case neg =>
        have Hq := Lib.hid hq
        clear hq
        go_wp2_with fail
        all_goals (try (exfalso; have := Hq.out; omega))
        all_goals go_ret
        all_goals exact ⟨ret_i (by rw [rcheckB, limB_eq, Hno.out (by simp [mayOK]; have := Hq.out; omega), Bool.and_false]; rfl), Hb.out⟩
      have Hq := Lib.hid hq
      go_wp2_with fail
      all_goals (try (exfalso; omega))
      go_roundw
      case rel => exact ⟨k + 1, by omega, by go_num, Lib.hid (Hsuc.out (by simp [mayOK]; exact Hq.out)), Hb1.out⟩
      case measure => simp [intOf]; omega
    case neg =>
      have hall := Hn.out.all (show (s.purposes).length ≤ k by omega)
      clear Hn
      have Hv := Lib.hid (show rcheckB s = if (s.units.all (unitB s.units) && (s.schemas.all (schB s) && (s.rules.all (rruleB s) && s.purposes.all (rpurpB s)))) = true then 0 else 120 by rw [rcheckB, limB_eq, Hl.out, hall]; rfl)
      clear hall
      go_wp2_with fail
      obtain ⟨wn, rfl⟩ : ∃ wn : World, wn = wr := ⟨_, rfl⟩
      go_loopw [4] (fun i wr => ∃ k : Nat, k ≤ (s.units).length ∧ i = .int .i64 k ∧ Hid (PreP (unitB s.units) (s.units) k) ∧ Below wn.heap.size wn wr) (fun i _ => (s.units).length - (intOf i).toNat)
      case atStart => exact ⟨0, Nat.zero_le _, rfl, Lib.hid PreP.zero, Below.refl _ _⟩
      case round =>
        obtain ⟨k, hk, rfl, Hn, hb1⟩ := hrel
        have Hb2 := Lib.hid hb1
        have hwl2 := hb1.size
        replace x0 := cell_kept hb1 x0 hl_x
        replace x1 := cell_kept hb1 x1 hl_x
        replace x2 := cell_kept hb1 x2 hl_x
        replace x3 := cell_kept hb1 x3 hl_x
        replace x4 := cell_kept hb1 x4 hl_x
        replace x5 := cell_kept hb1 x5 hl_x
        replace Hb := Lib.hid (Hb.out.trans (hb1.mono hwl))
        replace Hb1 := Lib.hid (Hb1.out.trans (hb1.mono hwl1))
        replace hl_x := Nat.lt_of_lt_of_le hl_x hb1.size
        replace hwl := Nat.le_trans hwl hb1.size
        replace hwl1 := Nat.le_trans hwl1 hb1.size
        clear hb1
        by_cases hlt : k < (s.units).length
        case pos =>
          have hlt' : (k : Int) < ((s.units).length : Int) := by omega
          have hcall := runit_in s ⟨a0, k0, a1, k1, a2, k2, a3, k3, a4, k4, a5, k5⟩ k wr (Hs.out.below Hb.out) hlt
          have hsuc := fun h => Hn.out.succ hlt h
          have hno := fun h => not_all (p := unitB s.units) hlt h
          generalize (s.units)[k] = x at *
          have Hsuc := Lib.hid hsuc
          have Hno := Lib.hid hno
          clear hsuc hno
          have Hcall := Lib.hid hcall
          clear hcall
          go_wp2_with fail
          refine Hcall.out.mono ?_
          rintro e w3 ⟨rfl, hb1⟩
          replace x0 := cell_kept hb1 x0 hl_x
          replace x1 := cell_kept hb1 x1 hl_x
          replace x2 := cell_kept hb1 x2 hl_x
          replace x3 := cell_kept hb1 x3 hl_x
          replace x4 := cell_kept hb1 x4 hl_x
          replace x5 := cell_kept hb1 x5 hl_x
          replace Hb := Lib.hid (Hb.out.trans (hb1.mono hwl))
          replace Hb1 := Lib.hid (Hb1.out.trans (hb1.mono hwl1))
          replace Hb2 := Lib.hid (Hb2.out.trans (hb1.mono hwl2))
          replace hl_x := Nat.lt_of_lt_of_le hl_x hb1.size
          replace hwl := Nat.le_trans hwl hb1.size
          replace hwl1 := Nat.le_trans hwl1 hb1.size
          replace hwl2 := Nat.le_trans hwl2 hb1.size
          clear hb1
          cases hf2 : unitB s.units x with
          | false =>
            go_wp2
            go_ret
            exact ⟨ret_i (by rw [Hv.out, Hno.out hf2]; rfl), Hb.out⟩
          | true =>
            go_wp2_with fail
            go_roundw
            case rel => exact ⟨k + 1, by omega, by go_num, Lib.hid (Hsuc.out hf2), Hb2.out⟩
            case measure => simp [intOf]; omega
        case neg =>
          have hall := Hn.out.all (show (s.units).length ≤ k by omega)
          clear Hn
          rw [hall, Bool.true_and] at Hv
          clear hall
          go_wp2_with fail
          obtain ⟨wm, rfl⟩ : ∃ wm : World, wm = wr := ⟨_, rfl⟩
          go_loopw [5] (fun i wr => ∃ k : Nat, k ≤ (s.schemas).length ∧ i = .int .i64 k ∧ Hid (PreP (schB s) (s.schemas) k) ∧ Below wm.heap.size wm wr) (fun i _ => (s.schemas).length - (intOf i).toNat)
          case atStart => exact ⟨0, Nat.zero_le _, rfl, Lib.hid PreP.zero, Below.refl _ _⟩
          case round =>
            obtain ⟨k, hk, rfl, Hn, hb1⟩ := hrel
            have Hb3 := Lib.hid hb1
            have hwl3 := hb1.size
            replace x0 := cell_kept hb1 x0 hl_x
            replace x1 := cell_kept hb1 x1 hl_x
            replace x2 := cell_kept hb1 x2 hl_x
            replace x3 := cell_kept hb1 x3 hl_x
            replace x4 := cell_kept hb1 x4 hl_x
            replace x5 := cell_kept hb1 x5 hl_x
            replace Hb := Lib.hid (Hb.out.trans (hb1.mono hwl))
            replace Hb1 := Lib.hid (Hb1.out.trans (hb1.mono hwl1))
            replace Hb2 := Lib.hid (Hb2.out.trans (hb1.mono hwl2))
            replace hl_x := Nat.lt_of_lt_of_le hl_x hb1.size
            replace hwl := Nat.le_trans hwl hb1.size
            replace hwl1 := Nat.le_trans hwl1 hb1.size
            replace hwl2 := Nat.le_trans hwl2 hb1.size
            clear hb1
            by_cases hlt : k < (s.schemas).length
            case pos =>
              have hlt' : (k : Int) < ((s.schemas).length : Int) := by omega
              obtain ⟨b, off, e1, hl_d, _, fa, fk, da, dk, d0, d1, d2, d3, d4, d5, hff⟩ := SchemaD.out ((Hs.out.below Hb.out).h2) k hlt
              simp only at e1
              subst e1
              have hsn := hf.names _ (List.getElem_mem hlt)
              have hsuc := fun h => Hn.out.succ hlt h
              have hno := fun h => not_all (p := schB s) hlt h
              generalize (s.schemas)[k] = x at *
              have Hsuc := Lib.hid hsuc
              have Hno := Lib.hid hno
              clear hsuc hno
              have Hff := Lib.hid hff
              have Hsn := Lib.hid hsn
              clear hff hsn
              cases hf2 : schB s x with
              | false =>
                have Hf2 := Lib.hid hf2
                clear hf2
                go_wp2_with fail
                refine wp_region_grown (by kernel_rfl) (by kernel_rfl) ?_
                repeat (go_big_quiet_step (first | (go_at_call 34; exact calls_grown (rschema_eq s ⟨a0, k0, a1, k1, some ⟨b, off, none⟩, k2, a3, k3, a4, k4, a5, k5⟩ x fa fk da dk _ (Hff.out.below RFieldD.stab (grown_below _ _)) Hsn.out false Hf2.out))))
                refine wpQuiet_nil ?_
                intro w4 hw0
                have hb1 : Below wr.heap.size wr w4 := by obtain ⟨n, rfl⟩ := hw0; exact grown_below _ n
                clear hw0
                replace x0 := cell_kept hb1 x0 hl_x
                replace x1 := cell_kept hb1 x1 hl_x
                replace x2 := cell_kept hb1 x2 hl_x
                replace x3 := cell_kept hb1 x3 hl_x
                replace x4 := cell_kept hb1 x4 hl_x
                replace x5 := cell_kept hb1 x5 hl_x
                replace d0 := cell_kept hb1 d0 hl_d
                replace d1 := cell_kept hb1 d1 hl_d
                replace d2 := cell_kept hb1 d2 hl_d
                replace d3 := cell_kept hb1 d3 hl_d
                replace d4 := cell_kept hb1 d4 hl_d
                replace d5 := cell_kept hb1 d5 hl_d
                replace Hb := Lib.hid (Hb.out.trans (hb1.mono hwl))
                replace Hb1 := Lib.hid (Hb1.out.trans (hb1.mono hwl1))
                replace Hb2 := Lib.hid (Hb2.out.trans (hb1.mono hwl2))
                replace Hb3 := Lib.hid (Hb3.out.trans (hb1.mono hwl3))
                replace hl_x := Nat.lt_of_lt_of_le hl_x hb1.size
                replace hl_d := Nat.lt_of_lt_of_le hl_d hb1.size
                replace hwl := Nat.le_trans hwl hb1.size
                replace hwl1 := Nat.le_trans hwl1 hb1.size
                replace hwl2 := Nat.le_trans hwl2 hb1.size
                replace hwl3 := Nat.le_trans hwl3 hb1.size
                clear hb1
                go_wp2
                go_ret
                exact ⟨ret_i (by rw [Hv.out, Hno.out Hf2.out]; rfl), Hb.out⟩
              | true =>
                have Hf2 := Lib.hid hf2
                clear hf2
                go_wp2_with fail
                refine wp_region_grown (by kernel_rfl) (by kernel_rfl) ?_
                repeat (go_big_quiet_step (first | (go_at_call 34; exact calls_grown (rschema_eq s ⟨a0, k0, a1, k1, some ⟨b, off, none⟩, k2, a3, k3, a4, k4, a5, k5⟩ x fa fk da dk _ (Hff.out.below RFieldD.stab (grown_below _ _)) Hsn.out true Hf2.out))))
                refine wpQuiet_nil ?_
                intro w4 hw0
                have hb1 : Below wr.heap.size wr w4 := by obtain ⟨n, rfl⟩ := hw0; exact grown_below _ n
                clear hw0
                replace x0 := cell_kept hb1 x0 hl_x
                replace x1 := cell_kept hb1 x1 hl_x
                replace x2 := cell_kept hb1 x2 hl_x
                replace x3 := cell_kept hb1 x3 hl_x
                replace x4 := cell_kept hb1 x4 hl_x
                replace x5 := cell_kept hb1 x5 hl_x
                replace d0 := cell_kept hb1 d0 hl_d
                replace d1 := cell_kept hb1 d1 hl_d
                replace d2 := cell_kept hb1 d2 hl_d
                replace d3 := cell_kept hb1 d3 hl_d
                replace d4 := cell_kept hb1 d4 hl_d
                replace d5 := cell_kept hb1 d5 hl_d
                replace Hb := Lib.hid (Hb.out.trans (hb1.mono hwl))
                replace Hb1 := Lib.hid (Hb1.out.trans (hb1.mono hwl1))
                replace Hb2 := Lib.hid (Hb2.out.trans (hb1.mono hwl2))
                replace Hb3 := Lib.hid (Hb3.out.trans (hb1.mono hwl3))
                replace hl_x := Nat.lt_of_lt_of_le hl_x hb1.size
                replace hl_d := Nat.lt_of_lt_of_le hl_d hb1.size
                replace hwl := Nat.le_trans hwl hb1.size
                replace hwl1 := Nat.le_trans hwl1 hb1.size
                replace hwl2 := Nat.le_trans hwl2 hb1.size
                replace hwl3 := Nat.le_trans hwl3 hb1.size
                clear hb1
                go_wp2_with fail
                go_roundw
                case rel => exact ⟨k + 1, by omega, by go_num, Lib.hid (Hsuc.out Hf2.out), Hb3.out⟩
                case measure => simp [intOf]; omega
            case neg =>
              have hall := Hn.out.all (show (s.schemas).length ≤ k by omega)
              clear Hn
              have Hgd := Lib.hid (good_of hall)
              rw [hall, Bool.true_and] at Hv
              clear hall
              go_wp2_with fail
              obtain ⟨wq, rfl⟩ : ∃ wq : World, wq = wr := ⟨_, rfl⟩
              go_loopw [6] (fun i wr => ∃ k : Nat, k ≤ (s.rules).length ∧ i = .int .i64 k ∧ Hid (PreP (rruleB s) (s.rules) k) ∧ Below wq.heap.size wq wr) (fun i _ => (s.rules).length - (intOf i).toNat)
              case atStart => exact ⟨0, Nat.zero_le _, rfl, Lib.hid PreP.zero, Below.refl _ _⟩
              case round =>
                obtain ⟨k, hk, rfl, Hn, hb1⟩ := hrel
                have Hb4 := Lib.hid hb1
                have hwl4 := hb1.size
                replace x0 := cell_kept hb1 x0 hl_x
                replace x1 := cell_kept hb1 x1 hl_x
                replace x2 := cell_kept hb1 x2 hl_x
                replace x3 := cell_kept hb1 x3 hl_x
                replace x4 := cell_kept hb1 x4 hl_x
                replace x5 := cell_kept hb1 x5 hl_x
                replace Hb := Lib.hid (Hb.out.trans (hb1.mono hwl))
                replace Hb1 := Lib.hid (Hb1.out.trans (hb1.mono hwl1))
                replace Hb2 := Lib.hid (Hb2.out.trans (hb1.mono hwl2))
                replace Hb3 := Lib.hid (Hb3.out.trans (hb1.mono hwl3))
                replace hl_x := Nat.lt_of_lt_of_le hl_x hb1.size
                replace hwl := Nat.le_trans hwl hb1.size
                replace hwl1 := Nat.le_trans hwl1 hb1.size
                replace hwl2 := Nat.le_trans hwl2 hb1.size
                replace hwl3 := Nat.le_trans hwl3 hb1.size
                clear hb1
                by_cases hlt : k < (s.rules).length
                case pos =>
                  have hlt' : (k : Int) < ((s.rules).length : Int) := by omega
                  obtain ⟨b, off, e1, hl_d, _, p2, q2, p3, q3, p4, q4, d0, d1, d2, d3, d4, g2, g3, g4⟩ := RuleD.out ((Hs.out.below Hb.out).h3) k hlt
                  simp only at e1
                  subst e1
                  have hsuc := fun h => Hn.out.succ hlt h
                  have hno := fun h => not_all (p := rruleB s) hlt h
                  generalize (s.rules)[k] = x at *
                  have Hsuc := Lib.hid hsuc
                  have Hno := Lib.hid hno
                  clear hsuc hno
                  have Hru := Lib.hid (show Rul wr x ⟨p2, q2, p3, q3, p4, q4⟩ from ⟨g2, g3, g4⟩)
                  clear g2 g3 g4
                  cases hf2 : rruleB s x with
                  | false =>
                    have Hf2 := Lib.hid hf2
                    clear hf2
                    go_wp2_with fail
                    refine wp_region_grown (by kernel_rfl) (by kernel_rfl) ?_
                    repeat (go_big_quiet_step (first | (go_at_call 35; exact calls_grown (rrule_eq s ⟨a0, k0, a1, k1, a2, k2, some ⟨b, off, none⟩, k3, a4, k4, a5, k5⟩ x ⟨p2, q2, p3, q3, p4, q4⟩ _ (Hs.out.below (Hb.out.trans ((grown_below _ _).mono hwl))) (Hru.out.below (grown_below _ _)) hsh Hgd.out hsf false Hf2.out))))
                    refine wpQuiet_nil ?_
                    intro w5 hw0
                    have hb1 : Below wr.heap.size wr w5 := by obtain ⟨n, rfl⟩ := hw0; exact grown_below _ n
                    clear hw0
                    replace x0 := cell_kept hb1 x0 hl_x
                    replace x1 := cell_kept hb1 x1 hl_x
                    replace x2 := cell_kept hb1 x2 hl_x
                    replace x3 := cell_kept hb1 x3 hl_x
                    replace x4 := cell_kept hb1 x4 hl_x
                    replace x5 := cell_kept hb1 x5 hl_x
                    replace d0 := cell_kept hb1 d0 hl_d
                    replace d1 := cell_kept hb1 d1 hl_d
                    replace d2 := cell_kept hb1 d2 hl_d
                    replace d3 := cell_kept hb1 d3 hl_d
                    replace d4 := cell_kept hb1 d4 hl_d
                    replace Hb := Lib.hid (Hb.out.trans (hb1.mono hwl))
                    replace Hb1 := Lib.hid (Hb1.out.trans (hb1.mono hwl1))
                    replace Hb2 := Lib.hid (Hb2.out.trans (hb1.mono hwl2))
                    replace Hb3 := Lib.hid (Hb3.out.trans (hb1.mono hwl3))
                    replace Hb4 := Lib.hid (Hb4.out.trans (hb1.mono hwl4))
                    replace hl_x := Nat.lt_of_lt_of_le hl_x hb1.size
                    replace hl_d := Nat.lt_of_lt_of_le hl_d hb1.size
                    replace hwl := Nat.le_trans hwl hb1.size
                    replace hwl1 := Nat.le_trans hwl1 hb1.size
                    replace hwl2 := Nat.le_trans hwl2 hb1.size
                    replace hwl3 := Nat.le_trans hwl3 hb1.size
                    replace hwl4 := Nat.le_trans hwl4 hb1.size
                    clear hb1
                    go_wp2
                    go_ret
                    exact ⟨ret_i (by rw [Hv.out, Hno.out Hf2.out]; rfl), Hb.out⟩
                  | true =>
                    have Hf2 := Lib.hid hf2
                    clear hf2
                    go_wp2_with fail
                    refine wp_region_grown (by kernel_rfl) (by kernel_rfl) ?_
                    repeat (go_big_quiet_step (first | (go_at_call 35; exact calls_grown (rrule_eq s ⟨a0, k0, a1, k1, a2, k2, some ⟨b, off, none⟩, k3, a4, k4, a5, k5⟩ x ⟨p2, q2, p3, q3, p4, q4⟩ _ (Hs.out.below (Hb.out.trans ((grown_below _ _).mono hwl))) (Hru.out.below (grown_below _ _)) hsh Hgd.out hsf true Hf2.out))))
                    refine wpQuiet_nil ?_
                    intro w5 hw0
                    have hb1 : Below wr.heap.size wr w5 := by obtain ⟨n, rfl⟩ := hw0; exact grown_below _ n
                    clear hw0
                    replace x0 := cell_kept hb1 x0 hl_x
                    replace x1 := cell_kept hb1 x1 hl_x
                    replace x2 := cell_kept hb1 x2 hl_x
                    replace x3 := cell_kept hb1 x3 hl_x
                    replace x4 := cell_kept hb1 x4 hl_x
                    replace x5 := cell_kept hb1 x5 hl_x
                    replace d0 := cell_kept hb1 d0 hl_d
                    replace d1 := cell_kept hb1 d1 hl_d
                    replace d2 := cell_kept hb1 d2 hl_d
                    replace d3 := cell_kept hb1 d3 hl_d
                    replace d4 := cell_kept hb1 d4 hl_d
                    replace Hb := Lib.hid (Hb.out.trans (hb1.mono hwl))
                    replace Hb1 := Lib.hid (Hb1.out.trans (hb1.mono hwl1))
                    replace Hb2 := Lib.hid (Hb2.out.trans (hb1.mono hwl2))
                    replace Hb3 := Lib.hid (Hb3.out.trans (hb1.mono hwl3))
                    replace Hb4 := Lib.hid (Hb4.out.trans (hb1.mono hwl4))
                    replace hl_x := Nat.lt_of_lt_of_le hl_x hb1.size
                    replace hl_d := Nat.lt_of_lt_of_le hl_d hb1.size
                    replace hwl := Nat.le_trans hwl hb1.size
                    replace hwl1 := Nat.le_trans hwl1 hb1.size
                    replace hwl2 := Nat.le_trans hwl2 hb1.size
                    replace hwl3 := Nat.le_trans hwl3 hb1.size
                    replace hwl4 := Nat.le_trans hwl4 hb1.size
                    clear hb1
                    go_wp2_with fail
                    go_roundw
                    case rel => exact ⟨k + 1, by omega, by go_num, Lib.hid (Hsuc.out Hf2.out), Hb4.out⟩
                    case measure => simp [intOf]; omega
                case neg =>
                  have hall := Hn.out.all (show (s.rules).length ≤ k by omega)
                  clear Hn
                  rw [hall, Bool.true_and] at Hv
                  clear hall
                  go_wp2_with fail
                  obtain ⟨wp, rfl⟩ : ∃ wp : World, wp = wr := ⟨_, rfl⟩
                  go_loopw [7] (fun i wr => ∃ k : Nat, k ≤ (s.purposes).length ∧ i = .int .i64 k ∧ Hid (PreP (rpurpB s) (s.purposes) k) ∧ Below wp.heap.size wp wr) (fun i _ => (s.purposes).length - (intOf i).toNat)
                  case atStart => exact ⟨0, Nat.zero_le _, rfl, Lib.hid PreP.zero, Below.refl _ _⟩
                  case round =>
                    obtain ⟨k, hk, rfl, Hn, hb1⟩ := hrel
                    have Hb5 := Lib.hid hb1
                    have hwl5 := hb1.size
                    replace x0 := cell_kept hb1 x0 hl_x
                    replace x1 := cell_kept hb1 x1 hl_x
                    replace x2 := cell_kept hb1 x2 hl_x
                    replace x3 := cell_kept hb1 x3 hl_x
                    replace x4 := cell_kept hb1 x4 hl_x
                    replace x5 := cell_kept hb1 x5 hl_x
                    replace Hb := Lib.hid (Hb.out.trans (hb1.mono hwl))
                    replace Hb1 := Lib.hid (Hb1.out.trans (hb1.mono hwl1))
                    replace Hb2 := Lib.hid (Hb2.out.trans (hb1.mono hwl2))
                    replace Hb3 := Lib.hid (Hb3.out.trans (hb1.mono hwl3))
                    replace Hb4 := Lib.hid (Hb4.out.trans (hb1.mono hwl4))
                    replace hl_x := Nat.lt_of_lt_of_le hl_x hb1.size
                    replace hwl := Nat.le_trans hwl hb1.size
                    replace hwl1 := Nat.le_trans hwl1 hb1.size
                    replace hwl2 := Nat.le_trans hwl2 hb1.size
                    replace hwl3 := Nat.le_trans hwl3 hb1.size
                    replace hwl4 := Nat.le_trans hwl4 hb1.size
                    clear hb1
                    by_cases hlt : k < (s.purposes).length
                    case pos =>
                      have hlt' : (k : Int) < ((s.purposes).length : Int) := by omega
                      obtain ⟨b, off, e1, hl_d, _, pa, pk, d0, d1, d2, hmm⟩ := PurposeD.out ((Hs.out.below Hb.out).h5) k hlt
                      have hml := hmay s.purposes[k] (List.getElem_mem hlt)
                      simp only at e1
                      subst e1
                      have hsuc := fun h => Hn.out.succ hlt h
                      have hno := fun h => not_all (p := rpurpB s) hlt h
                      generalize (s.purposes)[k] = x at *
                      have Hsuc := Lib.hid hsuc
                      have Hno := Lib.hid hno
                      clear hsuc hno
                      have Hmm := Lib.hid hmm
                      have Hpsuc := Hsuc
                      have Hpno := Hno
                      have hjt := hlt'
                      clear hmm Hsuc Hno
                      clear hlt' hlt Hn
                      obtain ⟨j, rfl⟩ : ∃ j : Nat, j = k := ⟨_, rfl⟩
                      obtain ⟨wj, rfl⟩ : ∃ wj : World, wj = wr := ⟨_, rfl⟩
                      by_cases hq : 0 ≤ x.most ∧ x.most ≤ 64
                      case neg =>
                        have Hq := Lib.hid hq
                        clear hq
                        go_wp2_with fail
                        all_goals (try (exfalso; have := Hq.out; omega))
                        all_goals go_ret
                        all_goals exact ⟨ret_i (by rw [Hv.out, Hpno.out (by have := Hq.out; simp [rpurpB]; intros; omega)]; rfl), Hb.out.alloc hwl _⟩
                      case pos =>
                        have Hq := Lib.hid hq
                        obtain ⟨q1, q2⟩ := hq
                        go_wp2_with fail
                        all_goals (try (exfalso; omega))
                        generalize hw0 : World.alloc _ _ = w6
                        obtain ⟨X0, hsz, hb1⟩ := blk1 hw0
                        have v0 : w6.cell? ⟨wj.heap.size, 0, none⟩ = some (.string x.name) := X0.cell 0
                        have v1 : w6.cell? ⟨wj.heap.size, 1, none⟩ = some (.slice pa x.may.length pk) := X0.cell 1
                        have v2 : w6.cell? ⟨wj.heap.size, 2, none⟩ = some (.int .i64 x.most) := X0.cell 2
                        have hl_v : wj.heap.size < w6.heap.size := by omega
                        replace x0 := cell_kept hb1 x0 hl_x
                        replace x1 := cell_kept hb1 x1 hl_x
                        replace x2 := cell_kept hb1 x2 hl_x
                        replace x3 := cell_kept hb1 x3 hl_x
                        replace x4 := cell_kept hb1 x4 hl_x
                        replace x5 := cell_kept hb1 x5 hl_x
                        replace d0 := cell_kept hb1 d0 hl_d
                        replace d1 := cell_kept hb1 d1 hl_d
                        replace d2 := cell_kept hb1 d2 hl_d
                        replace Hb := Lib.hid (Hb.out.trans (hb1.mono hwl))
                        replace Hb1 := Lib.hid (Hb1.out.trans (hb1.mono hwl1))
                        replace Hb2 := Lib.hid (Hb2.out.trans (hb1.mono hwl2))
                        replace Hb3 := Lib.hid (Hb3.out.trans (hb1.mono hwl3))
                        replace Hb4 := Lib.hid (Hb4.out.trans (hb1.mono hwl4))
                        replace Hb5 := Lib.hid (Hb5.out.trans (hb1.mono hwl5))
                        replace hl_x := Nat.lt_of_lt_of_le hl_x hb1.size
                        replace hl_d := Nat.lt_of_lt_of_le hl_d hb1.size
                        replace hwl := Nat.le_trans hwl hb1.size
                        replace hwl1 := Nat.le_trans hwl1 hb1.size
                        replace hwl2 := Nat.le_trans hwl2 hb1.size
                        replace hwl3 := Nat.le_trans hwl3 hb1.size
                        replace hwl4 := Nat.le_trans hwl4 hb1.size
                        replace hwl5 := Nat.le_trans hwl5 hb1.size
                        replace Hmm := Lib.hid (Hmm.out.below RRefD.stab hb1)
                        clear hb1
                        clear hw0 hsz X0
                        clear d0 d1 d2 hl_d
                        have hq := Hq.out
                        go_loopw [9] (fun i wr => ∃ k : Nat, k ≤ (x.may).length ∧ i = .int .i64 k ∧ Hid (PreP (refIn s) (x.may) k) ∧ Below w6.heap.size w6 wr) (fun i _ => (x.may).length - (intOf i).toNat)
                        case atStart => exact ⟨0, Nat.zero_le _, rfl, Lib.hid PreP.zero, Below.refl _ _⟩
                        case round =>
                          obtain ⟨k, hk, rfl, Hn, hb1⟩ := hrel
                          have Hb6 := Lib.hid hb1
                          have hwl6 := hb1.size
                          replace x0 := cell_kept hb1 x0 hl_x
                          replace x1 := cell_kept hb1 x1 hl_x
                          replace x2 := cell_kept hb1 x2 hl_x
                          replace x3 := cell_kept hb1 x3 hl_x
                          replace x4 := cell_kept hb1 x4 hl_x
                          replace x5 := cell_kept hb1 x5 hl_x
                          replace v0 := cell_kept hb1 v0 hl_v
                          replace v1 := cell_kept hb1 v1 hl_v
                          replace v2 := cell_kept hb1 v2 hl_v
                          replace Hb := Lib.hid (Hb.out.trans (hb1.mono hwl))
                          replace Hb1 := Lib.hid (Hb1.out.trans (hb1.mono hwl1))
                          replace Hb2 := Lib.hid (Hb2.out.trans (hb1.mono hwl2))
                          replace Hb3 := Lib.hid (Hb3.out.trans (hb1.mono hwl3))
                          replace Hb4 := Lib.hid (Hb4.out.trans (hb1.mono hwl4))
                          replace Hb5 := Lib.hid (Hb5.out.trans (hb1.mono hwl5))
                          replace hl_x := Nat.lt_of_lt_of_le hl_x hb1.size
                          replace hl_v := Nat.lt_of_lt_of_le hl_v hb1.size
                          replace hwl := Nat.le_trans hwl hb1.size
                          replace hwl1 := Nat.le_trans hwl1 hb1.size
                          replace hwl2 := Nat.le_trans hwl2 hb1.size
                          replace hwl3 := Nat.le_trans hwl3 hb1.size
                          replace hwl4 := Nat.le_trans hwl4 hb1.size
                          replace hwl5 := Nat.le_trans hwl5 hb1.size
                          clear hb1
                          by_cases hlt : k < (x.may).length
                          case pos =>
                            have hlt' : (k : Int) < ((x.may).length : Int) := by omega
                            obtain ⟨b2, o2, e1, hl_g, _, g0, g1, g2, g3⟩ := RefD.out (Hmm.out.below RRefD.stab Hb6.out) k hlt
                            subst e1
                            have hsuc := fun h => Hn.out.succ hlt h
                            have hno := fun h => not_all (p := refIn s) hlt h
                            generalize (x.may)[k] = r at *
                            have Hsuc := Lib.hid hsuc
                            have Hno := Lib.hid hno
                            clear hsuc hno
                            cases hf2 : refIn s r with
                            | false =>
                              have Hf2 := Lib.hid hf2
                              clear hf2
                              go_wp2_with fail
                              refine wp_region_grown (by kernel_rfl) (by kernel_rfl) ?_
                              repeat (go_big_quiet_step (first | (go_at_call 36; exact calls_grown (thereR_eq s ⟨a0, k0, a1, k1, a2, k2, a3, k3, a4, k4, some ⟨b, off, none⟩, k5⟩ r _ (Hs.out.below (Hb.out.trans ((grown_below _ _).mono hwl))) false Hf2.out))))
                              refine wpQuiet_nil ?_
                              intro w8 hw0
                              have hb1 : Below wr.heap.size wr w8 := by obtain ⟨n, rfl⟩ := hw0; exact grown_below _ n
                              clear hw0
                              replace x0 := cell_kept hb1 x0 hl_x
                              replace x1 := cell_kept hb1 x1 hl_x
                              replace x2 := cell_kept hb1 x2 hl_x
                              replace x3 := cell_kept hb1 x3 hl_x
                              replace x4 := cell_kept hb1 x4 hl_x
                              replace x5 := cell_kept hb1 x5 hl_x
                              replace v0 := cell_kept hb1 v0 hl_v
                              replace v1 := cell_kept hb1 v1 hl_v
                              replace v2 := cell_kept hb1 v2 hl_v
                              replace g0 := cell_kept hb1 g0 hl_g
                              replace g1 := cell_kept hb1 g1 hl_g
                              replace g2 := cell_kept hb1 g2 hl_g
                              replace g3 := cell_kept hb1 g3 hl_g
                              replace Hb := Lib.hid (Hb.out.trans (hb1.mono hwl))
                              replace Hb1 := Lib.hid (Hb1.out.trans (hb1.mono hwl1))
                              replace Hb2 := Lib.hid (Hb2.out.trans (hb1.mono hwl2))
                              replace Hb3 := Lib.hid (Hb3.out.trans (hb1.mono hwl3))
                              replace Hb4 := Lib.hid (Hb4.out.trans (hb1.mono hwl4))
                              replace Hb5 := Lib.hid (Hb5.out.trans (hb1.mono hwl5))
                              replace Hb6 := Lib.hid (Hb6.out.trans (hb1.mono hwl6))
                              replace hl_x := Nat.lt_of_lt_of_le hl_x hb1.size
                              replace hl_v := Nat.lt_of_lt_of_le hl_v hb1.size
                              replace hl_g := Nat.lt_of_lt_of_le hl_g hb1.size
                              replace hwl := Nat.le_trans hwl hb1.size
                              replace hwl1 := Nat.le_trans hwl1 hb1.size
                              replace hwl2 := Nat.le_trans hwl2 hb1.size
                              replace hwl3 := Nat.le_trans hwl3 hb1.size
                              replace hwl4 := Nat.le_trans hwl4 hb1.size
                              replace hwl5 := Nat.le_trans hwl5 hb1.size
                              replace hwl6 := Nat.le_trans hwl6 hb1.size
                              clear hb1
                              go_wp2
                              go_ret
                              exact ⟨ret_i (by rw [Hv.out, Hpno.out (by rw [rpurpB, Hno.out Hf2.out, Bool.and_false])]; rfl), Hb.out⟩
                            | true =>
                              have Hf2 := Lib.hid hf2
                              clear hf2
                              go_wp2_with fail
                              refine wp_region_grown (by kernel_rfl) (by kernel_rfl) ?_
                              repeat (go_big_quiet_step (first | (go_at_call 36; exact calls_grown (thereR_eq s ⟨a0, k0, a1, k1, a2, k2, a3, k3, a4, k4, some ⟨b, off, none⟩, k5⟩ r _ (Hs.out.below (Hb.out.trans ((grown_below _ _).mono hwl))) true Hf2.out))))
                              refine wpQuiet_nil ?_
                              intro w8 hw0
                              have hb1 : Below wr.heap.size wr w8 := by obtain ⟨n, rfl⟩ := hw0; exact grown_below _ n
                              clear hw0
                              replace x0 := cell_kept hb1 x0 hl_x
                              replace x1 := cell_kept hb1 x1 hl_x
                              replace x2 := cell_kept hb1 x2 hl_x
                              replace x3 := cell_kept hb1 x3 hl_x
                              replace x4 := cell_kept hb1 x4 hl_x
                              replace x5 := cell_kept hb1 x5 hl_x
                              replace v0 := cell_kept hb1 v0 hl_v
                              replace v1 := cell_kept hb1 v1 hl_v
                              replace v2 := cell_kept hb1 v2 hl_v
                              replace g0 := cell_kept hb1 g0 hl_g
                              replace g1 := cell_kept hb1 g1 hl_g
                              replace g2 := cell_kept hb1 g2 hl_g
                              replace g3 := cell_kept hb1 g3 hl_g
                              replace Hb := Lib.hid (Hb.out.trans (hb1.mono hwl))
                              replace Hb1 := Lib.hid (Hb1.out.trans (hb1.mono hwl1))
                              replace Hb2 := Lib.hid (Hb2.out.trans (hb1.mono hwl2))
                              replace Hb3 := Lib.hid (Hb3.out.trans (hb1.mono hwl3))
                              replace Hb4 := Lib.hid (Hb4.out.trans (hb1.mono hwl4))
                              replace Hb5 := Lib.hid (Hb5.out.trans (hb1.mono hwl5))
                              replace Hb6 := Lib.hid (Hb6.out.trans (hb1.mono hwl6))
                              replace hl_x := Nat.lt_of_lt_of_le hl_x hb1.size
                              replace hl_v := Nat.lt_of_lt_of_le hl_v hb1.size
                              replace hl_g := Nat.lt_of_lt_of_le hl_g hb1.size
                              replace hwl := Nat.le_trans hwl hb1.size
                              replace hwl1 := Nat.le_trans hwl1 hb1.size
                              replace hwl2 := Nat.le_trans hwl2 hb1.size
                              replace hwl3 := Nat.le_trans hwl3 hb1.size
                              replace hwl4 := Nat.le_trans hwl4 hb1.size
                              replace hwl5 := Nat.le_trans hwl5 hb1.size
                              replace hwl6 := Nat.le_trans hwl6 hb1.size
                              clear hb1
                              go_wp2_with fail
                              go_roundw
                              case rel => exact ⟨k + 1, by omega, by go_num, Lib.hid (Hsuc.out Hf2.out), Hb6.out⟩
                              case measure => simp [intOf]; omega
                          case neg =>
                            have hall := Hn.out.all (show (x.may).length ≤ k by omega)
                            clear Hn
                            go_wp2_with fail
                            go_roundw
                            case rel => exact ⟨j + 1, by omega, by go_num, Lib.hid (Hpsuc.out (by rw [rpurpB, hall, decide_eq_true hq.1, decide_eq_true hq.2]; rfl)), Hb5.out⟩
                            case measure => simp [intOf]; omega
                    case neg =>
                      have hall := Hn.out.all (show (s.purposes).length ≤ k by omega)
                      clear Hn
                      rw [hall] at Hv
                      clear hall
                      go_wp2_with fail
                      go_ret
                      exact ⟨ret_i (by rw [Hv.out]; rfl), Hb.out⟩

end Go.Proofs.Ytogenjbabgibbaa
