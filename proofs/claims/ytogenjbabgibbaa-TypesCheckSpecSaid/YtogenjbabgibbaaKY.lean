import Derived.Test.YtogenjbabgibbaaKT
import Derived.Test.YtogenjbabgibbaaKX
import Derived.Test.YtogenjbabgibbaaKQ
namespace Go.Proofs.Ytogenjbabgibbaa
open Go.RowKit
theorem rfrom_eq (s : SourceD) (p : SrcAt) (fs : List FromD) (fa : Option Addr) (fk : Nat) (i : Nat) (w : World) (hs : Src w s p) (hf : Sl 8 RFromD w fa fs) (hi : i < fs.length) (r : Bool) (hr : fromB s fs i = r) :
    Calls Try.prog 64 #[s.val p, .slice fa fs.length fk, .int .i64 i] w fun e w' => e = .returned (.bool r) ∧ Below w.heap.size w w' := by
  subst hr
  exact rfrom_at s p fs fa fk i w hs hf hi
theorem ratom_eq (s : SourceD) (p : SrcAt) (fs : List FromD) (fa : Option Addr) (fk : Nat) (m : AtomD) (w : World) (hs : Src w s p) (hf : Sl 8 RFromD w fa fs) (hsh : Short s) (hgd : Good s) (r : Bool) (hr : ratomB s fs m = r) :
    Calls Try.prog 65 #[s.val p, .slice fa fs.length fk, m.val] w fun e w' => e = .returned (.bool r) ∧ Below w.heap.size w w' := by
  subst hr
  exact ratom_any s p fs fa fk m w hs hf hsh hgd
theorem rset_eq (s : SourceD) (p : SrcAt) (fs : List FromD) (fa : Option Addr) (fk : Nat) (t : TermD) (fd : TyD) (ga : Option Addr) (gk : Nat) (w : World) (hs : Src w s p) (hf : Sl 8 RFromD w fa fs) (hg : Sl 1 RStr w ga fd.names) (hsh : Short s) (r : Bool) (hr : rsetB s fs fd t = r) :
    Calls Try.prog 66 #[s.val p, .slice fa fs.length fk, t.val, fd.val ga gk] w fun e w' => e = .returned (.bool r) ∧ Below w.heap.size w w' := by
  subst hr
  exact rset_any s p fs fa fk t fd ga gk w hs hf hg hsh
/-- the reference's set of a rule: in range, and a value of its type -/
def rsetIn (s : SourceD) (r : RuleD) (x : SetD) : Bool := decide (1 ≤ x.field) && match typeOf? s r.schema x.field with | some fd => rsetB s r.froms fd x.term | none => false
def rruleB (s : SourceD) (r : RuleD) : Bool :=
  (decide (1 ≤ r.froms.length) && decide (r.froms.length ≤ 3) && decide (r.where_.length ≤ 8) && schIn s r.schema) && ((List.range r.froms.length).all (fromB s r.froms) && (r.where_.all (ratomB s r.froms) && (decide ((r.sets.length : Int) = headLen s r.schema - 1) && (r.sets.all (rsetIn s r) && decide (r.sets.map (·.field)).Nodup))))
set_option maxRecDepth 20000 in
set_option maxHeartbeats 8000000 in
theorem rrule_any (s : SourceD) (p : SrcAt) (r : RuleD) (q : RuleAt) (w : World) (hs : Src w s p) (hr : Rul w r q) (hsh : Short s) (hgd : Good s) (hsf : ShortF s) :
    Calls Try.prog 35 #[s.val p, r.val q] w fun e w' => e = .returned (.bool (rruleB s r)) ∧ Below w.heap.size w w' := by
  obtain ⟨a0, k0, a1, k1, a2, k2, a3, k3, a4, k4, a5, k5⟩ := p
  obtain ⟨f2, l2, f3, l3, f4, l4⟩ := q
  by_cases hd : 1 ≤ r.froms.length ∧ r.froms.length ≤ 3 ∧ r.where_.length ≤ 8 ∧ 0 ≤ r.schema ∧ r.schema < s.schemas.length
  case neg =>
    have Hd := Lib.hid hd
    clear hs hr hd
    go_enter Try.func35, Try.ntmps35
    go_wp2_with fail
    all_goals (try (exfalso; have := Hd.out; omega))
    all_goals go_ret
    all_goals exact ⟨ret_bool (by have := Hd.out; simp [rruleB, schIn]; intros; omega), by (repeat (first | exact Below.refl _ _ | refine Below.alloc ?_ (by first | (simp; done) | (simp; omega)) _ | refine Below.setCell ?_ (by first | (simp; done) | (simp; omega)) _ | refine below_drewN ?_ _))⟩
  have Hv := Lib.hid (show rruleB s r = ((List.range r.froms.length).all (fromB s r.froms) && (r.where_.all (ratomB s r.froms) && (decide ((r.sets.length : Int) = headLen s r.schema - 1) && (r.sets.all (rsetIn s r) && decide (r.sets.map (·.field)).Nodup)))) by simp [rruleB, schIn, hd])
  obtain ⟨h1, h2, h3, h4, h5⟩ := hd
  have Hs := Lib.hid hs
  have Hr := Lib.hid hr
  clear hs hr
  go_enter Try.func35, Try.ntmps35
  go_wp2_with fail
  all_goals (try (exfalso; omega))
  generalize hw0 : World.alloc _ _ = w0
  obtain ⟨X0, X1, hsz, hb0⟩ := blk2 hw0
  have x0 : w0.cell? ⟨w.heap.size, 0, none⟩ = some (.slice a0 s.issuers.length k0) := X0.cell 0
  have x1 : w0.cell? ⟨w.heap.size, 1, none⟩ = some (.slice a1 s.units.length k1) := X0.cell 1
  have x2 : w0.cell? ⟨w.heap.size, 2, none⟩ = some (.slice a2 s.schemas.length k2) := X0.cell 2
  have x3 : w0.cell? ⟨w.heap.size, 3, none⟩ = some (.slice a3 s.rules.length k3) := X0.cell 3
  have x4 : w0.cell? ⟨w.heap.size, 4, none⟩ = some (.slice a4 s.converts k4) := X0.cell 4
  have x5 : w0.cell? ⟨w.heap.size, 5, none⟩ = some (.slice a5 s.purposes.length k5) := X0.cell 5
  have hl_x : w.heap.size < w0.heap.size := by omega
  have y0 : w0.cell? ⟨w.heap.size + 1, 0, none⟩ = some (.string r.head) := X1.cell 0
  have y1 : w0.cell? ⟨w.heap.size + 1, 1, none⟩ = some (.int .i64 r.schema) := X1.cell 1
  have y2 : w0.cell? ⟨w.heap.size + 1, 2, none⟩ = some (.slice f2 r.froms.length l2) := X1.cell 2
  have y3 : w0.cell? ⟨w.heap.size + 1, 3, none⟩ = some (.slice f3 r.where_.length l3) := X1.cell 3
  have y4 : w0.cell? ⟨w.heap.size + 1, 4, none⟩ = some (.slice f4 r.sets.length l4) := X1.cell 4
  have hl_y : w.heap.size + 1 < w0.heap.size := by omega
  have hwl : w.heap.size ≤ w0.heap.size := hb0.size
  have Hb := Lib.hid hb0
  clear hw0 hb0 hsz X0 X1
  go_loopw [5] (fun i wr => ∃ k : Nat, k ≤ r.froms.length ∧ i = .int .i64 k ∧ Hid (∀ j, j < k → fromB s r.froms j = true) ∧ Below w0.heap.size w0 wr) (fun i _ => r.froms.length - (intOf i).toNat)
  case atStart => exact ⟨0, Nat.zero_le _, rfl, Lib.hid (fun j hj => absurd hj (Nat.not_lt_zero j)), Below.refl _ _⟩
  case round =>
    obtain ⟨k, hk, rfl, Hn, hb1⟩ := hrel
    have Hb1 := Lib.hid hb1
    have hwl1 := hb1.size
    replace x0 := cell_kept hb1 x0 hl_x
    replace x1 := cell_kept hb1 x1 hl_x
    replace x2 := cell_kept hb1 x2 hl_x
    replace x3 := cell_kept hb1 x3 hl_x
    replace x4 := cell_kept hb1 x4 hl_x
    replace x5 := cell_kept hb1 x5 hl_x
    replace y0 := cell_kept hb1 y0 hl_y
    replace y1 := cell_kept hb1 y1 hl_y
    replace y2 := cell_kept hb1 y2 hl_y
    replace y3 := cell_kept hb1 y3 hl_y
    replace y4 := cell_kept hb1 y4 hl_y
    replace Hb := Lib.hid (Hb.out.trans (hb1.mono hwl))
    replace hl_x := Nat.lt_of_lt_of_le hl_x hb1.size
    replace hl_y := Nat.lt_of_lt_of_le hl_y hb1.size
    replace hwl := Nat.le_trans hwl hb1.size
    clear hb1
    by_cases hlt : k < r.froms.length
    case pos =>
      have hlt' : (k : Int) < (r.froms.length : Int) := by omega
      go_wp2_with fail
      cases hf : fromB s r.froms k with
      | false =>
        refine (rfrom_eq s ⟨a0, k0, a1, k1, a2, k2, a3, k3, a4, k4, a5, k5⟩ r.froms f2 l2 k _ (Hs.out.below Hb.out) (Hr.out.h2.below RFromD.stab Hb.out) hlt false hf).mono ?_
        rintro e w3 ⟨rfl, hb1⟩
        replace x0 := cell_kept hb1 x0 hl_x
        replace x1 := cell_kept hb1 x1 hl_x
        replace x2 := cell_kept hb1 x2 hl_x
        replace x3 := cell_kept hb1 x3 hl_x
        replace x4 := cell_kept hb1 x4 hl_x
        replace x5 := cell_kept hb1 x5 hl_x
        replace y0 := cell_kept hb1 y0 hl_y
        replace y1 := cell_kept hb1 y1 hl_y
        replace y2 := cell_kept hb1 y2 hl_y
        replace y3 := cell_kept hb1 y3 hl_y
        replace y4 := cell_kept hb1 y4 hl_y
        replace Hb := Lib.hid (Hb.out.trans (hb1.mono hwl))
        replace Hb1 := Lib.hid (Hb1.out.trans (hb1.mono hwl1))
        replace hl_x := Nat.lt_of_lt_of_le hl_x hb1.size
        replace hl_y := Nat.lt_of_lt_of_le hl_y hb1.size
        replace hwl := Nat.le_trans hwl hb1.size
        replace hwl1 := Nat.le_trans hwl1 hb1.size
        clear hb1
        go_wp2
        go_ret
        exact ⟨ret_bool (by rw [Hv.out, range_not hlt hf]; rfl), Hb.out⟩
      | true =>
        refine (rfrom_eq s ⟨a0, k0, a1, k1, a2, k2, a3, k3, a4, k4, a5, k5⟩ r.froms f2 l2 k _ (Hs.out.below Hb.out) (Hr.out.h2.below RFromD.stab Hb.out) hlt true hf).mono ?_
        rintro e w3 ⟨rfl, hb1⟩
        replace x0 := cell_kept hb1 x0 hl_x
        replace x1 := cell_kept hb1 x1 hl_x
        replace x2 := cell_kept hb1 x2 hl_x
        replace x3 := cell_kept hb1 x3 hl_x
        replace x4 := cell_kept hb1 x4 hl_x
        replace x5 := cell_kept hb1 x5 hl_x
        replace y0 := cell_kept hb1 y0 hl_y
        replace y1 := cell_kept hb1 y1 hl_y
        replace y2 := cell_kept hb1 y2 hl_y
        replace y3 := cell_kept hb1 y3 hl_y
        replace y4 := cell_kept hb1 y4 hl_y
        replace Hb := Lib.hid (Hb.out.trans (hb1.mono hwl))
        replace Hb1 := Lib.hid (Hb1.out.trans (hb1.mono hwl1))
        replace hl_x := Nat.lt_of_lt_of_le hl_x hb1.size
        replace hl_y := Nat.lt_of_lt_of_le hl_y hb1.size
        replace hwl := Nat.le_trans hwl hb1.size
        replace hwl1 := Nat.le_trans hwl1 hb1.size
        clear hb1
        go_wp2_with fail
        go_roundw
        case rel => exact ⟨k + 1, by omega, by go_num, Lib.hid (fun j hj => by
          by_cases e : j = k
          · subst e; exact hf
          · exact Hn.out j (by omega)), Hb1.out⟩
        case measure => simp [intOf]; omega
    case neg =>
      have hall : (List.range r.froms.length).all (fromB s r.froms) = true := range_all (fun j hj => Hn.out j (by omega))
      rw [hall, Bool.true_and] at Hv
      clear hall Hn
      go_wp2_with fail
      obtain ⟨wo, rfl⟩ : ∃ wo : World, wo = wr := ⟨_, rfl⟩
      go_loopw [6] (fun i wr => ∃ k : Nat, k ≤ r.where_.length ∧ i = .int .i64 k ∧ Hid (PreP (ratomB s r.froms) r.where_ k) ∧ Below wo.heap.size wo wr) (fun i _ => r.where_.length - (intOf i).toNat)
      case atStart => exact ⟨0, Nat.zero_le _, rfl, Lib.hid PreP.zero, Below.refl _ _⟩
      case round =>
        obtain ⟨k, hk, rfl, Hn, hb1⟩ := hrel
        have Hb2 := Lib.hid hb1
        have hwl2 := hb1.size
        replace x0 := cell_kept hb1 x0 hl_x
        replace x1 := cell_kept hb1 x1 hl_x
        replace x2 := cell_kept hb1 x2 hl_x
        replace x3 := cell_kept hb1 x3 hl_x
        replace x4 := cell_kept hb1 x4 hl_x
        replace x5 := cell_kept hb1 x5 hl_x
        replace y0 := cell_kept hb1 y0 hl_y
        replace y1 := cell_kept hb1 y1 hl_y
        replace y2 := cell_kept hb1 y2 hl_y
        replace y3 := cell_kept hb1 y3 hl_y
        replace y4 := cell_kept hb1 y4 hl_y
        replace Hb := Lib.hid (Hb.out.trans (hb1.mono hwl))
        replace Hb1 := Lib.hid (Hb1.out.trans (hb1.mono hwl1))
        replace hl_x := Nat.lt_of_lt_of_le hl_x hb1.size
        replace hl_y := Nat.lt_of_lt_of_le hl_y hb1.size
        replace hwl := Nat.le_trans hwl hb1.size
        replace hwl1 := Nat.le_trans hwl1 hb1.size
        clear hb1
        by_cases hlt : k < r.where_.length
        case pos =>
          have hlt' : (k : Int) < (r.where_.length : Int) := by omega
          obtain ⟨b, off, e1, hl_c, _, c0, c1, c2, c3, c4, c5, c6, c7, c8, c9, c10⟩ := AtomD.out (Hr.out.h3.below RAtomD.stab Hb.out) k hlt
          simp only at e1
          subst e1
          have hsuc := fun h => Hn.out.succ hlt h
          have hno := fun h => not_all (p := ratomB s r.froms) hlt h
          generalize r.where_[k] = m at *
          have Hsuc := Lib.hid hsuc
          have Hno := Lib.hid hno
          clear hsuc hno
          go_wp2_with fail
          cases hf : ratomB s r.froms m with
          | false =>
            refine wp_region_grown (by kernel_rfl) (by kernel_rfl) ?_
            repeat (go_big_quiet_step (first | (go_at_call 65; exact calls_grown (ratom_eq s ⟨a0, k0, a1, k1, a2, k2, a3, k3, a4, k4, a5, k5⟩ r.froms f2 l2 m _ (Hs.out.below (Hb.out.trans ((grown_below _ _).mono hwl))) (Hr.out.h2.below RFromD.stab (Hb.out.trans ((grown_below _ _).mono hwl))) hsh hgd false hf))))
            refine wpQuiet_nil ?_
            intro w3 hw0
            have hb1 : Below wr.heap.size wr w3 := by obtain ⟨n, rfl⟩ := hw0; exact grown_below _ n
            clear hw0
            replace x0 := cell_kept hb1 x0 hl_x
            replace x1 := cell_kept hb1 x1 hl_x
            replace x2 := cell_kept hb1 x2 hl_x
            replace x3 := cell_kept hb1 x3 hl_x
            replace x4 := cell_kept hb1 x4 hl_x
            replace x5 := cell_kept hb1 x5 hl_x
            replace y0 := cell_kept hb1 y0 hl_y
            replace y1 := cell_kept hb1 y1 hl_y
            replace y2 := cell_kept hb1 y2 hl_y
            replace y3 := cell_kept hb1 y3 hl_y
            replace y4 := cell_kept hb1 y4 hl_y
            replace c0 := cell_kept hb1 c0 hl_c
            replace c1 := cell_kept hb1 c1 hl_c
            replace c2 := cell_kept hb1 c2 hl_c
            replace c3 := cell_kept hb1 c3 hl_c
            replace c4 := cell_kept hb1 c4 hl_c
            replace c5 := cell_kept hb1 c5 hl_c
            replace c6 := cell_kept hb1 c6 hl_c
            replace c7 := cell_kept hb1 c7 hl_c
            replace c8 := cell_kept hb1 c8 hl_c
            replace c9 := cell_kept hb1 c9 hl_c
            replace c10 := cell_kept hb1 c10 hl_c
            replace Hb := Lib.hid (Hb.out.trans (hb1.mono hwl))
            replace Hb1 := Lib.hid (Hb1.out.trans (hb1.mono hwl1))
            replace Hb2 := Lib.hid (Hb2.out.trans (hb1.mono hwl2))
            replace hl_x := Nat.lt_of_lt_of_le hl_x hb1.size
            replace hl_y := Nat.lt_of_lt_of_le hl_y hb1.size
            replace hl_c := Nat.lt_of_lt_of_le hl_c hb1.size
            replace hwl := Nat.le_trans hwl hb1.size
            replace hwl1 := Nat.le_trans hwl1 hb1.size
            replace hwl2 := Nat.le_trans hwl2 hb1.size
            clear hb1
            go_wp2
            go_ret
            exact ⟨ret_bool (by rw [Hv.out, Hno.out hf]; rfl), Hb.out⟩
          | true =>
            refine wp_region_grown (by kernel_rfl) (by kernel_rfl) ?_
            repeat (go_big_quiet_step (first | (go_at_call 65; exact calls_grown (ratom_eq s ⟨a0, k0, a1, k1, a2, k2, a3, k3, a4, k4, a5, k5⟩ r.froms f2 l2 m _ (Hs.out.below (Hb.out.trans ((grown_below _ _).mono hwl))) (Hr.out.h2.below RFromD.stab (Hb.out.trans ((grown_below _ _).mono hwl))) hsh hgd true hf))))
            refine wpQuiet_nil ?_
            intro w3 hw0
            have hb1 : Below wr.heap.size wr w3 := by obtain ⟨n, rfl⟩ := hw0; exact grown_below _ n
            clear hw0
            replace x0 := cell_kept hb1 x0 hl_x
            replace x1 := cell_kept hb1 x1 hl_x
            replace x2 := cell_kept hb1 x2 hl_x
            replace x3 := cell_kept hb1 x3 hl_x
            replace x4 := cell_kept hb1 x4 hl_x
            replace x5 := cell_kept hb1 x5 hl_x
            replace y0 := cell_kept hb1 y0 hl_y
            replace y1 := cell_kept hb1 y1 hl_y
            replace y2 := cell_kept hb1 y2 hl_y
            replace y3 := cell_kept hb1 y3 hl_y
            replace y4 := cell_kept hb1 y4 hl_y
            replace c0 := cell_kept hb1 c0 hl_c
            replace c1 := cell_kept hb1 c1 hl_c
            replace c2 := cell_kept hb1 c2 hl_c
            replace c3 := cell_kept hb1 c3 hl_c
            replace c4 := cell_kept hb1 c4 hl_c
            replace c5 := cell_kept hb1 c5 hl_c
            replace c6 := cell_kept hb1 c6 hl_c
            replace c7 := cell_kept hb1 c7 hl_c
            replace c8 := cell_kept hb1 c8 hl_c
            replace c9 := cell_kept hb1 c9 hl_c
            replace c10 := cell_kept hb1 c10 hl_c
            replace Hb := Lib.hid (Hb.out.trans (hb1.mono hwl))
            replace Hb1 := Lib.hid (Hb1.out.trans (hb1.mono hwl1))
            replace Hb2 := Lib.hid (Hb2.out.trans (hb1.mono hwl2))
            replace hl_x := Nat.lt_of_lt_of_le hl_x hb1.size
            replace hl_y := Nat.lt_of_lt_of_le hl_y hb1.size
            replace hl_c := Nat.lt_of_lt_of_le hl_c hb1.size
            replace hwl := Nat.le_trans hwl hb1.size
            replace hwl1 := Nat.le_trans hwl1 hb1.size
            replace hwl2 := Nat.le_trans hwl2 hb1.size
            clear hb1
            go_wp2_with fail
            go_roundw
            case rel => exact ⟨k + 1, by omega, by go_num, Lib.hid (Hsuc.out hf), Hb2.out⟩
            case measure => simp [intOf]; omega
        case neg =>
          have hall := Hn.out.all (show r.where_.length ≤ k by omega)
          rw [hall, Bool.true_and] at Hv
          clear hall Hn
          have hsl : r.schema.toNat < s.schemas.length := by omega
          obtain ⟨b, off, e1, hl_d, _, fa, fk, da, dk, d0, d1, d2, d3, d4, d5, hff⟩ := SchemaD.out ((Hs.out.below Hb.out).h2) r.schema.toNat hsl
          simp only at e1
          subst e1
          have hfl : (s.schemas[r.schema.toNat]).fields.length ≤ 100000 := hsf _ (List.getElem_mem hsl)
          have hhl : headLen s r.schema = ((s.schemas[r.schema.toNat]).fields.length : Int) := by unfold headLen; rw [List.getElem?_eq_getElem hsl]
          rw [hhl] at Hv
          have hset0 : ∀ y : SetD, ¬ (1 ≤ y.field ∧ y.field < (s.schemas[r.schema.toNat]).fields.length) → rsetIn s r y = false := fun y hy => by
            unfold rsetIn
            by_cases h : 1 ≤ y.field
            · rw [typeOf?_out2 hsl (by omega)]; simp
            · rw [decide_eq_false h]; rfl
          have hset1 : ∀ y : SetD, 1 ≤ y.field → ∀ h : y.field.toNat < (s.schemas[r.schema.toNat]).fields.length, rsetIn s r y = rsetB s r.froms ((s.schemas[r.schema.toNat]).fields[y.field.toNat]).ty y.term := fun y hy h => by
            unfold rsetIn
            rw [typeOf?_in h4 (by omega) hsl h, decide_eq_true hy]; rfl
          generalize (s.schemas[r.schema.toNat]) = x at *
          have hx : IntKind.i64.wrap ((x.fields.length : Int) - 1) = (x.fields.length : Int) - 1 := IntWalk.i64_in _ (by omega)
          have Hff := Lib.hid hff
          have Hset0 := Lib.hid hset0
          have Hset1 := Lib.hid hset1
          clear hhl hff hset0 hset1
          by_cases hse : (r.sets.length : Int) = (x.fields.length : Int) - 1
          case neg =>
            have hse' : ((r.sets.length : Int) != (x.fields.length : Int) - 1) = true := by simpa using hse
            have Hse := Lib.hid hse
            clear hse
            go_wp2_with fail
            all_goals (try (exfalso; have := Hse.out; simp at *; omega))
            all_goals go_ret
            all_goals exact ⟨ret_bool (by rw [Hv.out, decide_eq_false Hse.out]; rfl), Hb.out.alloc hwl _⟩
          rw [decide_eq_true hse, Bool.true_and] at Hv
          have hse' : ((r.sets.length : Int) != (x.fields.length : Int) - 1) = false := by simpa using hse
          have hsb : r.sets.length ≤ 100000 := by omega
          clear hse
          go_wp2_with fail
          clear d0 d1 d2 d3 d4 d5 hl_d
          generalize hw0 : World.alloc _ _ = w4
          obtain ⟨X0, hsz, hb1⟩ := blk1 hw0
          have v0 : w4.cell? ⟨wr.heap.size, 0, none⟩ = some (.string x.name) := X0.cell 0
          have v1 : w4.cell? ⟨wr.heap.size, 1, none⟩ = some (.string x.by_) := X0.cell 1
          have v2 : w4.cell? ⟨wr.heap.size, 2, none⟩ = some (.int .i64 x.issuer) := X0.cell 2
          have v3 : w4.cell? ⟨wr.heap.size, 3, none⟩ = some (.int .i64 x.version) := X0.cell 3
          have v4 : w4.cell? ⟨wr.heap.size, 4, none⟩ = some (.slice fa x.fields.length fk) := X0.cell 4
          have v5 : w4.cell? ⟨wr.heap.size, 5, none⟩ = some (.slice da x.depends dk) := X0.cell 5
          have hl_v : wr.heap.size < w4.heap.size := by omega
          replace x0 := cell_kept hb1 x0 hl_x
          replace x1 := cell_kept hb1 x1 hl_x
          replace x2 := cell_kept hb1 x2 hl_x
          replace x3 := cell_kept hb1 x3 hl_x
          replace x4 := cell_kept hb1 x4 hl_x
          replace x5 := cell_kept hb1 x5 hl_x
          replace y0 := cell_kept hb1 y0 hl_y
          replace y1 := cell_kept hb1 y1 hl_y
          replace y2 := cell_kept hb1 y2 hl_y
          replace y3 := cell_kept hb1 y3 hl_y
          replace y4 := cell_kept hb1 y4 hl_y
          replace Hb := Lib.hid (Hb.out.trans (hb1.mono hwl))
          replace Hb1 := Lib.hid (Hb1.out.trans (hb1.mono hwl1))
          replace Hb2 := Lib.hid (Hb2.out.trans (hb1.mono hwl2))
          replace hl_x := Nat.lt_of_lt_of_le hl_x hb1.size
          replace hl_y := Nat.lt_of_lt_of_le hl_y hb1.size
          replace hwl := Nat.le_trans hwl hb1.size
          replace hwl1 := Nat.le_trans hwl1 hb1.size
          replace hwl2 := Nat.le_trans hwl2 hb1.size
          replace Hff := Lib.hid (Hff.out.below RFieldD.stab hb1)
          clear hb1
          clear hw0 hsz X0
          go_wp2_with fail
          obtain ⟨wp, rfl⟩ : ∃ wp : World, wp = wr := ⟨_, rfl⟩
          go_loopw [8] (fun i wr => ∃ k : Nat, k ≤ r.sets.length ∧ i = .int .i64 k ∧ Hid (PreP (rsetIn s r) r.sets k) ∧ Hid (((r.sets.take k).map (·.field)).Nodup) ∧ Below w4.heap.size w4 wr) (fun i _ => r.sets.length - (intOf i).toNat)
          case atStart => exact ⟨0, Nat.zero_le _, rfl, Lib.hid PreP.zero, Lib.hid (by simp), Below.refl _ _⟩
          case round =>
            obtain ⟨k, hk, rfl, Hn, HD, hb1⟩ := hrel
            have Hb3 := Lib.hid hb1
            have hwl3 := hb1.size
            replace x0 := cell_kept hb1 x0 hl_x
            replace x1 := cell_kept hb1 x1 hl_x
            replace x2 := cell_kept hb1 x2 hl_x
            replace x3 := cell_kept hb1 x3 hl_x
            replace x4 := cell_kept hb1 x4 hl_x
            replace x5 := cell_kept hb1 x5 hl_x
            replace y0 := cell_kept hb1 y0 hl_y
            replace y1 := cell_kept hb1 y1 hl_y
            replace y2 := cell_kept hb1 y2 hl_y
            replace y3 := cell_kept hb1 y3 hl_y
            replace y4 := cell_kept hb1 y4 hl_y
            replace v0 := cell_kept hb1 v0 hl_v
            replace v1 := cell_kept hb1 v1 hl_v
            replace v2 := cell_kept hb1 v2 hl_v
            replace v3 := cell_kept hb1 v3 hl_v
            replace v4 := cell_kept hb1 v4 hl_v
            replace v5 := cell_kept hb1 v5 hl_v
            replace Hb := Lib.hid (Hb.out.trans (hb1.mono hwl))
            replace Hb1 := Lib.hid (Hb1.out.trans (hb1.mono hwl1))
            replace Hb2 := Lib.hid (Hb2.out.trans (hb1.mono hwl2))
            replace hl_x := Nat.lt_of_lt_of_le hl_x hb1.size
            replace hl_y := Nat.lt_of_lt_of_le hl_y hb1.size
            replace hl_v := Nat.lt_of_lt_of_le hl_v hb1.size
            replace hwl := Nat.le_trans hwl hb1.size
            replace hwl1 := Nat.le_trans hwl1 hb1.size
            replace hwl2 := Nat.le_trans hwl2 hb1.size
            clear hb1
            by_cases hlt : k < r.sets.length
            case neg =>
              have hall := Hn.out.all (show r.sets.length ≤ k by omega)
              have htk : r.sets.take k = r.sets := List.take_of_length_le (by omega)
              have hnd := HD.out
              rw [htk] at hnd
              rw [hall, Bool.true_and, decide_eq_true hnd] at Hv
              clear hall htk hnd
              go_wp2
              go_ret
              exact ⟨ret_bool Hv.out.symm, Hb.out⟩
            have hlt' : (k : Int) < (r.sets.length : Int) := by omega
            obtain ⟨b1, o1, e1, hl_c, _, c0, c1, c2, c3, c4, c5, c6⟩ := SetD.out (Hr.out.h4.below RSetD.stab Hb.out) k hlt
            simp only at e1
            subst e1
            have hsuc := fun h => Hn.out.succ hlt h
            have hno := fun h => not_all (p := rsetIn s r) hlt h
            have htk : (r.sets.take (k + 1)).map (·.field) = (r.sets.take k).map (·.field) ++ [r.sets[k].field] := by rw [take_succ' hlt, List.map_append]; rfl
            have hdup : ∀ i (h : i < r.sets.length), i < k → r.sets[i].field = r.sets[k].field → ¬ (r.sets.map (·.field)).Nodup := fun i h hik he hnd => by
              have := (List.getElem_inj hnd (i := i) (j := k) (h₀ := by simpa using h) (h₁ := by simpa using hlt)).1 (by simpa using he)
              omega
            generalize hyk : r.sets[k] = y at *
            have Hsuc := Lib.hid hsuc
            have Hno := Lib.hid hno
            have Htk := Lib.hid htk
            have Hdup := Lib.hid hdup
            clear hsuc hno htk hdup hyk
            by_cases hi : 1 ≤ y.field ∧ y.field < x.fields.length
            case neg =>
              have hrf := Hset0.out y hi
              have Hre := Lib.hid (show rruleB s r = false by rw [Hv.out, Hno.out hrf]; rfl)
              have Hi := Lib.hid hi
              clear hrf hi
              by_cases h1 : y.field < 1
              · have e0 : decide (y.field < 1) = true := decide_eq_true h1
                clear h1
                go_wp2_with fail
                refine wp_region_grown (by kernel_rfl) (by kernel_rfl) ?_
                repeat (go_big_quiet_step (fail))
                refine wpQuiet_nil ?_
                intro w5 hw0
                have hb1 : Below wr.heap.size wr w5 := by obtain ⟨n, rfl⟩ := hw0; exact grown_below _ n
                clear hw0
                replace x0 := cell_kept hb1 x0 hl_x
                replace x1 := cell_kept hb1 x1 hl_x
                replace x2 := cell_kept hb1 x2 hl_x
                replace x3 := cell_kept hb1 x3 hl_x
                replace x4 := cell_kept hb1 x4 hl_x
                replace x5 := cell_kept hb1 x5 hl_x
                replace y0 := cell_kept hb1 y0 hl_y
                replace y1 := cell_kept hb1 y1 hl_y
                replace y2 := cell_kept hb1 y2 hl_y
                replace y3 := cell_kept hb1 y3 hl_y
                replace y4 := cell_kept hb1 y4 hl_y
                replace v0 := cell_kept hb1 v0 hl_v
                replace v1 := cell_kept hb1 v1 hl_v
                replace v2 := cell_kept hb1 v2 hl_v
                replace v3 := cell_kept hb1 v3 hl_v
                replace v4 := cell_kept hb1 v4 hl_v
                replace v5 := cell_kept hb1 v5 hl_v
                replace c0 := cell_kept hb1 c0 hl_c
                replace c1 := cell_kept hb1 c1 hl_c
                replace c2 := cell_kept hb1 c2 hl_c
                replace c3 := cell_kept hb1 c3 hl_c
                replace c4 := cell_kept hb1 c4 hl_c
                replace c5 := cell_kept hb1 c5 hl_c
                replace c6 := cell_kept hb1 c6 hl_c
                replace Hb := Lib.hid (Hb.out.trans (hb1.mono hwl))
                replace Hb1 := Lib.hid (Hb1.out.trans (hb1.mono hwl1))
                replace Hb2 := Lib.hid (Hb2.out.trans (hb1.mono hwl2))
                replace Hb3 := Lib.hid (Hb3.out.trans (hb1.mono hwl3))
                replace hl_x := Nat.lt_of_lt_of_le hl_x hb1.size
                replace hl_y := Nat.lt_of_lt_of_le hl_y hb1.size
                replace hl_v := Nat.lt_of_lt_of_le hl_v hb1.size
                replace hl_c := Nat.lt_of_lt_of_le hl_c hb1.size
                replace hwl := Nat.le_trans hwl hb1.size
                replace hwl1 := Nat.le_trans hwl1 hb1.size
                replace hwl2 := Nat.le_trans hwl2 hb1.size
                replace hwl3 := Nat.le_trans hwl3 hb1.size
                clear hb1
                go_wp2
                go_ret
                exact ⟨ret_bool Hre.out.symm, Hb.out⟩
              · have e0 : decide (y.field < 1) = false := decide_eq_false h1
                have e2 : decide ((x.fields.length : Int) ≤ y.field) = true := decide_eq_true (by have := Hi.out; omega)
                clear h1
                go_wp2_with fail
                refine wp_region_grown (by kernel_rfl) (by kernel_rfl) ?_
                repeat (go_big_quiet_step (fail))
                refine wpQuiet_nil ?_
                intro w5 hw0
                have hb1 : Below wr.heap.size wr w5 := by obtain ⟨n, rfl⟩ := hw0; exact grown_below _ n
                clear hw0
                replace x0 := cell_kept hb1 x0 hl_x
                replace x1 := cell_kept hb1 x1 hl_x
                replace x2 := cell_kept hb1 x2 hl_x
                replace x3 := cell_kept hb1 x3 hl_x
                replace x4 := cell_kept hb1 x4 hl_x
                replace x5 := cell_kept hb1 x5 hl_x
                replace y0 := cell_kept hb1 y0 hl_y
                replace y1 := cell_kept hb1 y1 hl_y
                replace y2 := cell_kept hb1 y2 hl_y
                replace y3 := cell_kept hb1 y3 hl_y
                replace y4 := cell_kept hb1 y4 hl_y
                replace v0 := cell_kept hb1 v0 hl_v
                replace v1 := cell_kept hb1 v1 hl_v
                replace v2 := cell_kept hb1 v2 hl_v
                replace v3 := cell_kept hb1 v3 hl_v
                replace v4 := cell_kept hb1 v4 hl_v
                replace v5 := cell_kept hb1 v5 hl_v
                replace c0 := cell_kept hb1 c0 hl_c
                replace c1 := cell_kept hb1 c1 hl_c
                replace c2 := cell_kept hb1 c2 hl_c
                replace c3 := cell_kept hb1 c3 hl_c
                replace c4 := cell_kept hb1 c4 hl_c
                replace c5 := cell_kept hb1 c5 hl_c
                replace c6 := cell_kept hb1 c6 hl_c
                replace Hb := Lib.hid (Hb.out.trans (hb1.mono hwl))
                replace Hb1 := Lib.hid (Hb1.out.trans (hb1.mono hwl1))
                replace Hb2 := Lib.hid (Hb2.out.trans (hb1.mono hwl2))
                replace Hb3 := Lib.hid (Hb3.out.trans (hb1.mono hwl3))
                replace hl_x := Nat.lt_of_lt_of_le hl_x hb1.size
                replace hl_y := Nat.lt_of_lt_of_le hl_y hb1.size
                replace hl_v := Nat.lt_of_lt_of_le hl_v hb1.size
                replace hl_c := Nat.lt_of_lt_of_le hl_c hb1.size
                replace hwl := Nat.le_trans hwl hb1.size
                replace hwl1 := Nat.le_trans hwl1 hb1.size
                replace hwl2 := Nat.le_trans hwl2 hb1.size
                replace hwl3 := Nat.le_trans hwl3 hb1.size
                clear hb1
                go_wp2
                go_ret
                exact ⟨ret_bool Hre.out.symm, Hb.out⟩
            obtain ⟨hi1, hi2⟩ := hi
            have hyl : y.field.toNat < x.fields.length := by omega
            have e0 : decide (y.field < 1) = false := decide_eq_false (by omega)
            have e2 : decide ((x.fields.length : Int) ≤ y.field) = false := decide_eq_false (by omega)
            obtain ⟨b2, o2, e3, hl_d, _, an, kn, d0, d1, d2, d3, d4, d5, d6, d7, d8, d9, d10, hnn⟩ := FieldD.out (Hff.out.below RFieldD.stab Hb3.out) y.field.toNat hyl
            subst e3
            have hrs := Hset1.out y hi1 hyl
            generalize x.fields[y.field.toNat] = fd at *
            have Hnn := Lib.hid hnn
            clear hnn
            have hy0 : (IntKind.i64.wrap 0 : Int) = 0 := rfl
            cases hsb2 : rsetIn s r y with
            | false =>
              rw [hsb2] at hrs
              replace hrs := Lib.hid hrs.symm
              have Hre := Lib.hid (show rruleB s r = false by rw [Hv.out, Hno.out hsb2]; rfl)
              clear hsb2
              go_wp2_with fail
              refine wp_region_grown (by kernel_rfl) (by kernel_rfl) ?_
              repeat (go_big_quiet_step (first | (go_at_call 66; exact calls_grown (rset_eq s ⟨a0, k0, a1, k1, some ⟨b, off, none⟩, k2, a3, k3, a4, k4, a5, k5⟩ r.froms f2 l2 y.term fd.ty an kn _ (Hs.out.below (Hb.out.trans ((grown_below _ _).mono hwl))) (Hr.out.h2.below RFromD.stab (Hb.out.trans ((grown_below _ _).mono hwl))) (Hnn.out.below RStr.stab (grown_below _ _)) hsh false hrs.out))))
              refine wpQuiet_nil ?_
              intro w5 hw0
              have hb1 : Below wr.heap.size wr w5 := by obtain ⟨n, rfl⟩ := hw0; exact grown_below _ n
              clear hw0
              replace x0 := cell_kept hb1 x0 hl_x
              replace x1 := cell_kept hb1 x1 hl_x
              replace x2 := cell_kept hb1 x2 hl_x
              replace x3 := cell_kept hb1 x3 hl_x
              replace x4 := cell_kept hb1 x4 hl_x
              replace x5 := cell_kept hb1 x5 hl_x
              replace y0 := cell_kept hb1 y0 hl_y
              replace y1 := cell_kept hb1 y1 hl_y
              replace y2 := cell_kept hb1 y2 hl_y
              replace y3 := cell_kept hb1 y3 hl_y
              replace y4 := cell_kept hb1 y4 hl_y
              replace v0 := cell_kept hb1 v0 hl_v
              replace v1 := cell_kept hb1 v1 hl_v
              replace v2 := cell_kept hb1 v2 hl_v
              replace v3 := cell_kept hb1 v3 hl_v
              replace v4 := cell_kept hb1 v4 hl_v
              replace v5 := cell_kept hb1 v5 hl_v
              replace c0 := cell_kept hb1 c0 hl_c
              replace c1 := cell_kept hb1 c1 hl_c
              replace c2 := cell_kept hb1 c2 hl_c
              replace c3 := cell_kept hb1 c3 hl_c
              replace c4 := cell_kept hb1 c4 hl_c
              replace c5 := cell_kept hb1 c5 hl_c
              replace c6 := cell_kept hb1 c6 hl_c
              replace d0 := cell_kept hb1 d0 hl_d
              replace d1 := cell_kept hb1 d1 hl_d
              replace d2 := cell_kept hb1 d2 hl_d
              replace d3 := cell_kept hb1 d3 hl_d
              replace d4 := cell_kept hb1 d4 hl_d
              replace d5 := cell_kept hb1 d5 hl_d
              replace d6 := cell_kept hb1 d6 hl_d
              replace d7 := cell_kept hb1 d7 hl_d
              replace d8 := cell_kept hb1 d8 hl_d
              replace d9 := cell_kept hb1 d9 hl_d
              replace d10 := cell_kept hb1 d10 hl_d
              replace Hb := Lib.hid (Hb.out.trans (hb1.mono hwl))
              replace Hb1 := Lib.hid (Hb1.out.trans (hb1.mono hwl1))
              replace Hb2 := Lib.hid (Hb2.out.trans (hb1.mono hwl2))
              replace Hb3 := Lib.hid (Hb3.out.trans (hb1.mono hwl3))
              replace hl_x := Nat.lt_of_lt_of_le hl_x hb1.size
              replace hl_y := Nat.lt_of_lt_of_le hl_y hb1.size
              replace hl_v := Nat.lt_of_lt_of_le hl_v hb1.size
              replace hl_c := Nat.lt_of_lt_of_le hl_c hb1.size
              replace hl_d := Nat.lt_of_lt_of_le hl_d hb1.size
              replace hwl := Nat.le_trans hwl hb1.size
              replace hwl1 := Nat.le_trans hwl1 hb1.size
              replace hwl2 := Nat.le_trans hwl2 hb1.size
              replace hwl3 := Nat.le_trans hwl3 hb1.size
              clear hb1
              go_wp2
              go_ret
              exact ⟨ret_bool Hre.out.symm, Hb.out⟩
            | true =>
              rw [hsb2] at hrs
              replace hrs := Lib.hid hrs.symm
              have Hsb2 := Lib.hid hsb2
              clear hsb2
              go_wp2_with fail
              refine wp_region_grown (by kernel_rfl) (by kernel_rfl) ?_
              repeat (go_big_quiet_step (first | (go_at_call 66; exact calls_grown (rset_eq s ⟨a0, k0, a1, k1, some ⟨b, off, none⟩, k2, a3, k3, a4, k4, a5, k5⟩ r.froms f2 l2 y.term fd.ty an kn _ (Hs.out.below (Hb.out.trans ((grown_below _ _).mono hwl))) (Hr.out.h2.below RFromD.stab (Hb.out.trans ((grown_below _ _).mono hwl))) (Hnn.out.below RStr.stab (grown_below _ _)) hsh true hrs.out))))
              refine wpQuiet_nil ?_
              intro w5 hw0
              have hb1 : Below wr.heap.size wr w5 := by obtain ⟨n, rfl⟩ := hw0; exact grown_below _ n
              clear hw0
              replace x0 := cell_kept hb1 x0 hl_x
              replace x1 := cell_kept hb1 x1 hl_x
              replace x2 := cell_kept hb1 x2 hl_x
              replace x3 := cell_kept hb1 x3 hl_x
              replace x4 := cell_kept hb1 x4 hl_x
              replace x5 := cell_kept hb1 x5 hl_x
              replace y0 := cell_kept hb1 y0 hl_y
              replace y1 := cell_kept hb1 y1 hl_y
              replace y2 := cell_kept hb1 y2 hl_y
              replace y3 := cell_kept hb1 y3 hl_y
              replace y4 := cell_kept hb1 y4 hl_y
              replace v0 := cell_kept hb1 v0 hl_v
              replace v1 := cell_kept hb1 v1 hl_v
              replace v2 := cell_kept hb1 v2 hl_v
              replace v3 := cell_kept hb1 v3 hl_v
              replace v4 := cell_kept hb1 v4 hl_v
              replace v5 := cell_kept hb1 v5 hl_v
              replace c0 := cell_kept hb1 c0 hl_c
              replace c1 := cell_kept hb1 c1 hl_c
              replace c2 := cell_kept hb1 c2 hl_c
              replace c3 := cell_kept hb1 c3 hl_c
              replace c4 := cell_kept hb1 c4 hl_c
              replace c5 := cell_kept hb1 c5 hl_c
              replace c6 := cell_kept hb1 c6 hl_c
              replace d0 := cell_kept hb1 d0 hl_d
              replace d1 := cell_kept hb1 d1 hl_d
              replace d2 := cell_kept hb1 d2 hl_d
              replace d3 := cell_kept hb1 d3 hl_d
              replace d4 := cell_kept hb1 d4 hl_d
              replace d5 := cell_kept hb1 d5 hl_d
              replace d6 := cell_kept hb1 d6 hl_d
              replace d7 := cell_kept hb1 d7 hl_d
              replace d8 := cell_kept hb1 d8 hl_d
              replace d9 := cell_kept hb1 d9 hl_d
              replace d10 := cell_kept hb1 d10 hl_d
              replace Hb := Lib.hid (Hb.out.trans (hb1.mono hwl))
              replace Hb1 := Lib.hid (Hb1.out.trans (hb1.mono hwl1))
              replace Hb2 := Lib.hid (Hb2.out.trans (hb1.mono hwl2))
              replace Hb3 := Lib.hid (Hb3.out.trans (hb1.mono hwl3))
              replace hl_x := Nat.lt_of_lt_of_le hl_x hb1.size
              replace hl_y := Nat.lt_of_lt_of_le hl_y hb1.size
              replace hl_v := Nat.lt_of_lt_of_le hl_v hb1.size
              replace hl_c := Nat.lt_of_lt_of_le hl_c hb1.size
              replace hl_d := Nat.lt_of_lt_of_le hl_d hb1.size
              replace hwl := Nat.le_trans hwl hb1.size
              replace hwl1 := Nat.le_trans hwl1 hb1.size
              replace hwl2 := Nat.le_trans hwl2 hb1.size
              replace hwl3 := Nat.le_trans hwl3 hb1.size
              clear hb1
              clear hrs d0 d1 d2 d3 d4 d5 d6 d7 d8 d9 d10 hl_d Hnn e0 e2 hx
              go_wp2_with fail
              go_loopw [10] (fun i wr => ∃ j : Nat, j ≤ k ∧ i = .int .i64 j ∧ Hid (∀ i (h : i < r.sets.length), i < j → r.sets[i].field ≠ y.field) ∧ Below w5.heap.size w5 wr) (fun i _ => k - (intOf i).toNat)
              case atStart => exact ⟨0, Nat.zero_le _, rfl, Lib.hid (fun i h hi => absurd hi (Nat.not_lt_zero i)), Below.refl _ _⟩
              case round =>
                obtain ⟨j, hj, rfl, HQ, hb1⟩ := hrel
                have Hb4 := Lib.hid hb1
                have hwl4 := hb1.size
                replace x0 := cell_kept hb1 x0 hl_x
                replace x1 := cell_kept hb1 x1 hl_x
                replace x2 := cell_kept hb1 x2 hl_x
                replace x3 := cell_kept hb1 x3 hl_x
                replace x4 := cell_kept hb1 x4 hl_x
                replace x5 := cell_kept hb1 x5 hl_x
                replace y0 := cell_kept hb1 y0 hl_y
                replace y1 := cell_kept hb1 y1 hl_y
                replace y2 := cell_kept hb1 y2 hl_y
                replace y3 := cell_kept hb1 y3 hl_y
                replace y4 := cell_kept hb1 y4 hl_y
                replace v0 := cell_kept hb1 v0 hl_v
                replace v1 := cell_kept hb1 v1 hl_v
                replace v2 := cell_kept hb1 v2 hl_v
                replace v3 := cell_kept hb1 v3 hl_v
                replace v4 := cell_kept hb1 v4 hl_v
                replace v5 := cell_kept hb1 v5 hl_v
                replace Hb := Lib.hid (Hb.out.trans (hb1.mono hwl))
                replace Hb1 := Lib.hid (Hb1.out.trans (hb1.mono hwl1))
                replace Hb2 := Lib.hid (Hb2.out.trans (hb1.mono hwl2))
                replace Hb3 := Lib.hid (Hb3.out.trans (hb1.mono hwl3))
                replace hl_x := Nat.lt_of_lt_of_le hl_x hb1.size
                replace hl_y := Nat.lt_of_lt_of_le hl_y hb1.size
                replace hl_v := Nat.lt_of_lt_of_le hl_v hb1.size
                replace hwl := Nat.le_trans hwl hb1.size
                replace hwl1 := Nat.le_trans hwl1 hb1.size
                replace hwl2 := Nat.le_trans hwl2 hb1.size
                replace hwl3 := Nat.le_trans hwl3 hb1.size
                clear hb1
                by_cases hlj : j < k
                case pos =>
                  have hlj' : (j : Int) < (k : Int) := by omega
                  have hjs : j < r.sets.length := by omega
                  obtain ⟨b3, o3, e3, hl_g, _, g0, g1, g2, g3, g4, g5, g6⟩ := SetD.out (Hr.out.h4.below RSetD.stab Hb.out) j hjs
                  simp only [Option.some.injEq, Addr.mk.injEq, and_true] at e3
                  obtain ⟨rfl, rfl⟩ := e3
                  have hdj := Hdup.out j hjs hlj
                  have hqs : r.sets[j].field ≠ y.field → ∀ i (h : i < r.sets.length), i < j + 1 → r.sets[i].field ≠ y.field := fun hne i h hi => by
                    by_cases e : i = j
                    · subst e; exact hne
                    · exact HQ.out i h (by omega)
                  generalize r.sets[j] = z at *
                  by_cases hz : z.field = y.field
                  · have q0 : (z.field == y.field) = true := by simpa using hz
                    have Hre := Lib.hid (show rruleB s r = false by rw [Hv.out, decide_eq_false (hdj hz), Bool.and_false])
                    clear hz hdj hqs
                    go_wp2_with fail
                    all_goals (try (exfalso; simp at *; omega))
                    all_goals go_ret
                    all_goals exact ⟨ret_bool Hre.out.symm, Hb.out⟩
                  · have q0 : (z.field == y.field) = false := by simpa using hz
                    have Hqs := Lib.hid (hqs hz)
                    clear hz hdj hqs
                    go_wp2_with fail
                    all_goals (try (exfalso; simp at *; omega))
                    go_roundw
                    case rel => exact ⟨j + 1, by omega, by go_num, Hqs, Hb4.out⟩
                    case measure => simp [intOf]; omega
                case neg =>
                  have hjk : j = k := by omega
                  subst hjk
                  go_wp2_with fail
                  all_goals (try (exfalso; simp at *; omega))
                  go_roundw
                  case rel => exact ⟨j + 1, by omega, by go_num, Lib.hid (Hsuc.out Hsb2.out), Lib.hid (by
                    rw [Htk.out, List.nodup_append]
                    refine ⟨HD.out, by simp, fun a ha b hb => ?_⟩
                    simp only [List.mem_singleton] at hb
                    subst hb
                    obtain ⟨i, hi, rfl⟩ := List.getElem_of_mem ha
                    simp only [List.length_map, List.length_take] at hi
                    simp only [List.getElem_map, List.getElem_take]
                    exact HQ.out i (by omega) (by omega)), Hb3.out⟩
                  case measure => simp [intOf]; omega
end Go.Proofs.Ytogenjbabgibbaa
