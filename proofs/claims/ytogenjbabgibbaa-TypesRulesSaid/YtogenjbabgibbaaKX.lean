import Derived.Test.YtogenjbabgibbaaKS
namespace Go.Proofs.Ytogenjbabgibbaa
open Go.RowKit
def headLen (s : SourceD) (n : Int) : Int := match s.schemas[n.toNat]? with | some x => x.fields.length | none => 0
def setIn (s : SourceD) (r : RuleD) (x : SetD) : Bool := match typeOf? s r.schema x.field with | some fd => !decide (x.field = 0) && setB s r.froms fd x.term | none => false
def ruleB (s : SourceD) (r : RuleD) : Bool :=
  fromsB s r.froms && (decide (r.where_.length ≤ 8) && (r.where_.all (atomB s r.froms) && (schIn s r.schema && (decide ((r.sets.length : Int) = headLen s r.schema - 1) && (r.sets.all (setIn s r) && decide (r.sets.map (·.field)).Nodup)))))
def ShortF (s : SourceD) : Prop := ∀ x ∈ s.schemas, x.fields.length ≤ 100000
def encI (n : Int) : List Value := [.int .i64 n]
theorem encI_len (n : Int) : (encI n).length = 1 := rfl
theorem info3 : (Try.prog.info? 3).map (fun i => (i.zero, i.size, i.bytes)) = some (some (.int .i64 0), 1, 8) := by kernel_rfl
set_option maxRecDepth 20000 in
set_option maxHeartbeats 8000000 in
theorem ruleOK_any (s : SourceD) (p : SrcAt) (r : RuleD) (q : RuleAt) (wb : World) (hs : Src wb s p) (hr : Rul wb r q) (w : World) (hbb : Below wb.heap.size wb w) (hsh : Short s) (hgd : Good s) (hsf : ShortF s) :
    Calls Try.prog 25 #[rcVal s p r q] w fun e w' => e = .returned (.bool (ruleB s r)) ∧ Below w.heap.size w w' := by
  have Hs := Lib.hid hs
  have Hr := Lib.hid hr
  have Hbb := Lib.hid hbb
  clear hs hr hbb
  obtain ⟨a0, k0, a1, k1, a2, k2, a3, k3, a4, k4, a5, k5⟩ := p
  obtain ⟨f2, l2, f3, l3, f4, l4⟩ := q
  cases hfr : fromsB s r.froms with
  | false =>
    have Hfr := Lib.hid hfr
    clear hfr
    go_enter Try.func25, Try.ntmps25
    go_wp2_with fail
    generalize hw0 : World.alloc _ _ = w0
    obtain ⟨X0, hsz, hb0⟩ := blk1 hw0
    have x0 : w0.cell? ⟨w.heap.size, 0, none⟩ = some (.slice a0 s.issuers.length k0) := X0.cell 0
    have x1 : w0.cell? ⟨w.heap.size, 1, none⟩ = some (.slice a1 s.units.length k1) := X0.cell 1
    have x2 : w0.cell? ⟨w.heap.size, 2, none⟩ = some (.slice a2 s.schemas.length k2) := X0.cell 2
    have x3 : w0.cell? ⟨w.heap.size, 3, none⟩ = some (.slice a3 s.rules.length k3) := X0.cell 3
    have x4 : w0.cell? ⟨w.heap.size, 4, none⟩ = some (.slice a4 s.converts k4) := X0.cell 4
    have x5 : w0.cell? ⟨w.heap.size, 5, none⟩ = some (.slice a5 s.purposes.length k5) := X0.cell 5
    have x6 : w0.cell? ⟨w.heap.size, 6, none⟩ = some (.string r.head) := X0.cell 6
    have x7 : w0.cell? ⟨w.heap.size, 7, none⟩ = some (.int .i64 r.schema) := X0.cell 7
    have x8 : w0.cell? ⟨w.heap.size, 8, none⟩ = some (.slice f2 r.froms.length l2) := X0.cell 8
    have x9 : w0.cell? ⟨w.heap.size, 9, none⟩ = some (.slice f3 r.where_.length l3) := X0.cell 9
    have x10 : w0.cell? ⟨w.heap.size, 10, none⟩ = some (.slice f4 r.sets.length l4) := X0.cell 10
    have hl_x : w.heap.size < w0.heap.size := by omega
    have hwl : w.heap.size ≤ w0.heap.size := hb0.size
    have Hb := Lib.hid hb0
    clear hw0 hb0 hsz X0
    refine (fromsOK_any s ⟨a0, k0, a1, k1, a2, k2, a3, k3, a4, k4, a5, k5⟩ r ⟨f2, l2, f3, l3, f4, l4⟩ wb Hs.out Hr.out _ (Hbb.out.trans (Hb.out.mono Hbb.out.size))).mono ?_
    rintro e w1 ⟨rfl, hb1⟩
    rw [Hfr.out]
    replace x0 := cell_kept hb1 x0 hl_x
    replace x1 := cell_kept hb1 x1 hl_x
    replace x2 := cell_kept hb1 x2 hl_x
    replace x3 := cell_kept hb1 x3 hl_x
    replace x4 := cell_kept hb1 x4 hl_x
    replace x5 := cell_kept hb1 x5 hl_x
    replace x6 := cell_kept hb1 x6 hl_x
    replace x7 := cell_kept hb1 x7 hl_x
    replace x8 := cell_kept hb1 x8 hl_x
    replace x9 := cell_kept hb1 x9 hl_x
    replace x10 := cell_kept hb1 x10 hl_x
    replace Hb := Lib.hid (Hb.out.trans (hb1.mono hwl))
    replace hl_x := Nat.lt_of_lt_of_le hl_x hb1.size
    replace hwl := Nat.le_trans hwl hb1.size
    clear hb1
    go_wp2
    go_ret
    exact ⟨ret_bool (by simp [ruleB, Hfr.out]), Hb.out⟩
  | true =>
  have Hfr := Lib.hid hfr
  clear hfr
  by_cases hw8 : r.where_.length ≤ 8
  case neg =>
    have hw8' : (8 : Int) < (r.where_.length : Int) := by omega
    go_enter Try.func25, Try.ntmps25
    go_wp2_with fail
    generalize hw0 : World.alloc _ _ = w0
    obtain ⟨X0, hsz, hb0⟩ := blk1 hw0
    have x0 : w0.cell? ⟨w.heap.size, 0, none⟩ = some (.slice a0 s.issuers.length k0) := X0.cell 0
    have x1 : w0.cell? ⟨w.heap.size, 1, none⟩ = some (.slice a1 s.units.length k1) := X0.cell 1
    have x2 : w0.cell? ⟨w.heap.size, 2, none⟩ = some (.slice a2 s.schemas.length k2) := X0.cell 2
    have x3 : w0.cell? ⟨w.heap.size, 3, none⟩ = some (.slice a3 s.rules.length k3) := X0.cell 3
    have x4 : w0.cell? ⟨w.heap.size, 4, none⟩ = some (.slice a4 s.converts k4) := X0.cell 4
    have x5 : w0.cell? ⟨w.heap.size, 5, none⟩ = some (.slice a5 s.purposes.length k5) := X0.cell 5
    have x6 : w0.cell? ⟨w.heap.size, 6, none⟩ = some (.string r.head) := X0.cell 6
    have x7 : w0.cell? ⟨w.heap.size, 7, none⟩ = some (.int .i64 r.schema) := X0.cell 7
    have x8 : w0.cell? ⟨w.heap.size, 8, none⟩ = some (.slice f2 r.froms.length l2) := X0.cell 8
    have x9 : w0.cell? ⟨w.heap.size, 9, none⟩ = some (.slice f3 r.where_.length l3) := X0.cell 9
    have x10 : w0.cell? ⟨w.heap.size, 10, none⟩ = some (.slice f4 r.sets.length l4) := X0.cell 10
    have hl_x : w.heap.size < w0.heap.size := by omega
    have hwl : w.heap.size ≤ w0.heap.size := hb0.size
    have Hb := Lib.hid hb0
    clear hw0 hb0 hsz X0
    refine (fromsOK_any s ⟨a0, k0, a1, k1, a2, k2, a3, k3, a4, k4, a5, k5⟩ r ⟨f2, l2, f3, l3, f4, l4⟩ wb Hs.out Hr.out _ (Hbb.out.trans (Hb.out.mono Hbb.out.size))).mono ?_
    rintro e w1 ⟨rfl, hb1⟩
    rw [Hfr.out]
    replace x0 := cell_kept hb1 x0 hl_x
    replace x1 := cell_kept hb1 x1 hl_x
    replace x2 := cell_kept hb1 x2 hl_x
    replace x3 := cell_kept hb1 x3 hl_x
    replace x4 := cell_kept hb1 x4 hl_x
    replace x5 := cell_kept hb1 x5 hl_x
    replace x6 := cell_kept hb1 x6 hl_x
    replace x7 := cell_kept hb1 x7 hl_x
    replace x8 := cell_kept hb1 x8 hl_x
    replace x9 := cell_kept hb1 x9 hl_x
    replace x10 := cell_kept hb1 x10 hl_x
    replace Hb := Lib.hid (Hb.out.trans (hb1.mono hwl))
    replace hl_x := Nat.lt_of_lt_of_le hl_x hb1.size
    replace hwl := Nat.le_trans hwl hb1.size
    clear hb1
    go_wp2
    go_ret
    exact ⟨ret_bool (by simp [ruleB, hw8]), Hb.out⟩
  have Hv := Lib.hid (show ruleB s r = (r.where_.all (atomB s r.froms) && (schIn s r.schema && (decide ((r.sets.length : Int) = headLen s r.schema - 1) && (r.sets.all (setIn s r) && decide (r.sets.map (·.field)).Nodup)))) by simp [ruleB, Hfr.out, hw8])
  obtain ⟨i0, hi, hz0, hz1, hz2⟩ := info_split info3
  go_enter Try.func25, Try.ntmps25
  go_wp2_with fail
  generalize hw0 : World.alloc _ _ = w0
  obtain ⟨X0, hsz, hb0⟩ := blk1 hw0
  have x0 : w0.cell? ⟨w.heap.size, 0, none⟩ = some (.slice a0 s.issuers.length k0) := X0.cell 0
  have x1 : w0.cell? ⟨w.heap.size, 1, none⟩ = some (.slice a1 s.units.length k1) := X0.cell 1
  have x2 : w0.cell? ⟨w.heap.size, 2, none⟩ = some (.slice a2 s.schemas.length k2) := X0.cell 2
  have x3 : w0.cell? ⟨w.heap.size, 3, none⟩ = some (.slice a3 s.rules.length k3) := X0.cell 3
  have x4 : w0.cell? ⟨w.heap.size, 4, none⟩ = some (.slice a4 s.converts k4) := X0.cell 4
  have x5 : w0.cell? ⟨w.heap.size, 5, none⟩ = some (.slice a5 s.purposes.length k5) := X0.cell 5
  have x6 : w0.cell? ⟨w.heap.size, 6, none⟩ = some (.string r.head) := X0.cell 6
  have x7 : w0.cell? ⟨w.heap.size, 7, none⟩ = some (.int .i64 r.schema) := X0.cell 7
  have x8 : w0.cell? ⟨w.heap.size, 8, none⟩ = some (.slice f2 r.froms.length l2) := X0.cell 8
  have x9 : w0.cell? ⟨w.heap.size, 9, none⟩ = some (.slice f3 r.where_.length l3) := X0.cell 9
  have x10 : w0.cell? ⟨w.heap.size, 10, none⟩ = some (.slice f4 r.sets.length l4) := X0.cell 10
  have hl_x : w.heap.size < w0.heap.size := by omega
  have hwl : w.heap.size ≤ w0.heap.size := hb0.size
  have Hb := Lib.hid hb0
  clear hw0 hb0 hsz X0
  refine (fromsOK_any s ⟨a0, k0, a1, k1, a2, k2, a3, k3, a4, k4, a5, k5⟩ r ⟨f2, l2, f3, l3, f4, l4⟩ wb Hs.out Hr.out _ (Hbb.out.trans (Hb.out.mono Hbb.out.size))).mono ?_
  rintro e w1 ⟨rfl, hb1⟩
  rw [Hfr.out]
  replace x0 := cell_kept hb1 x0 hl_x
  replace x1 := cell_kept hb1 x1 hl_x
  replace x2 := cell_kept hb1 x2 hl_x
  replace x3 := cell_kept hb1 x3 hl_x
  replace x4 := cell_kept hb1 x4 hl_x
  replace x5 := cell_kept hb1 x5 hl_x
  replace x6 := cell_kept hb1 x6 hl_x
  replace x7 := cell_kept hb1 x7 hl_x
  replace x8 := cell_kept hb1 x8 hl_x
  replace x9 := cell_kept hb1 x9 hl_x
  replace x10 := cell_kept hb1 x10 hl_x
  replace Hb := Lib.hid (Hb.out.trans (hb1.mono hwl))
  replace hl_x := Nat.lt_of_lt_of_le hl_x hb1.size
  replace hwl := Nat.le_trans hwl hb1.size
  clear hb1
  go_wp2_with fail
  all_goals (try (exfalso; omega))
  go_loopw [25] (fun i wr => ∃ k : Nat, k ≤ r.where_.length ∧ i = .int .i64 k ∧ Hid (PreP (atomB s r.froms) r.where_ k) ∧ Below w1.heap.size w1 wr) (fun i _ => r.where_.length - (intOf i).toNat)
  case atStart => exact ⟨0, Nat.zero_le _, rfl, Lib.hid PreP.zero, Below.refl _ _⟩
  case round =>
    obtain ⟨k, hk, rfl, Hn, hb1⟩ := hrel
    have Hb1 := Lib.hid hb1
    have hwl1 := hb1.size
    replace x0 := cell_kept hb1 x0 hl_x
    replace x1 := cell_kept hb1 x1 hl_x
    replace x2 := cell_kept hb1 x2 hl_x
    replace x3 := cell_kept hb1 x3 hl_x
    replace x4 := cell_kept hb1 x4 hl_x
    replace x5 := cell_kept hb1 x5 hl_x
    replace x6 := cell_kept hb1 x6 hl_x
    replace x7 := cell_kept hb1 x7 hl_x
    replace x8 := cell_kept hb1 x8 hl_x
    replace x9 := cell_kept hb1 x9 hl_x
    replace x10 := cell_kept hb1 x10 hl_x
    replace Hb := Lib.hid (Hb.out.trans (hb1.mono hwl))
    replace hl_x := Nat.lt_of_lt_of_le hl_x hb1.size
    replace hwl := Nat.le_trans hwl hb1.size
    clear hb1
    by_cases hlt : k < r.where_.length
    case pos =>
      have hlt' : (k : Int) < (r.where_.length : Int) := by omega
      obtain ⟨b, off, e1, hl_c, _, c0, c1, c2, c3, c4, c5, c6, c7, c8, c9, c10⟩ := AtomD.out (((Hr.out.below Hbb.out).h3).below RAtomD.stab Hb.out) k hlt
      simp only at e1
      subst e1
      have hsuc := fun h => Hn.out.succ hlt h
      have hno := fun h => not_all (p := atomB s r.froms) hlt h
      generalize r.where_[k] = m at *
      have Hsuc := Lib.hid hsuc
      have Hno := Lib.hid hno
      clear hsuc hno
      go_wp2_with fail
      generalize hw0 : World.alloc _ _ = w2
      obtain ⟨X0, hsz, hb1⟩ := blk1 hw0
      have v0 : w2.cell? ⟨wr.heap.size, 0, none⟩ = some (.int .i64 m.op) := X0.cell 0
      have v1 : w2.cell? ⟨wr.heap.size, 1, none⟩ = some (.string m.a.name) := X0.cell 1
      have v2 : w2.cell? ⟨wr.heap.size, 2, none⟩ = some (.string m.a.path) := X0.cell 2
      have v3 : w2.cell? ⟨wr.heap.size, 3, none⟩ = some (.int .i64 m.a.var) := X0.cell 3
      have v4 : w2.cell? ⟨wr.heap.size, 4, none⟩ = some (.int .i64 m.a.field) := X0.cell 4
      have v5 : w2.cell? ⟨wr.heap.size, 5, none⟩ = some (.int .i64 m.a.n) := X0.cell 5
      have v6 : w2.cell? ⟨wr.heap.size, 6, none⟩ = some (.string m.b.name) := X0.cell 6
      have v7 : w2.cell? ⟨wr.heap.size, 7, none⟩ = some (.string m.b.path) := X0.cell 7
      have v8 : w2.cell? ⟨wr.heap.size, 8, none⟩ = some (.int .i64 m.b.var) := X0.cell 8
      have v9 : w2.cell? ⟨wr.heap.size, 9, none⟩ = some (.int .i64 m.b.field) := X0.cell 9
      have v10 : w2.cell? ⟨wr.heap.size, 10, none⟩ = some (.int .i64 m.b.n) := X0.cell 10
      have hl_v : wr.heap.size < w2.heap.size := by omega
      replace x0 := cell_kept hb1 x0 hl_x
      replace x1 := cell_kept hb1 x1 hl_x
      replace x2 := cell_kept hb1 x2 hl_x
      replace x3 := cell_kept hb1 x3 hl_x
      replace x4 := cell_kept hb1 x4 hl_x
      replace x5 := cell_kept hb1 x5 hl_x
      replace x6 := cell_kept hb1 x6 hl_x
      replace x7 := cell_kept hb1 x7 hl_x
      replace x8 := cell_kept hb1 x8 hl_x
      replace x9 := cell_kept hb1 x9 hl_x
      replace x10 := cell_kept hb1 x10 hl_x
      replace c0 := cell_kept hb1 c0 hl_c
      replace c1 := cell_kept hb1 c1 hl_c
      replace c2 := cell_kept hb1 c2 hl_c
      replace c3 := cell_kept hb1 c3 hl_c
      replace c4 := cell_kept hb1 c4 hl_c
      replace c5 := cell_kept hb1 c5 hl_c
      replace c6 := cell_kept hb1 c6 hl_c
      replace c7 := cell_kept hb1 c7 hl_c
      replace c8 := cell_kept hb1 c8 hl_c
      replace c9 := cell_kept hb1 c9 hl_c
      replace c10 := cell_kept hb1 c10 hl_c
      replace Hb := Lib.hid (Hb.out.trans (hb1.mono hwl))
      replace Hb1 := Lib.hid (Hb1.out.trans (hb1.mono hwl1))
      replace hl_x := Nat.lt_of_lt_of_le hl_x hb1.size
      replace hl_c := Nat.lt_of_lt_of_le hl_c hb1.size
      replace hwl := Nat.le_trans hwl hb1.size
      replace hwl1 := Nat.le_trans hwl1 hb1.size
      clear hb1
      clear hw0 hsz X0
      refine (atomOK_any s ⟨a0, k0, a1, k1, a2, k2, a3, k3, a4, k4, a5, k5⟩ r ⟨f2, l2, some ⟨b, off, none⟩, l3, f4, l4⟩ m wb Hs.out Hr.out _ (Hbb.out.trans (Hb.out.mono Hbb.out.size)) hsh hgd).mono ?_
      rintro e w3 ⟨rfl, hb1⟩
      replace x0 := cell_kept hb1 x0 hl_x
      replace x1 := cell_kept hb1 x1 hl_x
      replace x2 := cell_kept hb1 x2 hl_x
      replace x3 := cell_kept hb1 x3 hl_x
      replace x4 := cell_kept hb1 x4 hl_x
      replace x5 := cell_kept hb1 x5 hl_x
      replace x6 := cell_kept hb1 x6 hl_x
      replace x7 := cell_kept hb1 x7 hl_x
      replace x8 := cell_kept hb1 x8 hl_x
      replace x9 := cell_kept hb1 x9 hl_x
      replace x10 := cell_kept hb1 x10 hl_x
      replace v0 := cell_kept hb1 v0 hl_v
      replace v1 := cell_kept hb1 v1 hl_v
      replace v2 := cell_kept hb1 v2 hl_v
      replace v3 := cell_kept hb1 v3 hl_v
      replace v4 := cell_kept hb1 v4 hl_v
      replace v5 := cell_kept hb1 v5 hl_v
      replace v6 := cell_kept hb1 v6 hl_v
      replace v7 := cell_kept hb1 v7 hl_v
      replace v8 := cell_kept hb1 v8 hl_v
      replace v9 := cell_kept hb1 v9 hl_v
      replace v10 := cell_kept hb1 v10 hl_v
      replace Hb := Lib.hid (Hb.out.trans (hb1.mono hwl))
      replace Hb1 := Lib.hid (Hb1.out.trans (hb1.mono hwl1))
      replace hl_x := Nat.lt_of_lt_of_le hl_x hb1.size
      replace hl_v := Nat.lt_of_lt_of_le hl_v hb1.size
      replace hwl := Nat.le_trans hwl hb1.size
      replace hwl1 := Nat.le_trans hwl1 hb1.size
      clear hb1
      cases hab : atomB s r.froms m with
      | false =>
        go_wp2
        go_ret
        exact ⟨ret_bool (by rw [Hv.out, Hno.out hab]; rfl), Hb.out⟩
      | true =>
        go_wp2_with fail
        go_roundw
        case rel => exact ⟨k + 1, by omega, by go_num, Lib.hid (Hsuc.out hab), Hb1.out⟩
        case measure => simp [intOf]; omega
    case neg =>
      have hall := Hn.out.all (show r.where_.length ≤ k by omega)
      rw [hall, Bool.true_and] at Hv
      clear hall Hn
      by_cases hsi : 0 ≤ r.schema ∧ r.schema < s.schemas.length
      case neg =>
        have Hsi := Lib.hid hsi
        have Hr0 := Lib.hid (show ruleB s r = false by rw [Hv.out]; have := Hsi.out; simp [schIn]; intros; omega)
        clear hsi
        by_cases hs0 : r.schema < 0
        · have e0 : decide (r.schema < 0) = true := decide_eq_true hs0
          clear hs0
          go_wp2_with fail
          refine wp_region_grown (by kernel_rfl) (by kernel_rfl) ?_
          repeat (go_big_quiet_step (fail))
          refine wpQuiet_nil ?_
          intro w5 hw0
          have hb1 : Below wr.heap.size wr w5 := by obtain ⟨n, rfl⟩ := hw0; exact grown_below _ n
          clear hw0
          replace x0 := cell_kept hb1 x0 hl_x
          replace x1 := cell_kept hb1 x1 hl_x
          replace x2 := cell_kept hb1 x2 hl_x
          replace x3 := cell_kept hb1 x3 hl_x
          replace x4 := cell_kept hb1 x4 hl_x
          replace x5 := cell_kept hb1 x5 hl_x
          replace x6 := cell_kept hb1 x6 hl_x
          replace x7 := cell_kept hb1 x7 hl_x
          replace x8 := cell_kept hb1 x8 hl_x
          replace x9 := cell_kept hb1 x9 hl_x
          replace x10 := cell_kept hb1 x10 hl_x
          replace Hb := Lib.hid (Hb.out.trans (hb1.mono hwl))
          replace Hb1 := Lib.hid (Hb1.out.trans (hb1.mono hwl1))
          replace hl_x := Nat.lt_of_lt_of_le hl_x hb1.size
          replace hwl := Nat.le_trans hwl hb1.size
          replace hwl1 := Nat.le_trans hwl1 hb1.size
          clear hb1
          go_wp2
          go_ret
          exact ⟨ret_bool Hr0.out.symm, Hb.out⟩
        · have e0 : decide (r.schema < 0) = false := decide_eq_false hs0
          have e2 : decide ((s.schemas.length : Int) ≤ r.schema) = true := decide_eq_true (by have := Hsi.out; omega)
          clear hs0
          go_wp2_with fail
          refine wp_region_grown (by kernel_rfl) (by kernel_rfl) ?_
          repeat (go_big_quiet_step (fail))
          refine wpQuiet_nil ?_
          intro w5 hw0
          have hb1 : Below wr.heap.size wr w5 := by obtain ⟨n, rfl⟩ := hw0; exact grown_below _ n
          clear hw0
          replace x0 := cell_kept hb1 x0 hl_x
          replace x1 := cell_kept hb1 x1 hl_x
          replace x2 := cell_kept hb1 x2 hl_x
          replace x3 := cell_kept hb1 x3 hl_x
          replace x4 := cell_kept hb1 x4 hl_x
          replace x5 := cell_kept hb1 x5 hl_x
          replace x6 := cell_kept hb1 x6 hl_x
          replace x7 := cell_kept hb1 x7 hl_x
          replace x8 := cell_kept hb1 x8 hl_x
          replace x9 := cell_kept hb1 x9 hl_x
          replace x10 := cell_kept hb1 x10 hl_x
          replace Hb := Lib.hid (Hb.out.trans (hb1.mono hwl))
          replace Hb1 := Lib.hid (Hb1.out.trans (hb1.mono hwl1))
          replace hl_x := Nat.lt_of_lt_of_le hl_x hb1.size
          replace hwl := Nat.le_trans hwl hb1.size
          replace hwl1 := Nat.le_trans hwl1 hb1.size
          clear hb1
          go_wp2
          go_ret
          exact ⟨ret_bool Hr0.out.symm, Hb.out⟩
      have hsin : schIn s r.schema = true := by simp [schIn, hsi]
      rw [hsin, Bool.true_and] at Hv
      obtain ⟨hs0, hs1⟩ := hsi
      have e0 : decide (r.schema < 0) = false := decide_eq_false (by omega)
      have e2 : decide ((s.schemas.length : Int) ≤ r.schema) = false := decide_eq_false (by omega)
      have hsl : r.schema.toNat < s.schemas.length := by omega
      obtain ⟨b, off, e1, hl_d, _, fa, fk, da, dk, d0, d1, d2, d3, d4, d5, -⟩ := SchemaD.out ((Hs.out.below (Hbb.out.trans (Hb.out.mono Hbb.out.size))).h2) r.schema.toNat hsl
      simp only at e1
      subst e1
      have hfl : (s.schemas[r.schema.toNat]).fields.length ≤ 100000 := hsf _ (List.getElem_mem hsl)
      have hhl : headLen s r.schema = ((s.schemas[r.schema.toNat]).fields.length : Int) := by unfold headLen; rw [List.getElem?_eq_getElem hsl]
      rw [hhl] at Hv
      generalize (s.schemas[r.schema.toNat]).fields.length = fl at *
      have hx : IntKind.i64.wrap ((fl : Int) - 1) = (fl : Int) - 1 := IntWalk.i64_in _ (by omega)
      clear d0 d1 d2 d3 d5 hsin hhl
      by_cases hse : (r.sets.length : Int) = (fl : Int) - 1
      case neg =>
        have Hse := Lib.hid hse
        have hse' : ((r.sets.length : Int) != (fl : Int) - 1) = true := by simpa using hse
        clear hse
        go_wp2_with fail
        refine wp_region_grown (by kernel_rfl) (by kernel_rfl) ?_
        repeat (go_big_quiet_step (fail))
        refine wpQuiet_nil ?_
        intro w5 hw0
        have hb1 : Below wr.heap.size wr w5 := by obtain ⟨n, rfl⟩ := hw0; exact grown_below _ n
        clear hw0
        replace x0 := cell_kept hb1 x0 hl_x
        replace x1 := cell_kept hb1 x1 hl_x
        replace x2 := cell_kept hb1 x2 hl_x
        replace x3 := cell_kept hb1 x3 hl_x
        replace x4 := cell_kept hb1 x4 hl_x
        replace x5 := cell_kept hb1 x5 hl_x
        replace x6 := cell_kept hb1 x6 hl_x
        replace x7 := cell_kept hb1 x7 hl_x
        replace x8 := cell_kept hb1 x8 hl_x
        replace x9 := cell_kept hb1 x9 hl_x
        replace x10 := cell_kept hb1 x10 hl_x
        replace d4 := cell_kept hb1 d4 hl_d
        replace Hb := Lib.hid (Hb.out.trans (hb1.mono hwl))
        replace Hb1 := Lib.hid (Hb1.out.trans (hb1.mono hwl1))
        replace hl_x := Nat.lt_of_lt_of_le hl_x hb1.size
        replace hl_d := Nat.lt_of_lt_of_le hl_d hb1.size
        replace hwl := Nat.le_trans hwl hb1.size
        replace hwl1 := Nat.le_trans hwl1 hb1.size
        clear hb1
        go_wp2_with fail
        all_goals (try (exfalso; have := Hse.out; simp at *; omega))
        all_goals go_ret
        all_goals exact ⟨ret_bool (by rw [Hv.out, decide_eq_false Hse.out]; rfl), Hb.out⟩
      rw [decide_eq_true hse, Bool.true_and] at Hv
      have hse' : ((r.sets.length : Int) != (fl : Int) - 1) = false := by simpa using hse
      have hsb : r.sets.length ≤ 100000 := by omega
      clear hse
      go_wp2_with fail
      refine wp_region_grown (by kernel_rfl) (by kernel_rfl) ?_
      repeat (go_big_quiet_step (fail))
      refine wpQuiet_nil ?_
      intro w5 hw0
      have hb1 : Below wr.heap.size wr w5 := by obtain ⟨n, rfl⟩ := hw0; exact grown_below _ n
      clear hw0
      replace x0 := cell_kept hb1 x0 hl_x
      replace x1 := cell_kept hb1 x1 hl_x
      replace x2 := cell_kept hb1 x2 hl_x
      replace x3 := cell_kept hb1 x3 hl_x
      replace x4 := cell_kept hb1 x4 hl_x
      replace x5 := cell_kept hb1 x5 hl_x
      replace x6 := cell_kept hb1 x6 hl_x
      replace x7 := cell_kept hb1 x7 hl_x
      replace x8 := cell_kept hb1 x8 hl_x
      replace x9 := cell_kept hb1 x9 hl_x
      replace x10 := cell_kept hb1 x10 hl_x
      replace d4 := cell_kept hb1 d4 hl_d
      replace Hb := Lib.hid (Hb.out.trans (hb1.mono hwl))
      replace Hb1 := Lib.hid (Hb1.out.trans (hb1.mono hwl1))
      replace hl_x := Nat.lt_of_lt_of_le hl_x hb1.size
      replace hl_d := Nat.lt_of_lt_of_le hl_d hb1.size
      replace hwl := Nat.le_trans hwl hb1.size
      replace hwl1 := Nat.le_trans hwl1 hb1.size
      clear hb1
      go_wp2_with fail
      go_loopw [6, 69] (fun v i wr => ∃ j : Nat, j ≤ r.sets.length ∧ i = .int .i64 j ∧ Hid (OwnL 1 encI 3 wr w5.heap.size v ((r.sets.take j).map (·.field))) ∧ Hid (PreP (setIn s r) r.sets j) ∧ Hid (∀ n ∈ (r.sets.take j).map (·.field), (Lit.int .i64 n).wf = true) ∧ Below w5.heap.size w5 wr) (fun _ i _ => r.sets.length - (intOf i).toNat)
      case atStart => exact ⟨0, Nat.zero_le _, rfl, Lib.hid (OwnL.nil _ _), Lib.hid PreP.zero, Lib.hid (fun n hn => by simp at hn), Below.refl _ _⟩
      case round =>
        obtain ⟨j, hj, rfl, HO, Hn, HW, hb1⟩ := hrel
        have Hb2 := Lib.hid hb1
        have hwl2 := hb1.size
        replace x0 := cell_kept hb1 x0 hl_x
        replace x1 := cell_kept hb1 x1 hl_x
        replace x2 := cell_kept hb1 x2 hl_x
        replace x3 := cell_kept hb1 x3 hl_x
        replace x4 := cell_kept hb1 x4 hl_x
        replace x5 := cell_kept hb1 x5 hl_x
        replace x6 := cell_kept hb1 x6 hl_x
        replace x7 := cell_kept hb1 x7 hl_x
        replace x8 := cell_kept hb1 x8 hl_x
        replace x9 := cell_kept hb1 x9 hl_x
        replace x10 := cell_kept hb1 x10 hl_x
        replace Hb := Lib.hid (Hb.out.trans (hb1.mono hwl))
        replace Hb1 := Lib.hid (Hb1.out.trans (hb1.mono hwl1))
        replace hl_x := Nat.lt_of_lt_of_le hl_x hb1.size
        replace hwl := Nat.le_trans hwl hb1.size
        replace hwl1 := Nat.le_trans hwl1 hb1.size
        clear hb1
        by_cases hlj : j < r.sets.length
        case neg =>
          have hall := Hn.out.all (show r.sets.length ≤ j by omega)
          have htk : r.sets.take j = r.sets := List.take_of_length_le (by omega)
          rw [htk] at HO HW
          obtain ⟨L, hL⟩ : ∃ L, r.sets.map (·.field) = L := ⟨_, rfl⟩
          rw [hL] at HO HW
          have hLl : L.length ≤ 100000 := by rw [← hL]; simpa using hsb
          have HL := Lib.hid hL
          have Hall := Lib.hid hall
          clear hL htk hall Hn
          obtain ⟨ao, co, hv, hsli⟩ := HO.out.sl (R := RInt) encI_len (fun n hn => ⟨rfl, HW.out n hn⟩)
          subst hv
          have Hsli := Lib.hid hsli
          clear hsli
          go_wp2_with fail
          refine (diffI_any ao co L _ Hsli.out hLl).mono ?_
          rintro e w6 ⟨rfl, hb1⟩
          replace x0 := cell_kept hb1 x0 hl_x
          replace x1 := cell_kept hb1 x1 hl_x
          replace x2 := cell_kept hb1 x2 hl_x
          replace x3 := cell_kept hb1 x3 hl_x
          replace x4 := cell_kept hb1 x4 hl_x
          replace x5 := cell_kept hb1 x5 hl_x
          replace x6 := cell_kept hb1 x6 hl_x
          replace x7 := cell_kept hb1 x7 hl_x
          replace x8 := cell_kept hb1 x8 hl_x
          replace x9 := cell_kept hb1 x9 hl_x
          replace x10 := cell_kept hb1 x10 hl_x
          replace Hb := Lib.hid (Hb.out.trans (hb1.mono hwl))
          replace Hb1 := Lib.hid (Hb1.out.trans (hb1.mono hwl1))
          replace Hb2 := Lib.hid (Hb2.out.trans (hb1.mono hwl2))
          replace hl_x := Nat.lt_of_lt_of_le hl_x hb1.size
          replace hwl := Nat.le_trans hwl hb1.size
          replace hwl1 := Nat.le_trans hwl1 hb1.size
          replace hwl2 := Nat.le_trans hwl2 hb1.size
          clear hb1
          go_wp2
          go_ret
          exact ⟨ret_bool (by rw [Hv.out, Hall.out, Bool.true_and, HL.out]), Hb.out⟩
        have hlj' : (j : Int) < (r.sets.length : Int) := by omega
        obtain ⟨b1, o1, e1, hl_c, hxw, c0, c1, c2, c3, c4, c5, c6⟩ := SetD.out (((Hr.out.below Hbb.out).h4).below RSetD.stab Hb.out) j hlj
        simp only at e1
        subst e1
        have hsuc := fun h => Hn.out.succ hlj h
        have hno := fun h => not_all (p := setIn s r) hlj h
        have htk : (r.sets.take (j + 1)).map (·.field) = (r.sets.take j).map (·.field) ++ [r.sets[j].field] := by rw [take_succ' hlj, List.map_append]; rfl
        have hlen : ((r.sets.take j).map (·.field)).length = j := by simp; omega
        have hfw : (Lit.int .i64 r.sets[j].field).wf = true := hxw.2.1
        generalize r.sets[j] = x at *
        have Hsuc := Lib.hid hsuc
        have Hno := Lib.hid hno
        have Htk := Lib.hid htk
        have Hlen := Lib.hid hlen
        have Hfw := Lib.hid hfw
        clear hsuc hno htk hlen hfw hxw
        go_wp2_with fail
        generalize hw0 : World.alloc _ _ = w2
        obtain ⟨X0, hsz, hb1⟩ := blk1 hw0
        have v0 : w2.cell? ⟨wr.heap.size, 0, none⟩ = some (.string x.path) := X0.cell 0
        have v1 : w2.cell? ⟨wr.heap.size, 1, none⟩ = some (.int .i64 x.field) := X0.cell 1
        have v2 : w2.cell? ⟨wr.heap.size, 2, none⟩ = some (.string x.term.name) := X0.cell 2
        have v3 : w2.cell? ⟨wr.heap.size, 3, none⟩ = some (.string x.term.path) := X0.cell 3
        have v4 : w2.cell? ⟨wr.heap.size, 4, none⟩ = some (.int .i64 x.term.var) := X0.cell 4
        have v5 : w2.cell? ⟨wr.heap.size, 5, none⟩ = some (.int .i64 x.term.field) := X0.cell 5
        have v6 : w2.cell? ⟨wr.heap.size, 6, none⟩ = some (.int .i64 x.term.n) := X0.cell 6
        have hl_v : wr.heap.size < w2.heap.size := by omega
        replace x0 := cell_kept hb1 x0 hl_x
        replace x1 := cell_kept hb1 x1 hl_x
        replace x2 := cell_kept hb1 x2 hl_x
        replace x3 := cell_kept hb1 x3 hl_x
        replace x4 := cell_kept hb1 x4 hl_x
        replace x5 := cell_kept hb1 x5 hl_x
        replace x6 := cell_kept hb1 x6 hl_x
        replace x7 := cell_kept hb1 x7 hl_x
        replace x8 := cell_kept hb1 x8 hl_x
        replace x9 := cell_kept hb1 x9 hl_x
        replace x10 := cell_kept hb1 x10 hl_x
        replace c0 := cell_kept hb1 c0 hl_c
        replace c1 := cell_kept hb1 c1 hl_c
        replace c2 := cell_kept hb1 c2 hl_c
        replace c3 := cell_kept hb1 c3 hl_c
        replace c4 := cell_kept hb1 c4 hl_c
        replace c5 := cell_kept hb1 c5 hl_c
        replace c6 := cell_kept hb1 c6 hl_c
        replace Hb := Lib.hid (Hb.out.trans (hb1.mono hwl))
        replace Hb1 := Lib.hid (Hb1.out.trans (hb1.mono hwl1))
        replace Hb2 := Lib.hid (Hb2.out.trans (hb1.mono hwl2))
        replace hl_x := Nat.lt_of_lt_of_le hl_x hb1.size
        replace hl_c := Nat.lt_of_lt_of_le hl_c hb1.size
        replace hwl := Nat.le_trans hwl hb1.size
        replace hwl1 := Nat.le_trans hwl1 hb1.size
        replace hwl2 := Nat.le_trans hwl2 hb1.size
        replace HO := Lib.hid (HO.out.below hb1)
        clear hb1
        clear hw0 hsz X0
        clear c0 c1 c2 c3 c4 c5 c6
        cases hty : typeOf? s r.schema x.field with
        | none =>
          refine (typeOf_no s ⟨a0, k0, a1, k1, some ⟨b, off, none⟩, k2, a3, k3, a4, k4, a5, k5⟩ r.schema x.field hty _ (Hs.out.below (Hbb.out.trans (Hb.out.mono Hbb.out.size)))).mono ?_
          rintro e w3 ⟨rfl, hb1⟩
          replace x0 := cell_kept hb1 x0 hl_x
          replace x1 := cell_kept hb1 x1 hl_x
          replace x2 := cell_kept hb1 x2 hl_x
          replace x3 := cell_kept hb1 x3 hl_x
          replace x4 := cell_kept hb1 x4 hl_x
          replace x5 := cell_kept hb1 x5 hl_x
          replace x6 := cell_kept hb1 x6 hl_x
          replace x7 := cell_kept hb1 x7 hl_x
          replace x8 := cell_kept hb1 x8 hl_x
          replace x9 := cell_kept hb1 x9 hl_x
          replace x10 := cell_kept hb1 x10 hl_x
          replace v0 := cell_kept hb1 v0 hl_v
          replace v1 := cell_kept hb1 v1 hl_v
          replace v2 := cell_kept hb1 v2 hl_v
          replace v3 := cell_kept hb1 v3 hl_v
          replace v4 := cell_kept hb1 v4 hl_v
          replace v5 := cell_kept hb1 v5 hl_v
          replace v6 := cell_kept hb1 v6 hl_v
          replace Hb := Lib.hid (Hb.out.trans (hb1.mono hwl))
          replace Hb1 := Lib.hid (Hb1.out.trans (hb1.mono hwl1))
          replace Hb2 := Lib.hid (Hb2.out.trans (hb1.mono hwl2))
          replace hl_x := Nat.lt_of_lt_of_le hl_x hb1.size
          replace hl_v := Nat.lt_of_lt_of_le hl_v hb1.size
          replace hwl := Nat.le_trans hwl hb1.size
          replace hwl1 := Nat.le_trans hwl1 hb1.size
          replace hwl2 := Nat.le_trans hwl2 hb1.size
          clear hb1
          go_wp2_with fail
          go_ret
          exact ⟨ret_bool (by rw [Hv.out, Hno.out (by simp [setIn, hty])]; rfl), Hb.out.alloc hwl _⟩
        | some fd =>
          refine (typeOf_at s ⟨a0, k0, a1, k1, some ⟨b, off, none⟩, k2, a3, k3, a4, k4, a5, k5⟩ r.schema x.field fd hty wb Hs.out _ (Hbb.out.trans (Hb.out.mono Hbb.out.size))).mono ?_
          rintro e w3 ⟨⟨an, kn, rfl, hnf⟩, hb1⟩
          have Hnf := Lib.hid hnf
          have Hty := Lib.hid hty
          clear hnf hty
          replace x0 := cell_kept hb1 x0 hl_x
          replace x1 := cell_kept hb1 x1 hl_x
          replace x2 := cell_kept hb1 x2 hl_x
          replace x3 := cell_kept hb1 x3 hl_x
          replace x4 := cell_kept hb1 x4 hl_x
          replace x5 := cell_kept hb1 x5 hl_x
          replace x6 := cell_kept hb1 x6 hl_x
          replace x7 := cell_kept hb1 x7 hl_x
          replace x8 := cell_kept hb1 x8 hl_x
          replace x9 := cell_kept hb1 x9 hl_x
          replace x10 := cell_kept hb1 x10 hl_x
          replace v0 := cell_kept hb1 v0 hl_v
          replace v1 := cell_kept hb1 v1 hl_v
          replace v2 := cell_kept hb1 v2 hl_v
          replace v3 := cell_kept hb1 v3 hl_v
          replace v4 := cell_kept hb1 v4 hl_v
          replace v5 := cell_kept hb1 v5 hl_v
          replace v6 := cell_kept hb1 v6 hl_v
          replace Hb := Lib.hid (Hb.out.trans (hb1.mono hwl))
          replace Hb1 := Lib.hid (Hb1.out.trans (hb1.mono hwl1))
          replace Hb2 := Lib.hid (Hb2.out.trans (hb1.mono hwl2))
          replace hl_x := Nat.lt_of_lt_of_le hl_x hb1.size
          replace hl_v := Nat.lt_of_lt_of_le hl_v hb1.size
          replace hwl := Nat.le_trans hwl hb1.size
          replace hwl1 := Nat.le_trans hwl1 hb1.size
          replace hwl2 := Nat.le_trans hwl2 hb1.size
          replace HO := Lib.hid (HO.out.below hb1)
          clear hb1
          by_cases hx0 : x.field = 0
          · have q0 : (x.field == 0) = true := by simpa using hx0
            have Hx0 := Lib.hid hx0
            clear hx0
            go_wp2_with fail
            all_goals (try (exfalso; have := Hx0.out; simp at *; omega))
            all_goals go_ret
            all_goals exact ⟨ret_bool (by rw [Hv.out, Hno.out (by unfold setIn; rw [Hty.out]; simp [Hx0.out])]; rfl), Hb.out.alloc hwl _⟩
          · have q0 : (x.field == 0) = false := by simpa using hx0
            have Hx0 := Lib.hid hx0
            clear hx0
            go_wp2_with fail
            generalize hw0 : World.alloc _ _ = w4
            obtain ⟨X0, hsz, hb1⟩ := blk1 hw0
            have u0 : w4.cell? ⟨w3.heap.size, 0, none⟩ = some (.int .i64 fd.kind) := X0.cell 0
            have u1 : w4.cell? ⟨w3.heap.size, 1, none⟩ = some (.int .i64 fd.lo) := X0.cell 1
            have u2 : w4.cell? ⟨w3.heap.size, 2, none⟩ = some (.int .i64 fd.hi) := X0.cell 2
            have u3 : w4.cell? ⟨w3.heap.size, 3, none⟩ = some (.string fd.of_) := X0.cell 3
            have u4 : w4.cell? ⟨w3.heap.size, 4, none⟩ = some (.int .i64 fd.unit) := X0.cell 4
            have u5 : w4.cell? ⟨w3.heap.size, 5, none⟩ = some (.slice an fd.names.length kn) := X0.cell 5
            have hl_u : w3.heap.size < w4.heap.size := by omega
            replace x0 := cell_kept hb1 x0 hl_x
            replace x1 := cell_kept hb1 x1 hl_x
            replace x2 := cell_kept hb1 x2 hl_x
            replace x3 := cell_kept hb1 x3 hl_x
            replace x4 := cell_kept hb1 x4 hl_x
            replace x5 := cell_kept hb1 x5 hl_x
            replace x6 := cell_kept hb1 x6 hl_x
            replace x7 := cell_kept hb1 x7 hl_x
            replace x8 := cell_kept hb1 x8 hl_x
            replace x9 := cell_kept hb1 x9 hl_x
            replace x10 := cell_kept hb1 x10 hl_x
            replace v0 := cell_kept hb1 v0 hl_v
            replace v1 := cell_kept hb1 v1 hl_v
            replace v2 := cell_kept hb1 v2 hl_v
            replace v3 := cell_kept hb1 v3 hl_v
            replace v4 := cell_kept hb1 v4 hl_v
            replace v5 := cell_kept hb1 v5 hl_v
            replace v6 := cell_kept hb1 v6 hl_v
            replace Hb := Lib.hid (Hb.out.trans (hb1.mono hwl))
            replace Hb1 := Lib.hid (Hb1.out.trans (hb1.mono hwl1))
            replace Hb2 := Lib.hid (Hb2.out.trans (hb1.mono hwl2))
            replace hl_x := Nat.lt_of_lt_of_le hl_x hb1.size
            replace hl_v := Nat.lt_of_lt_of_le hl_v hb1.size
            replace hwl := Nat.le_trans hwl hb1.size
            replace hwl1 := Nat.le_trans hwl1 hb1.size
            replace hwl2 := Nat.le_trans hwl2 hb1.size
            replace HO := Lib.hid (HO.out.below hb1)
            clear hb1
            clear hw0 hsz X0
            refine (setOK_any s ⟨a0, k0, a1, k1, some ⟨b, off, none⟩, k2, a3, k3, a4, k4, a5, k5⟩ r ⟨f2, l2, f3, l3, some ⟨b1, o1, none⟩, l4⟩ fd an kn x.term wb Hs.out Hr.out Hnf.out _ (Hbb.out.trans (Hb.out.mono Hbb.out.size)) hsh).mono ?_
            rintro e w6 ⟨rfl, hb1⟩
            replace x0 := cell_kept hb1 x0 hl_x
            replace x1 := cell_kept hb1 x1 hl_x
            replace x2 := cell_kept hb1 x2 hl_x
            replace x3 := cell_kept hb1 x3 hl_x
            replace x4 := cell_kept hb1 x4 hl_x
            replace x5 := cell_kept hb1 x5 hl_x
            replace x6 := cell_kept hb1 x6 hl_x
            replace x7 := cell_kept hb1 x7 hl_x
            replace x8 := cell_kept hb1 x8 hl_x
            replace x9 := cell_kept hb1 x9 hl_x
            replace x10 := cell_kept hb1 x10 hl_x
            replace v0 := cell_kept hb1 v0 hl_v
            replace v1 := cell_kept hb1 v1 hl_v
            replace v2 := cell_kept hb1 v2 hl_v
            replace v3 := cell_kept hb1 v3 hl_v
            replace v4 := cell_kept hb1 v4 hl_v
            replace v5 := cell_kept hb1 v5 hl_v
            replace v6 := cell_kept hb1 v6 hl_v
            replace u0 := cell_kept hb1 u0 hl_u
            replace u1 := cell_kept hb1 u1 hl_u
            replace u2 := cell_kept hb1 u2 hl_u
            replace u3 := cell_kept hb1 u3 hl_u
            replace u4 := cell_kept hb1 u4 hl_u
            replace u5 := cell_kept hb1 u5 hl_u
            replace Hb := Lib.hid (Hb.out.trans (hb1.mono hwl))
            replace Hb1 := Lib.hid (Hb1.out.trans (hb1.mono hwl1))
            replace Hb2 := Lib.hid (Hb2.out.trans (hb1.mono hwl2))
            replace hl_x := Nat.lt_of_lt_of_le hl_x hb1.size
            replace hl_v := Nat.lt_of_lt_of_le hl_v hb1.size
            replace hl_u := Nat.lt_of_lt_of_le hl_u hb1.size
            replace hwl := Nat.le_trans hwl hb1.size
            replace hwl1 := Nat.le_trans hwl1 hb1.size
            replace hwl2 := Nat.le_trans hwl2 hb1.size
            replace HO := Lib.hid (HO.out.below hb1)
            clear hb1
            cases hsb2 : setB s r.froms fd x.term with
            | false =>
              go_wp2
              go_ret
              exact ⟨ret_bool (by rw [Hv.out, Hno.out (by simp [setIn, Hty.out, hsb2])]; rfl), Hb.out⟩
            | true =>
              have hmax : ((r.sets.take j).map (·.field)).length + 1 ≤ maxLen := by rw [Hlen.out]; unfold maxLen; omega
              have hbyt : (((r.sets.take j).map (·.field)).length + 1) * 8 ≤ 140737488355328 := by rw [Hlen.out]; omega
              go_wp2_with (at_builtin; refine wpList_append_own _ rfl _ _ 50 rfl w5.heap.size 3 i0 (.int .i64 0) 1 8 Try.underlying50 hi hz0 hz1 hz2 rfl (by decide) _ _ _ rfl ((HO.out.alloc _).row) ⟨w6.heap.size, 0, none⟩ 1 1 (encI x.field) rfl rfl (cells_new _ _ _) (by simp [encI, Value.oneCell']) hmax hbyt (by simp; omega) ?_; intro v' w7 hown hgrow hnil)
              go_roundw
              case rel => exact ⟨j + 1, by omega, by go_num, Lib.hid (by rw [Htk.out]; exact OwnL.snoc hown), Lib.hid (Hsuc.out (by simp [setIn, Hty.out, hsb2, Hx0.out])), Lib.hid (fun n hn => by
                rw [Htk.out] at hn
                simp only [List.mem_append, List.mem_singleton] at hn
                rcases hn with hn | rfl
                · exact HW.out n hn
                · exact Hfw.out), (Hb2.out.alloc hwl2 _).grown hgrow (by simp; omega) HO.out.ge⟩
              case measure => simp [intOf]; omega
end Go.Proofs.Ytogenjbabgibbaa
