import Derived.Test.YtogenjbabgibbaaKO
namespace Go.Proofs.Ytogenjbabgibbaa
open Go.RowKit
def wOK (n : Int) : Bool := decide (0 ≤ n) && decide (n ≤ 9)
def fieldB (s : SourceD) (f : FieldD) : Bool := kindB f.ty s.units.length && [f.w0, f.w1, f.w2, f.w3].all wOK
def selfB (l : List FieldD) : Bool := match l[0]? with | some f => decide (f.ty.kind = 3) | none => false
def schB (s : SourceD) (x : SchemaD) : Bool :=
  (decide (0 ≤ x.issuer) && decide (x.issuer < s.issuers.length) && decide (1 ≤ x.version) && decide (x.version ≤ 255) && decide (1 ≤ x.fields.length) && decide (x.fields.length ≤ 12)) && (selfB x.fields && x.fields.all (fieldB s))
abbrev SchemaD.val (x : SchemaD) (fa : Option Addr) (fk : Nat) (da : Option Addr) (dk : Nat) : Value := .agg #[.string x.name, .string x.by_, .int .i64 x.issuer, .int .i64 x.version, .slice fa x.fields.length fk, .slice da x.depends dk]
set_option maxRecDepth 20000 in
set_option maxHeartbeats 8000000 in
theorem schemaOK_any (s : SourceD) (p : SrcAt) (x : SchemaD) (fa : Option Addr) (fk : Nat) (da : Option Addr) (dk : Nat) (wb : World) (hf : Sl 11 RFieldD wb fa x.fields) (w : World) (hbb : Below wb.heap.size wb w) (hsn : ∀ f ∈ x.fields, f.ty.names.length ≤ 100000) :
    Calls Try.prog 29 #[s.val p, x.val fa fk da dk] w fun e w' => e = .returned (.bool (schB s x)) ∧ Below w.heap.size w w' := by
  by_cases hd : 0 ≤ x.issuer ∧ x.issuer < s.issuers.length ∧ 1 ≤ x.version ∧ x.version ≤ 255 ∧ 1 ≤ x.fields.length ∧ x.fields.length ≤ 12
  case neg =>
    have Hd := Lib.hid hd
    clear hf hbb hsn hd
    go_enter Try.func29, Try.ntmps29
    go_wp2_with fail
    all_goals (try (exfalso; have := Hd.out; omega))
    all_goals go_ret
    all_goals exact ⟨ret_bool (by have := Hd.out; simp [schB]; intros; omega), by (repeat (first | exact Below.refl _ _ | refine Below.alloc ?_ (by first | (simp; done) | (simp; omega)) _ | refine Below.setCell ?_ (by first | (simp; done) | (simp; omega)) _ | refine below_drewN ?_ _))⟩
  have hv : schB s x = (selfB x.fields && x.fields.all (fieldB s)) := by unfold schB; simp [hd]
  have Hv := Lib.hid hv
  clear hv
  obtain ⟨h1, h2, h3, h4, h5, h6⟩ := hd
  obtain ⟨b, off, e1, hl_d, _, a0, k0, d0, d1, -⟩ := FieldD.out (hf.below RFieldD.stab hbb) 0 (by omega)
  subst e1
  have Hsn := Lib.hid hsn
  have Hf := Lib.hid (hf.below RFieldD.stab hbb)
  have hself : selfB x.fields = decide (x.fields[0].ty.kind = 3) := by unfold selfB; rw [List.getElem?_eq_getElem (by omega)]
  generalize x.fields[0].ty.kind = kd at *
  have Hself := Lib.hid hself
  simp only [Nat.zero_mul, Nat.add_zero] at d1
  clear hf hbb hsn d0 hself
  have h5' : (0 : Int) < (x.fields.length : Int) := by omega
  by_cases hk3 : kd = 3
  case neg =>
    have q1 : (kd == 3) = false := by simpa using hk3
    have Hk3 := Lib.hid hk3
    clear hk3
    go_enter Try.func29, Try.ntmps29
    go_wp2_with fail
    all_goals (try (exfalso; omega))
    all_goals (try (exfalso; simp at *; omega))
    all_goals go_ret
    all_goals exact ⟨ret_bool (by rw [Hv.out, Hself.out]; simp [Hk3.out]), by (repeat (first | exact Below.refl _ _ | refine Below.alloc ?_ (by first | (simp; done) | (simp; omega)) _ | refine Below.setCell ?_ (by first | (simp; done) | (simp; omega)) _ | refine below_drewN ?_ _))⟩
  subst hk3
  rw [Hself.out, decide_eq_true rfl, Bool.true_and] at Hv
  go_enter Try.func29, Try.ntmps29
  go_wp2_with fail
  all_goals (try (exfalso; omega))
  all_goals (try (exfalso; simp at *; omega))
  clear d1 hl_d
  generalize hw0 : World.alloc _ _ = w0
  obtain ⟨X0, X1, hsz, hb0⟩ := blk2 hw0
  have x0 : w0.cell? ⟨w.heap.size, 0, none⟩ = some (.slice p.a0 s.issuers.length p.k0) := X0.cell 0
  have x1 : w0.cell? ⟨w.heap.size, 1, none⟩ = some (.slice p.a1 s.units.length p.k1) := X0.cell 1
  have x2 : w0.cell? ⟨w.heap.size, 2, none⟩ = some (.slice p.a2 s.schemas.length p.k2) := X0.cell 2
  have x3 : w0.cell? ⟨w.heap.size, 3, none⟩ = some (.slice p.a3 s.rules.length p.k3) := X0.cell 3
  have x4 : w0.cell? ⟨w.heap.size, 4, none⟩ = some (.slice p.a4 s.converts p.k4) := X0.cell 4
  have x5 : w0.cell? ⟨w.heap.size, 5, none⟩ = some (.slice p.a5 s.purposes.length p.k5) := X0.cell 5
  have hl_x : w.heap.size < w0.heap.size := by omega
  have y0 : w0.cell? ⟨w.heap.size + 1, 0, none⟩ = some (.string x.name) := X1.cell 0
  have y1 : w0.cell? ⟨w.heap.size + 1, 1, none⟩ = some (.string x.by_) := X1.cell 1
  have y2 : w0.cell? ⟨w.heap.size + 1, 2, none⟩ = some (.int .i64 x.issuer) := X1.cell 2
  have y3 : w0.cell? ⟨w.heap.size + 1, 3, none⟩ = some (.int .i64 x.version) := X1.cell 3
  have y4 : w0.cell? ⟨w.heap.size + 1, 4, none⟩ = some (.slice (some ⟨b, off, none⟩) x.fields.length fk) := X1.cell 4
  have y5 : w0.cell? ⟨w.heap.size + 1, 5, none⟩ = some (.slice da x.depends dk) := X1.cell 5
  have hl_y : w.heap.size + 1 < w0.heap.size := by omega
  have hwl : w.heap.size ≤ w0.heap.size := hb0.size
  have Hb := Lib.hid hb0
  clear hw0 hb0 hsz X0 X1
  go_loopw [55] (fun i wr => ∃ k : Nat, k ≤ x.fields.length ∧ i = .int .i64 k ∧ Hid (PreP (fieldB s) x.fields k) ∧ Below w0.heap.size w0 wr) (fun i _ => x.fields.length - (intOf i).toNat)
  case atStart => exact ⟨0, Nat.zero_le _, rfl, Lib.hid PreP.zero, Below.refl _ _⟩
  case round =>
    obtain ⟨k, hk, rfl, Hn, hb1⟩ := hrel
    have Hb1 := Lib.hid hb1
    have hwl1 := hb1.size
    replace x0 := cell_kept hb1 x0 hl_x
    replace x1 := cell_kept hb1 x1 hl_x
    replace x2 := cell_kept hb1 x2 hl_x
    replace x3 := cell_kept hb1 x3 hl_x
    replace x4 := cell_kept hb1 x4 hl_x
    replace x5 := cell_kept hb1 x5 hl_x
    replace y0 := cell_kept hb1 y0 hl_y
    replace y1 := cell_kept hb1 y1 hl_y
    replace y2 := cell_kept hb1 y2 hl_y
    replace y3 := cell_kept hb1 y3 hl_y
    replace y4 := cell_kept hb1 y4 hl_y
    replace y5 := cell_kept hb1 y5 hl_y
    replace Hb := Lib.hid (Hb.out.trans (hb1.mono hwl))
    replace hl_x := Nat.lt_of_lt_of_le hl_x hb1.size
    replace hl_y := Nat.lt_of_lt_of_le hl_y hb1.size
    replace hwl := Nat.le_trans hwl hb1.size
    clear hb1
    by_cases hlt : k < x.fields.length
    case neg =>
      have Hall := Lib.hid (Hn.out.all (by omega))
      go_wp2
      go_ret
      exact ⟨ret_bool (by rw [Hv.out, Hall.out]), Hb.out⟩
    have hlt' : (k : Int) < (x.fields.length : Int) := by omega
    obtain ⟨b', off', e1, hl_c, _, an, kn, c0, c1, c2, c3, c4, c5, c6, c7, c8, c9, c10, hnn⟩ := FieldD.out (Hf.out.below RFieldD.stab Hb.out) k hlt
    simp only [Option.some.injEq, Addr.mk.injEq, and_true] at e1
    obtain ⟨rfl, rfl⟩ := e1
    have hsuc := fun h => Hn.out.succ hlt h
    have hno := fun h => not_all (p := fieldB s) hlt h
    have hln := Hsn.out x.fields[k] (List.getElem_mem hlt)
    generalize x.fields[k] = f at *
    have Hsuc := Lib.hid hsuc
    have Hno := Lib.hid hno
    have Hnn := Lib.hid hnn
    clear hsuc hno hnn
    go_wp2_with fail
    generalize hw0 : World.alloc _ _ = w2
    obtain ⟨X0, hsz, hb1⟩ := blk1 hw0
    have v0 : w2.cell? ⟨wr.heap.size, 0, none⟩ = some (.string f.name) := X0.cell 0
    have v1 : w2.cell? ⟨wr.heap.size, 1, none⟩ = some (.int .i64 f.ty.kind) := X0.cell 1
    have v2 : w2.cell? ⟨wr.heap.size, 2, none⟩ = some (.int .i64 f.ty.lo) := X0.cell 2
    have v3 : w2.cell? ⟨wr.heap.size, 3, none⟩ = some (.int .i64 f.ty.hi) := X0.cell 3
    have v4 : w2.cell? ⟨wr.heap.size, 4, none⟩ = some (.string f.ty.of_) := X0.cell 4
    have v5 : w2.cell? ⟨wr.heap.size, 5, none⟩ = some (.int .i64 f.ty.unit) := X0.cell 5
    have v6 : w2.cell? ⟨wr.heap.size, 6, none⟩ = some (.slice an f.ty.names.length kn) := X0.cell 6
    have v7 : w2.cell? ⟨wr.heap.size, 7, none⟩ = some (.int .i64 f.w0) := X0.cell 7
    have v8 : w2.cell? ⟨wr.heap.size, 8, none⟩ = some (.int .i64 f.w1) := X0.cell 8
    have v9 : w2.cell? ⟨wr.heap.size, 9, none⟩ = some (.int .i64 f.w2) := X0.cell 9
    have v10 : w2.cell? ⟨wr.heap.size, 10, none⟩ = some (.int .i64 f.w3) := X0.cell 10
    have hl_v : wr.heap.size < w2.heap.size := by omega
    replace x0 := cell_kept hb1 x0 hl_x
    replace x1 := cell_kept hb1 x1 hl_x
    replace x2 := cell_kept hb1 x2 hl_x
    replace x3 := cell_kept hb1 x3 hl_x
    replace x4 := cell_kept hb1 x4 hl_x
    replace x5 := cell_kept hb1 x5 hl_x
    replace y0 := cell_kept hb1 y0 hl_y
    replace y1 := cell_kept hb1 y1 hl_y
    replace y2 := cell_kept hb1 y2 hl_y
    replace y3 := cell_kept hb1 y3 hl_y
    replace y4 := cell_kept hb1 y4 hl_y
    replace y5 := cell_kept hb1 y5 hl_y
    replace Hb := Lib.hid (Hb.out.trans (hb1.mono hwl))
    replace Hb1 := Lib.hid (Hb1.out.trans (hb1.mono hwl1))
    replace hl_x := Nat.lt_of_lt_of_le hl_x hb1.size
    replace hl_y := Nat.lt_of_lt_of_le hl_y hb1.size
    replace hwl := Nat.le_trans hwl hb1.size
    replace hwl1 := Nat.le_trans hwl1 hb1.size
    replace Hnn := Lib.hid (Hnn.out.below RStr.stab hb1)
    clear hb1
    clear hw0 hsz X0
    clear c0 c1 c2 c3 c4 c5 c6 c7 c8 c9 c10
    refine (typeOK_any s p f.ty an kn _ Hnn.out hln).mono ?_
    rintro e w3 ⟨rfl, hb1⟩
    replace x0 := cell_kept hb1 x0 hl_x
    replace x1 := cell_kept hb1 x1 hl_x
    replace x2 := cell_kept hb1 x2 hl_x
    replace x3 := cell_kept hb1 x3 hl_x
    replace x4 := cell_kept hb1 x4 hl_x
    replace x5 := cell_kept hb1 x5 hl_x
    replace y0 := cell_kept hb1 y0 hl_y
    replace y1 := cell_kept hb1 y1 hl_y
    replace y2 := cell_kept hb1 y2 hl_y
    replace y3 := cell_kept hb1 y3 hl_y
    replace y4 := cell_kept hb1 y4 hl_y
    replace y5 := cell_kept hb1 y5 hl_y
    replace v0 := cell_kept hb1 v0 hl_v
    replace v1 := cell_kept hb1 v1 hl_v
    replace v2 := cell_kept hb1 v2 hl_v
    replace v3 := cell_kept hb1 v3 hl_v
    replace v4 := cell_kept hb1 v4 hl_v
    replace v5 := cell_kept hb1 v5 hl_v
    replace v6 := cell_kept hb1 v6 hl_v
    replace v7 := cell_kept hb1 v7 hl_v
    replace v8 := cell_kept hb1 v8 hl_v
    replace v9 := cell_kept hb1 v9 hl_v
    replace v10 := cell_kept hb1 v10 hl_v
    replace Hb := Lib.hid (Hb.out.trans (hb1.mono hwl))
    replace Hb1 := Lib.hid (Hb1.out.trans (hb1.mono hwl1))
    replace hl_x := Nat.lt_of_lt_of_le hl_x hb1.size
    replace hl_y := Nat.lt_of_lt_of_le hl_y hb1.size
    replace hl_v := Nat.lt_of_lt_of_le hl_v hb1.size
    replace hwl := Nat.le_trans hwl hb1.size
    replace hwl1 := Nat.le_trans hwl1 hb1.size
    clear hb1
    cases hkb : kindB f.ty s.units.length with
    | false =>
      go_wp2
      go_ret
      exact ⟨ret_bool (by rw [Hv.out, Hno.out (by simp [fieldB, hkb])]), Hb.out⟩
    | true =>
      have Hkb := Lib.hid hkb
      clear hkb
      go_wp2_with fail
      obtain ⟨wo, rfl⟩ : ∃ wo : World, wo = wr := ⟨_, rfl⟩
      go_loopw [66] (fun i wr => ∃ j : Nat, j ≤ 4 ∧ i = .int .i64 j ∧ Hid (([f.w0, f.w1, f.w2, f.w3].take j).all wOK = true) ∧ Below w3.heap.size w3 wr) (fun i _ => 4 - (intOf i).toNat)
      case atStart => exact ⟨0, Nat.zero_le _, rfl, Lib.hid rfl, Below.refl _ _⟩
      case round =>
        obtain ⟨j, hj, rfl, HQ, hb1⟩ := hrel
        have Hb2 := Lib.hid hb1
        have hwl2 := hb1.size
        replace x0 := cell_kept hb1 x0 hl_x
        replace x1 := cell_kept hb1 x1 hl_x
        replace x2 := cell_kept hb1 x2 hl_x
        replace x3 := cell_kept hb1 x3 hl_x
        replace x4 := cell_kept hb1 x4 hl_x
        replace x5 := cell_kept hb1 x5 hl_x
        replace y0 := cell_kept hb1 y0 hl_y
        replace y1 := cell_kept hb1 y1 hl_y
        replace y2 := cell_kept hb1 y2 hl_y
        replace y3 := cell_kept hb1 y3 hl_y
        replace y4 := cell_kept hb1 y4 hl_y
        replace y5 := cell_kept hb1 y5 hl_y
        replace v0 := cell_kept hb1 v0 hl_v
        replace v1 := cell_kept hb1 v1 hl_v
        replace v2 := cell_kept hb1 v2 hl_v
        replace v3 := cell_kept hb1 v3 hl_v
        replace v4 := cell_kept hb1 v4 hl_v
        replace v5 := cell_kept hb1 v5 hl_v
        replace v6 := cell_kept hb1 v6 hl_v
        replace v7 := cell_kept hb1 v7 hl_v
        replace v8 := cell_kept hb1 v8 hl_v
        replace v9 := cell_kept hb1 v9 hl_v
        replace v10 := cell_kept hb1 v10 hl_v
        replace Hb := Lib.hid (Hb.out.trans (hb1.mono hwl))
        replace Hb1 := Lib.hid (Hb1.out.trans (hb1.mono hwl1))
        replace hl_x := Nat.lt_of_lt_of_le hl_x hb1.size
        replace hl_y := Nat.lt_of_lt_of_le hl_y hb1.size
        replace hl_v := Nat.lt_of_lt_of_le hl_v hb1.size
        replace hwl := Nat.le_trans hwl hb1.size
        replace hwl1 := Nat.le_trans hwl1 hb1.size
        clear hb1
        have hix0 : ∀ w' : World, (Instr.index 72 (.agg #[.int .i64 f.w0, .int .i64 f.w1, .int .i64 f.w2, .int .i64 f.w3]) (.int .i64 0)).run Try.prog w' = .ok (.int .i64 f.w0) w' := fun w' => by kernel_rfl
        have hix1 : ∀ w' : World, (Instr.index 72 (.agg #[.int .i64 f.w0, .int .i64 f.w1, .int .i64 f.w2, .int .i64 f.w3]) (.int .i64 1)).run Try.prog w' = .ok (.int .i64 f.w1) w' := fun w' => by kernel_rfl
        have hix2 : ∀ w' : World, (Instr.index 72 (.agg #[.int .i64 f.w0, .int .i64 f.w1, .int .i64 f.w2, .int .i64 f.w3]) (.int .i64 2)).run Try.prog w' = .ok (.int .i64 f.w2) w' := fun w' => by kernel_rfl
        have hix3 : ∀ w' : World, (Instr.index 72 (.agg #[.int .i64 f.w0, .int .i64 f.w1, .int .i64 f.w2, .int .i64 f.w3]) (.int .i64 3)).run Try.prog w' = .ok (.int .i64 f.w3) w' := fun w' => by kernel_rfl
        rcases (show j = 0 ∨ j = 1 ∨ j = 2 ∨ j = 3 ∨ j = 4 by omega) with rfl | rfl | rfl | rfl | rfl
        · by_cases hw : 0 ≤ f.w0 ∧ f.w0 ≤ 9
          · obtain ⟨hw0, hw1⟩ := hw
            go_wp2_with fail
            all_goals (try (exfalso; omega))
            go_roundw
            case rel => exact ⟨1, by omega, by go_num, Lib.hid (by have e : [f.w0, f.w1, f.w2, f.w3].take 1 = [f.w0, f.w1, f.w2, f.w3].take 0 ++ [f.w0] := rfl; rw [e, List.all_append, HQ.out]; simp [wOK, hw0, hw1]), Hb2.out⟩
            case measure => simp [intOf]
          · have hq : wOK f.w0 = false := by simp [wOK]; omega
            have hfb : fieldB s f = false := by simp [fieldB, hq]
            have Hfb := Lib.hid (Hno.out hfb)
            have Hw := Lib.hid hw
            clear hw hq hfb
            go_wp2_with fail
            all_goals (try (exfalso; have := Hw.out; omega))
            all_goals go_ret
            all_goals exact ⟨ret_bool (by rw [Hv.out, Hfb.out]), Hb.out⟩
        · by_cases hw : 0 ≤ f.w1 ∧ f.w1 ≤ 9
          · obtain ⟨hw0, hw1⟩ := hw
            go_wp2_with fail
            all_goals (try (exfalso; omega))
            go_roundw
            case rel => exact ⟨2, by omega, by go_num, Lib.hid (by have e : [f.w0, f.w1, f.w2, f.w3].take 2 = [f.w0, f.w1, f.w2, f.w3].take 1 ++ [f.w1] := rfl; rw [e, List.all_append, HQ.out]; simp [wOK, hw0, hw1]), Hb2.out⟩
            case measure => simp [intOf]
          · have hq : wOK f.w1 = false := by simp [wOK]; omega
            have hfb : fieldB s f = false := by simp [fieldB, hq]
            have Hfb := Lib.hid (Hno.out hfb)
            have Hw := Lib.hid hw
            clear hw hq hfb
            go_wp2_with fail
            all_goals (try (exfalso; have := Hw.out; omega))
            all_goals go_ret
            all_goals exact ⟨ret_bool (by rw [Hv.out, Hfb.out]), Hb.out⟩
        · by_cases hw : 0 ≤ f.w2 ∧ f.w2 ≤ 9
          · obtain ⟨hw0, hw1⟩ := hw
            go_wp2_with fail
            all_goals (try (exfalso; omega))
            go_roundw
            case rel => exact ⟨3, by omega, by go_num, Lib.hid (by have e : [f.w0, f.w1, f.w2, f.w3].take 3 = [f.w0, f.w1, f.w2, f.w3].take 2 ++ [f.w2] := rfl; rw [e, List.all_append, HQ.out]; simp [wOK, hw0, hw1]), Hb2.out⟩
            case measure => simp [intOf]
          · have hq : wOK f.w2 = false := by simp [wOK]; omega
            have hfb : fieldB s f = false := by simp [fieldB, hq]
            have Hfb := Lib.hid (Hno.out hfb)
            have Hw := Lib.hid hw
            clear hw hq hfb
            go_wp2_with fail
            all_goals (try (exfalso; have := Hw.out; omega))
            all_goals go_ret
            all_goals exact ⟨ret_bool (by rw [Hv.out, Hfb.out]), Hb.out⟩
        · by_cases hw : 0 ≤ f.w3 ∧ f.w3 ≤ 9
          · obtain ⟨hw0, hw1⟩ := hw
            go_wp2_with fail
            all_goals (try (exfalso; omega))
            go_roundw
            case rel => exact ⟨4, by omega, by go_num, Lib.hid (by have e : [f.w0, f.w1, f.w2, f.w3].take 4 = [f.w0, f.w1, f.w2, f.w3].take 3 ++ [f.w3] := rfl; rw [e, List.all_append, HQ.out]; simp [wOK, hw0, hw1]), Hb2.out⟩
            case measure => simp [intOf]
          · have hq : wOK f.w3 = false := by simp [wOK]; omega
            have hfb : fieldB s f = false := by simp [fieldB, hq]
            have Hfb := Lib.hid (Hno.out hfb)
            have Hw := Lib.hid hw
            clear hw hq hfb
            go_wp2_with fail
            all_goals (try (exfalso; have := Hw.out; omega))
            all_goals go_ret
            all_goals exact ⟨ret_bool (by rw [Hv.out, Hfb.out]), Hb.out⟩
        · have hq : [f.w0, f.w1, f.w2, f.w3].all wOK = true := HQ.out
          go_wp2_with fail
          go_roundw
          case rel => exact ⟨k + 1, by omega, by go_num, Lib.hid (Hsuc.out (by rw [fieldB, Hkb.out, hq]; rfl)), Hb1.out⟩
          case measure => simp [intOf]; omega
end Go.Proofs.Ytogenjbabgibbaa
