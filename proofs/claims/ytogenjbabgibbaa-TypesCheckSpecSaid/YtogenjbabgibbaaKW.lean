import Derived.Test.YtogenjbabgibbaaKV
namespace Go.Proofs.Ytogenjbabgibbaa
open Go.RowKit
theorem rtype_eq (s : SourceD) (p : SrcAt) (t : TyD) (an : Option Addr) (kn : Nat) (w : World) (hn : Sl 1 RStr w an t.names) (hl : t.names.length ≤ 100000) (r : Bool) (hr : kindB t s.units.length = r) :
    Calls Try.prog 42 #[s.val p, t.val an kn] w fun e w' => e = .returned (.bool r) ∧ Below w.heap.size w w' := by
  subst hr
  exact rtype_any s p t an kn w hn hl
set_option maxRecDepth 20000 in
set_option maxHeartbeats 8000000 in
theorem rschema_any (s : SourceD) (p : SrcAt) (x : SchemaD) (fa : Option Addr) (fk : Nat) (da : Option Addr) (dk : Nat) (wb : World) (hf : Sl 11 RFieldD wb fa x.fields) (w : World) (hbb : Below wb.heap.size wb w) (hsn : ∀ f ∈ x.fields, f.ty.names.length ≤ 100000) :
    Calls Try.prog 34 #[s.val p, x.val fa fk da dk] w fun e w' => e = .returned (.bool (schB s x)) ∧ Below w.heap.size w w' := by
  by_cases hd : 0 ≤ x.issuer ∧ x.issuer < s.issuers.length ∧ 1 ≤ x.version ∧ x.version ≤ 255 ∧ 1 ≤ x.fields.length ∧ x.fields.length ≤ 12
  case neg =>
    have Hd := Lib.hid hd
    clear hf hbb hsn hd
    go_enter Try.func34, Try.ntmps34
    go_wp2_with fail
    all_goals (try (exfalso; have := Hd.out; omega))
    all_goals go_ret
    all_goals exact ⟨ret_bool (by have := Hd.out; simp [schB]; intros; omega), by (repeat (first | exact Below.refl _ _ | refine Below.alloc ?_ (by first | (simp; done) | (simp; omega)) _ | refine Below.setCell ?_ (by first | (simp; done) | (simp; omega)) _ | refine below_drewN ?_ _))⟩
  have hv : schB s x = (selfB x.fields && x.fields.all (fieldB s)) := by unfold schB; simp [hd]
  have Hv := Lib.hid hv
  clear hv
  obtain ⟨h1, h2, h3, h4, h5, h6⟩ := hd
  obtain ⟨b, off, e1, hl_d, _, a0, k0, d0, d1, -⟩ := FieldD.out (hf.below RFieldD.stab hbb) 0 (by omega)
  subst e1
  have Hsn := Lib.hid hsn
  have Hf := Lib.hid (hf.below RFieldD.stab hbb)
  have hself : selfB x.fields = decide (x.fields[0].ty.kind = 3) := by unfold selfB; rw [List.getElem?_eq_getElem (by omega)]
  generalize x.fields[0].ty.kind = kd at *
  have Hself := Lib.hid hself
  simp only [Nat.zero_mul, Nat.add_zero] at d1
  clear hf hbb hsn d0 hself
  have h5' : (0 : Int) < (x.fields.length : Int) := by omega
  by_cases hk3 : kd = 3
  case neg =>
    have q1 : (kd == 3) = false := by simpa using hk3
    have Hk3 := Lib.hid hk3
    clear hk3
    go_enter Try.func34, Try.ntmps34
    go_wp2_with fail
    all_goals (try (exfalso; omega))
    all_goals (try (exfalso; simp at *; omega))
    all_goals go_ret
    all_goals exact ⟨ret_bool (by rw [Hv.out, Hself.out]; simp [Hk3.out]), by (repeat (first | exact Below.refl _ _ | refine Below.alloc ?_ (by first | (simp; done) | (simp; omega)) _ | refine Below.setCell ?_ (by first | (simp; done) | (simp; omega)) _ | refine below_drewN ?_ _))⟩
  subst hk3
  rw [Hself.out, decide_eq_true rfl, Bool.true_and] at Hv
  go_enter Try.func34, Try.ntmps34
  go_wp2_with fail
  all_goals (try (exfalso; omega))
  all_goals (try (exfalso; simp at *; omega))
  clear d1 hl_d
  generalize hw0 : World.alloc _ _ = w0
  obtain ⟨X0, X1, hsz, hb0⟩ := blk2 hw0
  have x0 : w0.cell? ⟨w.heap.size, 0, none⟩ = some (.slice p.a0 s.issuers.length p.k0) := X0.cell 0
  have x1 : w0.cell? ⟨w.heap.size, 1, none⟩ = some (.slice p.a1 s.units.length p.k1) := X0.cell 1
  have x2 : w0.cell? ⟨w.heap.size, 2, none⟩ = some (.slice p.a2 s.schemas.length p.k2) := X0.cell 2
  have x3 : w0.cell? ⟨w.heap.size, 3, none⟩ = some (.slice p.a3 s.rules.length p.k3) := X0.cell 3
  have x4 : w0.cell? ⟨w.heap.size, 4, none⟩ = some (.slice p.a4 s.converts p.k4) := X0.cell 4
  have x5 : w0.cell? ⟨w.heap.size, 5, none⟩ = some (.slice p.a5 s.purposes.length p.k5) := X0.cell 5
  have hl_x : w.heap.size < w0.heap.size := by omega
  have y0 : w0.cell? ⟨w.heap.size + 1, 0, none⟩ = some (.string x.name) := X1.cell 0
  have y1 : w0.cell? ⟨w.heap.size + 1, 1, none⟩ = some (.string x.by_) := X1.cell 1
  have y2 : w0.cell? ⟨w.heap.size + 1, 2, none⟩ = some (.int .i64 x.issuer) := X1.cell 2
  have y3 : w0.cell? ⟨w.heap.size + 1, 3, none⟩ = some (.int .i64 x.version) := X1.cell 3
  have y4 : w0.cell? ⟨w.heap.size + 1, 4, none⟩ = some (.slice (some ⟨b, off, none⟩) x.fields.length fk) := X1.cell 4
  have y5 : w0.cell? ⟨w.heap.size + 1, 5, none⟩ = some (.slice da x.depends dk) := X1.cell 5
  have hl_y : w.heap.size + 1 < w0.heap.size := by omega
  have hwl : w.heap.size ≤ w0.heap.size := hb0.size
  have Hb := Lib.hid hb0
  clear hw0 hb0 hsz X0 X1
  go_loopw [5] (fun i wr => ∃ k : Nat, k ≤ x.fields.length ∧ i = .int .i64 k ∧ Hid (PreP (fieldB s) x.fields k) ∧ Below w0.heap.size w0 wr) (fun i _ => x.fields.length - (intOf i).toNat)
  case atStart => exact ⟨0, Nat.zero_le _, rfl, Lib.hid PreP.zero, Below.refl _ _⟩
  case round =>
    obtain ⟨k, hk, rfl, Hn, hb1⟩ := hrel
    have Hb1 := Lib.hid hb1
    have hwl1 := hb1.size
    replace x0 := cell_kept hb1 x0 hl_x
    replace x1 := cell_kept hb1 x1 hl_x
    replace x2 := cell_kept hb1 x2 hl_x
    replace x3 := cell_kept hb1 x3 hl_x
    replace x4 := cell_kept hb1 x4 hl_x
    replace x5 := cell_kept hb1 x5 hl_x
    replace y0 := cell_kept hb1 y0 hl_y
    replace y1 := cell_kept hb1 y1 hl_y
    replace y2 := cell_kept hb1 y2 hl_y
    replace y3 := cell_kept hb1 y3 hl_y
    replace y4 := cell_kept hb1 y4 hl_y
    replace y5 := cell_kept hb1 y5 hl_y
    replace Hb := Lib.hid (Hb.out.trans (hb1.mono hwl))
    replace hl_x := Nat.lt_of_lt_of_le hl_x hb1.size
    replace hl_y := Nat.lt_of_lt_of_le hl_y hb1.size
    replace hwl := Nat.le_trans hwl hb1.size
    clear hb1
    by_cases hlt : k < x.fields.length
    case neg =>
      have Hall := Lib.hid (Hn.out.all (by omega))
      go_wp2
      go_ret
      exact ⟨ret_bool (by rw [Hv.out, Hall.out]), Hb.out⟩
    have hlt' : (k : Int) < (x.fields.length : Int) := by omega
    obtain ⟨b', off', e1, hl_c, _, an, kn, c0, c1, c2, c3, c4, c5, c6, c7, c8, c9, c10, hnn⟩ := FieldD.out (Hf.out.below RFieldD.stab Hb.out) k hlt
    simp only [Option.some.injEq, Addr.mk.injEq, and_true] at e1
    obtain ⟨rfl, rfl⟩ := e1
    have hsuc := fun h => Hn.out.succ hlt h
    have hno := fun h => not_all (p := fieldB s) hlt h
    have hln := Hsn.out x.fields[k] (List.getElem_mem hlt)
    generalize x.fields[k] = f at *
    have Hsuc := Lib.hid hsuc
    have Hno := Lib.hid hno
    have Hnn := Lib.hid hnn
    clear hsuc hno hnn
    go_wp2_with fail
    cases hkb : kindB f.ty s.units.length with
    | false =>
      refine wp_region_grown (by kernel_rfl) (by kernel_rfl) ?_
      repeat (go_big_quiet_step (first | (go_at_call 42; exact calls_grown (rtype_eq s p f.ty an kn _ (Hnn.out.below RStr.stab (grown_below _ _)) hln false hkb))))
      refine wpQuiet_nil ?_
      intro w3 hw0
      have hb1 : Below wr.heap.size wr w3 := by obtain ⟨n, rfl⟩ := hw0; exact grown_below _ n
      clear hw0
      replace x0 := cell_kept hb1 x0 hl_x
      replace x1 := cell_kept hb1 x1 hl_x
      replace x2 := cell_kept hb1 x2 hl_x
      replace x3 := cell_kept hb1 x3 hl_x
      replace x4 := cell_kept hb1 x4 hl_x
      replace x5 := cell_kept hb1 x5 hl_x
      replace y0 := cell_kept hb1 y0 hl_y
      replace y1 := cell_kept hb1 y1 hl_y
      replace y2 := cell_kept hb1 y2 hl_y
      replace y3 := cell_kept hb1 y3 hl_y
      replace y4 := cell_kept hb1 y4 hl_y
      replace y5 := cell_kept hb1 y5 hl_y
      replace c0 := cell_kept hb1 c0 hl_c
      replace c1 := cell_kept hb1 c1 hl_c
      replace c2 := cell_kept hb1 c2 hl_c
      replace c3 := cell_kept hb1 c3 hl_c
      replace c4 := cell_kept hb1 c4 hl_c
      replace c5 := cell_kept hb1 c5 hl_c
      replace c6 := cell_kept hb1 c6 hl_c
      replace c7 := cell_kept hb1 c7 hl_c
      replace c8 := cell_kept hb1 c8 hl_c
      replace c9 := cell_kept hb1 c9 hl_c
      replace c10 := cell_kept hb1 c10 hl_c
      replace Hb := Lib.hid (Hb.out.trans (hb1.mono hwl))
      replace Hb1 := Lib.hid (Hb1.out.trans (hb1.mono hwl1))
      replace hl_x := Nat.lt_of_lt_of_le hl_x hb1.size
      replace hl_y := Nat.lt_of_lt_of_le hl_y hb1.size
      replace hl_c := Nat.lt_of_lt_of_le hl_c hb1.size
      replace hwl := Nat.le_trans hwl hb1.size
      replace hwl1 := Nat.le_trans hwl1 hb1.size
      clear hb1
      go_wp2
      go_ret
      exact ⟨ret_bool (by rw [Hv.out, Hno.out (by simp [fieldB, hkb])]), Hb.out⟩
    | true =>
      have Hkb := Lib.hid hkb
      refine wp_region_grown (by kernel_rfl) (by kernel_rfl) ?_
      repeat (go_big_quiet_step (first | (go_at_call 42; exact calls_grown (rtype_eq s p f.ty an kn _ (Hnn.out.below RStr.stab (grown_below _ _)) hln true hkb))))
      refine wpQuiet_nil ?_
      intro w3 hw0
      have hb1 : Below wr.heap.size wr w3 := by obtain ⟨n, rfl⟩ := hw0; exact grown_below _ n
      clear hw0
      replace x0 := cell_kept hb1 x0 hl_x
      replace x1 := cell_kept hb1 x1 hl_x
      replace x2 := cell_kept hb1 x2 hl_x
      replace x3 := cell_kept hb1 x3 hl_x
      replace x4 := cell_kept hb1 x4 hl_x
      replace x5 := cell_kept hb1 x5 hl_x
      replace y0 := cell_kept hb1 y0 hl_y
      replace y1 := cell_kept hb1 y1 hl_y
      replace y2 := cell_kept hb1 y2 hl_y
      replace y3 := cell_kept hb1 y3 hl_y
      replace y4 := cell_kept hb1 y4 hl_y
      replace y5 := cell_kept hb1 y5 hl_y
      replace c0 := cell_kept hb1 c0 hl_c
      replace c1 := cell_kept hb1 c1 hl_c
      replace c2 := cell_kept hb1 c2 hl_c
      replace c3 := cell_kept hb1 c3 hl_c
      replace c4 := cell_kept hb1 c4 hl_c
      replace c5 := cell_kept hb1 c5 hl_c
      replace c6 := cell_kept hb1 c6 hl_c
      replace c7 := cell_kept hb1 c7 hl_c
      replace c8 := cell_kept hb1 c8 hl_c
      replace c9 := cell_kept hb1 c9 hl_c
      replace c10 := cell_kept hb1 c10 hl_c
      replace Hb := Lib.hid (Hb.out.trans (hb1.mono hwl))
      replace Hb1 := Lib.hid (Hb1.out.trans (hb1.mono hwl1))
      replace hl_x := Nat.lt_of_lt_of_le hl_x hb1.size
      replace hl_y := Nat.lt_of_lt_of_le hl_y hb1.size
      replace hl_c := Nat.lt_of_lt_of_le hl_c hb1.size
      replace hwl := Nat.le_trans hwl hb1.size
      replace hwl1 := Nat.le_trans hwl1 hb1.size
      clear hb1
      clear hkb
      go_wp2_with fail
      obtain ⟨wo, rfl⟩ : ∃ wo : World, wo = wr := ⟨_, rfl⟩
      go_loopw [6] (fun i wr => ∃ j : Nat, j ≤ 4 ∧ i = .int .i64 j ∧ Hid (([f.w0, f.w1, f.w2, f.w3].take j).all wOK = true) ∧ Below w3.heap.size w3 wr) (fun i _ => 4 - (intOf i).toNat)
      case atStart => exact ⟨0, Nat.zero_le _, rfl, Lib.hid rfl, Below.refl _ _⟩
      case round =>
        obtain ⟨j, hj, rfl, HQ, hb1⟩ := hrel
        have Hb2 := Lib.hid hb1
        have hwl2 := hb1.size
        replace x0 := cell_kept hb1 x0 hl_x
        replace x1 := cell_kept hb1 x1 hl_x
        replace x2 := cell_kept hb1 x2 hl_x
        replace x3 := cell_kept hb1 x3 hl_x
        replace x4 := cell_kept hb1 x4 hl_x
        replace x5 := cell_kept hb1 x5 hl_x
        replace y0 := cell_kept hb1 y0 hl_y
        replace y1 := cell_kept hb1 y1 hl_y
        replace y2 := cell_kept hb1 y2 hl_y
        replace y3 := cell_kept hb1 y3 hl_y
        replace y4 := cell_kept hb1 y4 hl_y
        replace y5 := cell_kept hb1 y5 hl_y
        replace c0 := cell_kept hb1 c0 hl_c
        replace c1 := cell_kept hb1 c1 hl_c
        replace c2 := cell_kept hb1 c2 hl_c
        replace c3 := cell_kept hb1 c3 hl_c
        replace c4 := cell_kept hb1 c4 hl_c
        replace c5 := cell_kept hb1 c5 hl_c
        replace c6 := cell_kept hb1 c6 hl_c
        replace c7 := cell_kept hb1 c7 hl_c
        replace c8 := cell_kept hb1 c8 hl_c
        replace c9 := cell_kept hb1 c9 hl_c
        replace c10 := cell_kept hb1 c10 hl_c
        replace Hb := Lib.hid (Hb.out.trans (hb1.mono hwl))
        replace Hb1 := Lib.hid (Hb1.out.trans (hb1.mono hwl1))
        replace hl_x := Nat.lt_of_lt_of_le hl_x hb1.size
        replace hl_y := Nat.lt_of_lt_of_le hl_y hb1.size
        replace hl_c := Nat.lt_of_lt_of_le hl_c hb1.size
        replace hwl := Nat.le_trans hwl hb1.size
        replace hwl1 := Nat.le_trans hwl1 hb1.size
        clear hb1
        rcases (show j = 0 ∨ j = 1 ∨ j = 2 ∨ j = 3 ∨ j = 4 by omega) with rfl | rfl | rfl | rfl | rfl
        · by_cases hw : 0 ≤ f.w0 ∧ f.w0 ≤ 9
          · obtain ⟨hw0, hw1⟩ := hw
            go_wp2_with fail
            all_goals (try (exfalso; omega))
            go_roundw
            case rel => exact ⟨1, by omega, by go_num, Lib.hid (by have e : [f.w0, f.w1, f.w2, f.w3].take 1 = [f.w0, f.w1, f.w2, f.w3].take 0 ++ [f.w0] := rfl; rw [e, List.all_append, HQ.out]; simp [wOK, hw0, hw1]), Hb2.out⟩
            case measure => simp [intOf]
          · have hq : wOK f.w0 = false := by simp [wOK]; omega
            have hfb : fieldB s f = false := by simp [fieldB, hq]
            have Hfb := Lib.hid (Hno.out hfb)
            have Hw := Lib.hid hw
            clear hw hq hfb
            go_wp2_with fail
            all_goals (try (exfalso; have := Hw.out; omega))
            all_goals go_ret
            all_goals exact ⟨ret_bool (by rw [Hv.out, Hfb.out]), Hb.out⟩
        · by_cases hw : 0 ≤ f.w1 ∧ f.w1 ≤ 9
          · obtain ⟨hw0, hw1⟩ := hw
            go_wp2_with fail
            all_goals (try (exfalso; omega))
            go_roundw
            case rel => exact ⟨2, by omega, by go_num, Lib.hid (by have e : [f.w0, f.w1, f.w2, f.w3].take 2 = [f.w0, f.w1, f.w2, f.w3].take 1 ++ [f.w1] := rfl; rw [e, List.all_append, HQ.out]; simp [wOK, hw0, hw1]), Hb2.out⟩
            case measure => simp [intOf]
          · have hq : wOK f.w1 = false := by simp [wOK]; omega
            have hfb : fieldB s f = false := by simp [fieldB, hq]
            have Hfb := Lib.hid (Hno.out hfb)
            have Hw := Lib.hid hw
            clear hw hq hfb
            go_wp2_with fail
            all_goals (try (exfalso; have := Hw.out; omega))
            all_goals go_ret
            all_goals exact ⟨ret_bool (by rw [Hv.out, Hfb.out]), Hb.out⟩
        · by_cases hw : 0 ≤ f.w2 ∧ f.w2 ≤ 9
          · obtain ⟨hw0, hw1⟩ := hw
            go_wp2_with fail
            all_goals (try (exfalso; omega))
            go_roundw
            case rel => exact ⟨3, by omega, by go_num, Lib.hid (by have e : [f.w0, f.w1, f.w2, f.w3].take 3 = [f.w0, f.w1, f.w2, f.w3].take 2 ++ [f.w2] := rfl; rw [e, List.all_append, HQ.out]; simp [wOK, hw0, hw1]), Hb2.out⟩
            case measure => simp [intOf]
          · have hq : wOK f.w2 = false := by simp [wOK]; omega
            have hfb : fieldB s f = false := by simp [fieldB, hq]
            have Hfb := Lib.hid (Hno.out hfb)
            have Hw := Lib.hid hw
            clear hw hq hfb
            go_wp2_with fail
            all_goals (try (exfalso; have := Hw.out; omega))
            all_goals go_ret
            all_goals exact ⟨ret_bool (by rw [Hv.out, Hfb.out]), Hb.out⟩
        · by_cases hw : 0 ≤ f.w3 ∧ f.w3 ≤ 9
          · obtain ⟨hw0, hw1⟩ := hw
            go_wp2_with fail
            all_goals (try (exfalso; omega))
            go_roundw
            case rel => exact ⟨4, by omega, by go_num, Lib.hid (by have e : [f.w0, f.w1, f.w2, f.w3].take 4 = [f.w0, f.w1, f.w2, f.w3].take 3 ++ [f.w3] := rfl; rw [e, List.all_append, HQ.out]; simp [wOK, hw0, hw1]), Hb2.out⟩
            case measure => simp [intOf]
          · have hq : wOK f.w3 = false := by simp [wOK]; omega
            have hfb : fieldB s f = false := by simp [fieldB, hq]
            have Hfb := Lib.hid (Hno.out hfb)
            have Hw := Lib.hid hw
            clear hw hq hfb
            go_wp2_with fail
            all_goals (try (exfalso; have := Hw.out; omega))
            all_goals go_ret
            all_goals exact ⟨ret_bool (by rw [Hv.out, Hfb.out]), Hb.out⟩
        · have hq : [f.w0, f.w1, f.w2, f.w3].all wOK = true := HQ.out
          go_wp2_with fail
          go_roundw
          case rel => exact ⟨k + 1, by omega, by go_num, Lib.hid (Hsuc.out (by rw [fieldB, Hkb.out, hq]; rfl)), Hb1.out⟩
          case measure => simp [intOf]; omega
end Go.Proofs.Ytogenjbabgibbaa
