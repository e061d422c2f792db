import Derived.Test.YtffmgfehaahlhaaDoorPart5
import Derived.Test.YtffmgfehaahlhaaDoorTie
import Derived.Test.YtffmgfehaahlhaaDoorCards
set_option linter.all false
set_option linter.unusedSimpArgs false
set_option linter.unusedVariables false
set_option linter.unnecessarySimpa false
namespace Go.Proofs.YtffmgfehaahlhaaDoor
open Go.ChangeShapes Go.WideShapes Go.ChangeAt Go.RowKit
namespace possibleMore
theorem bytes26 : Tryd.prog.bytesOf 26 = 40 := by kernel_rfl
theorem bytes28 : Tryd.prog.bytesOf 28 = 64 := by kernel_rfl
set_option maxRecDepth 100000 in
set_option maxHeartbeats 4000000 in
theorem main_pure (ni : Bool) (I : List IssuedD) (hi1 : ni = true → I = []) (hi2 : ∀ x ∈ I, x.fine) (hi3 : I.length ≤ maxLen) (hi4 : I.length * Tryd.prog.bytesOf 26 ≤ reachBytes) (ns : Bool) (S : List SeenD) (hs1 : ns = true → S = []) (hs2 : ∀ x ∈ S, x.fine) (hs3 : S.length ≤ maxLen) (hs4 : S.length * Tryd.prog.bytesOf 28 ≤ reachBytes) (g : Int) (hg : InR .i64 g) (x : IssuedD) (hx : x.fine) (s : SeenD) (hsf : s.fine) :
    Pure Tryd.prog 7 [.slm 3 (some (.var ni)) IssuedD.c I, .slm 4 (some (.var ns)) SeenD.c S, i64 g, .agg x.c, .agg s.c] (boolD true) := by
  have hS := sane_pure
  rw [bytes26] at hi4
  rw [bytes28] at hs4
  have hi5 : I.length * 40 ≤ 140737488351232 := hi4
  have hs5 : S.length * 64 ≤ 140737488351232 := hs4
  clear hi4 hs4
  have hF := Few_pure (I ++ [x]) (S ++ [s]) none none (by simp; omega) (by simp; omega)
  obtain ⟨fw, hfw⟩ : ∃ b, b = fewB (I ++ [x]) (S ++ [s]) := ⟨_, rfl⟩
  rw [← hfw] at hF
  have hB := fun h : fw = true => few_big (hfw.symm.trans h)
  have hbI : fw = true → BigI I ∧ I.length ≤ 12 := fun h => ⟨⟨by have := (hB h).2.2.1; simp at this; omega, fun y hy => (hB h).1.vals y (by simp [hy])⟩, by have := (hB h).2.2.1; simp at this; omega⟩
  have hbS : fw = true → BigS S ∧ S.length ≤ 5 := fun h => ⟨⟨by have := (hB h).2.2.2; simp at this; omega, fun y hy => (hB h).2.1.fields y (by simp [hy]), fun y hy => (hB h).2.1.vals y (by simp [hy])⟩, by have := (hB h).2.2.2; simp at this; omega⟩
  have hO1 := fun h : fw = true => Of_pure I S g (some (.var ni)) (some (.var ns)) (hbI h).1 (hbS h).1
  have hO2 := fun h : fw = true => Of_pure (I ++ [x]) S g none (some (.var ns)) (hB h).1 (hbS h).1
  have hO3 := fun h : fw = true => Of_pure I (S ++ [s]) g (some (.var ni)) none (hbI h).1 (hB h).2.1
  have hX := fun h : fw = true => Issued_pure x ((hB h).1.vals x (by simp))
  have hY := fun h : fw = true => Seen_pure s ((hB h).2.1.fields s (by simp)) ((hB h).2.1.vals s (by simp))
  have hlen : ∀ (J : List IssuedD) (R : List SeenD), J.length ≤ 20 → (ofA J R g).length < 9223372036854775807 := fun J R h => by
    have h3 := List.length_filter_le (fun p => !(firstR J R g p R.length []).isNone) (peopleL J)
    have h4 := people_len J J.length
    rw [List.take_of_length_le (Nat.le_refl _)] at h4
    unfold ofA ofR
    split
    · omega
    · simp
  have hW1 := fun (h : fw = true) na nb => within_pure (ofA I S g) (ofA (I ++ [x]) S g) na nb (hlen _ _ (by have := (hbI h).2; omega)) (hlen _ _ (by have := (hB h).2.2.1; omega))
  have hW2 := fun (h : fw = true) na nb => within_pure (ofA I (S ++ [s]) g) (ofA I S g) na nb (hlen _ _ (by have := (hbI h).2; omega)) (hlen _ _ (by have := (hbI h).2; omega))
  have k2 : fw = true → okOf I S g = true → okOf (I ++ [x]) S g = issB x := fun h h2 => ok_more h2 (hbI h).2
  have k3 : fw = true → okOf I S g = true → okOf I (S ++ [s]) g = seenB s := fun h h2 => ok_less h2 (hbS h).2
  have w2 : okOf I S g = true → okOf (I ++ [x]) S g = true → withinB (ofA I S g) (ofA (I ++ [x]) S g) = true := of_more
  have w3 : okOf I S g = true → okOf I (S ++ [s]) g = true → withinB (ofA I (S ++ [s]) g) (ofA I S g) = true := of_less
  obtain ⟨o1, ho1⟩ : ∃ b, b = okOf I S g := ⟨_, rfl⟩
  obtain ⟨o2, ho2⟩ : ∃ b, b = okOf (I ++ [x]) S g := ⟨_, rfl⟩
  obtain ⟨o3, ho3⟩ : ∃ b, b = okOf I (S ++ [s]) g := ⟨_, rfl⟩
  obtain ⟨l1, hl1⟩ : ∃ b, b = ofA I S g := ⟨_, rfl⟩
  obtain ⟨l2, hl2⟩ : ∃ b, b = ofA (I ++ [x]) S g := ⟨_, rfl⟩
  obtain ⟨l3, hl3⟩ : ∃ b, b = ofA I (S ++ [s]) g := ⟨_, rfl⟩
  obtain ⟨bx, hbx⟩ : ∃ b, b = issB x := ⟨_, rfl⟩
  obtain ⟨bs, hbs⟩ : ∃ b, b = seenB s := ⟨_, rfl⟩
  rw [← hl1] at hO1 hW1 hW2 w2 w3
  rw [← hl2] at hO2 hW1 w2
  rw [← hl3] at hO3 hW2 w3
  rw [← ho1] at hO1 k2 k3 w2 w3
  rw [← ho2] at hO2 k2 w2
  rw [← ho3] at hO3 k3 w3
  rw [← hbx] at hX k2
  rw [← hbs] at hY k3
  obtain ⟨e1, he1⟩ : ∃ x : Int, x = if o1 then 0 else 300 := ⟨_, rfl⟩
  obtain ⟨e2, he2⟩ : ∃ x : Int, x = if o2 then 0 else 300 := ⟨_, rfl⟩
  obtain ⟨e3, he3⟩ : ∃ x : Int, x = if o3 then 0 else 300 := ⟨_, rfl⟩
  rw [← he1] at hO1
  rw [← he2] at hO2
  rw [← he3] at hO3
  obtain ⟨n1, hn1⟩ : ∃ x, x = decide (l1.length = 0) := ⟨_, rfl⟩
  obtain ⟨n2, hn2⟩ : ∃ x, x = decide (l2.length = 0) := ⟨_, rfl⟩
  obtain ⟨n3, hn3⟩ : ∃ x, x = decide (l3.length = 0) := ⟨_, rfl⟩
  rw [← hn1] at hO1
  rw [← hn2] at hO2
  rw [← hn3] at hO3
  obtain ⟨m2, hm2⟩ : ∃ x, x = withinB l1 l2 := ⟨_, rfl⟩
  obtain ⟨m3, hm3⟩ : ∃ x, x = withinB l3 l1 := ⟨_, rfl⟩
  rw [← hm2] at hW1 w2
  rw [← hm3] at hW2 w3
  obtain ⟨IX, hIX⟩ : ∃ l, l = I ++ [x] := ⟨_, rfl⟩
  obtain ⟨SX, hSX⟩ : ∃ l, l = S ++ [s] := ⟨_, rfl⟩
  rw [← hIX] at hF hO2
  rw [← hSX] at hF hO3
  have hIXc : IX.map IssuedD.c = I.map IssuedD.c ++ [x.c] := by rw [hIX]; simp
  have hSXc : SX.map SeenD.c = S.map SeenD.c ++ [s.c] := by rw [hSX]; simp
  have hIXl : (IX.length : Int) = (I.length : Int) + 1 := by rw [hIX]; simp
  have hSXl : (SX.length : Int) = (S.length : Int) + 1 := by rw [hSX]; simp
  clear hfw hB hbI hbS hlen ho1 ho2 ho3 hl1 hl2 hl3 hbx hbs hn1 hn2 hn3 hm2 hm3 hIX hSX hi1 hi2 hi3 hs1 hs2 hs3 hg hx hsf
  obtain ⟨y1, y2, y3, y4⟩ := x
  obtain ⟨z1, z2, z3, z4, z5, z6⟩ := s
  have e : (boolD true : D) = retD [boolD true] := rfl
  rw [e]
  refine Pure.introC T_ok Tryd.func7 rfl (by kernel_rfl) (rs := [.tmp 10]) rfl (by kernel_rfl) ?_
  generalize hP : Tryd.prog = P at *
  have hT : T.ok P := hP ▸ T_ok
  have hm : P.follows .mixedOrders = true := hP ▸ follows
  unfold Tryd.f7
  dsimp only
  refine CodeP.seq (vc_sound hT hm _ ?_)
  cbv
  refine CodeP.seq (vc_sound hT hm _ ?_)
  cbv
  refine CallP.pure _ hS rfl ?_
  cbv
  refine SplitP.mk (fun hs => ?_) (fun hs => ?_)
  · cases (show (!true) = true from hs)
  clear hs
  refine CodeP.seq (vc_sound hT hm _ ?_)
  cbv
  refine FootP.intro hT hm [(2, [2]), (5, [2])] (by kernel_rfl) ?_
  cbv
  refine ReqP.mk ⟨by show (I.length : Int) = (((RE.map IssuedD.c I).den.length : Nat) : Int); simp [RE.den], rfl, map_cells (fun _ => rfl), (by intro e he; cases he), by show (0 : Int) + (I.length : Int) ≤ _; omega, by show ((0 : Int) + (I.length : Int)) * ((40 : Nat) : Int) ≤ _; omega⟩ (fun _ => ?_)
  refine ReqP.mk ⟨rfl, by show (I.length : Int) = _; simp [RE.den], (by intro e he; simp only [RE.den, List.mem_singleton] at he; subst he; rfl), (by intro e he; simp only [RE.den, List.nil_append, List.mem_map] at he; obtain ⟨x, _, rfl⟩ := he; rfl), by show (I.length : Int) + 1 ≤ _; omega, by show ((I.length : Int) + 1) * ((40 : Nat) : Int) ≤ _; omega⟩ (fun _ => ?_)
  refine CodeP.seq (vc_sound hT hm _ ?_)
  cbv
  refine FootP.intro hT hm [(2, [3]), (5, [3])] (by kernel_rfl) ?_
  cbv
  refine ReqP.mk ⟨by show (S.length : Int) = (((RE.map SeenD.c S).den.length : Nat) : Int); simp [RE.den], rfl, map_cells (fun _ => rfl), (by intro e he; cases he), by show (0 : Int) + (S.length : Int) ≤ _; omega, by show ((0 : Int) + (S.length : Int)) * ((64 : Nat) : Int) ≤ _; omega⟩ (fun _ => ?_)
  refine ReqP.mk ⟨rfl, by show (S.length : Int) = _; simp [RE.den], (by intro e he; simp only [RE.den, List.mem_singleton] at he; subst he; rfl), (by intro e he; simp only [RE.den, List.nil_append, List.mem_map] at he; obtain ⟨x, _, rfl⟩ := he; rfl), by show (S.length : Int) + 1 ≤ _; omega, by show ((S.length : Int) + 1) * ((64 : Nat) : Int) ≤ _; omega⟩ (fun _ => ?_)
  refine CodeP.pre [(0, .slm 3 (some (.var ni)) IssuedD.c I), (1, .slm 4 (some (.var ns)) SeenD.c S), (2, i64 g), (8, .ptr 0 1 0), (9, .ptr 1 1 0), (11, .slm 3 none IssuedD.c IX), (12, .slm 4 none SeenD.c SX)]
    [.cells (IssuedD.c ⟨y1, y2, y3, y4⟩), .cells (SeenD.c ⟨z1, z2, z3, z4, z5, z6⟩), .dead, .dead] ⟨⟨.refl _, .refl _, .refl _, .refl _, .refl _, .slm rfl (.inl ⟨_, _, rfl, by simp [RE.den, hIXc]⟩) rfl (by simp only [IE.den]; exact hIXl.symm) (fun e h => by cases h), .slm rfl (.inl ⟨_, _, rfl, by simp [RE.den, hSXc]⟩) rfl (by simp only [IE.den]; exact hSXl.symm) (fun e h => by cases h), trivial⟩, ⟨.refl _, .refl _, .dead _, .dead _, trivial⟩, rfl⟩ (Nat.zero_le _) ?_
  refine vc_sound hT hm _ ?_
  cbv
  refine CallP.pure _ hF rfl ?_
  cbv
  refine SplitP.mk (fun hs => ?_) (fun hs => ?_)
  · exact .mk (.cons (.eq (.bool rfl)) .nil) rfl
  have h10 : fw = true := by simpa using (show (!fw) = false from hs)
  clear hs
  refine CallP.pure _ (hO1 h10) rfl ?_
  cbv
  refine SplitP.mk (fun hs => ?_) (fun hs => ?_)
  · exact .mk (.cons (.eq (.bool rfl)) .nil) rfl
  have hk : o1 = true := by
    have h3 : (e1 != 0) = false := hs
    rw [he1] at h3
    cases o1 with
    | true => rfl
    | false => cases h3
  have k2' := k2 h10 hk
  have k3' := k3 h10 hk
  have w2' := w2 hk
  have w3' := w3 hk
  clear hs k2 k3 w2 w3
  refine CallP.pure _ (hO2 h10) rfl ?_
  cbv
  refine CallP.pure _ (hO3 h10) rfl ?_
  cbv
  refine SplitP.mk (fun hs => ?_) (fun hs => ?_)
  · have h3 : (e2 != 0) = true := hs
    have ho : o2 = false := by
      rw [he2] at h3
      cases o2 with
      | true => cases h3
      | false => rfl
    have hr : bx = false := by rw [← k2', ho]
    refine CallP.pure _ (hX h10) rfl ?_
    cbv
    refine SplitP.mk (fun _ => ?_) (fun hs => (by have h5 : (!bx) = false := hs; rw [hr] at h5; cases h5))
    refine SplitP.mk (fun hs => ?_) (fun hs => ?_)
    · have h3 : (e3 != 0) = true := hs
      have hp : o3 = false := by
        rw [he3] at h3
        cases o3 with
        | true => cases h3
        | false => rfl
      have hq : bs = false := by rw [← k3', hp]
      refine CallP.pure _ (hY h10) rfl ?_
      cbv
      refine SplitP.mk (fun _ => ?_) (fun hs => (by have h5 : (!bs) = false := hs; rw [hq] at h5; cases h5))
      exact .mk (.cons (.eq (.bool rfl)) .nil) rfl
    · have h3 : (e3 != 0) = false := hs
      have hp : o3 = true := by
        rw [he3] at h3
        cases o3 with
        | true => rfl
        | false => cases h3
      have h4 : e3 = 0 := by rw [he3, hp]; rfl
      refine SplitP.mk (fun hs => ?_) (fun hs => (by have h5 : (e3 == 0) = false := hs; rw [h4] at h5; cases h5))
      refine CallP.pure _ (hW2 h10 _ _) rfl ?_
      cbv
      refine .mk (.cons (.eq (.bool ?_)) .nil) rfl
      exact w3' hp
  · have h3 : (e2 != 0) = false := hs
    have ho : o2 = true := by
      rw [he2] at h3
      cases o2 with
      | true => rfl
      | false => cases h3
    have h4 : e2 = 0 := by rw [he2, ho]; rfl
    refine SplitP.mk (fun hs => ?_) (fun hs => (by have h5 : (e2 == 0) = false := hs; rw [h4] at h5; cases h5))
    refine CallP.pure _ (hW1 h10 _ _) rfl ?_
    cbv
    refine SplitP.mk (fun _ => ?_) (fun hs => (by have h5 : m2 = false := hs; rw [w2' ho] at h5; cases h5))
    refine SplitP.mk (fun hs => ?_) (fun hs => ?_)
    · have h3 : (e3 != 0) = true := hs
      have hp : o3 = false := by
        rw [he3] at h3
        cases o3 with
        | true => cases h3
        | false => rfl
      have hq : bs = false := by rw [← k3', hp]
      refine CallP.pure _ (hY h10) rfl ?_
      cbv
      refine SplitP.mk (fun _ => ?_) (fun hs => (by have h5 : (!bs) = false := hs; rw [hq] at h5; cases h5))
      exact .mk (.cons (.eq (.bool rfl)) .nil) rfl
    · have h3 : (e3 != 0) = false := hs
      have hp : o3 = true := by
        rw [he3] at h3
        cases o3 with
        | true => rfl
        | false => cases h3
      have h4 : e3 = 0 := by rw [he3, hp]; rfl
      refine SplitP.mk (fun hs => ?_) (fun hs => (by have h5 : (e3 == 0) = false := hs; rw [h4] at h5; cases h5))
      refine CallP.pure _ (hW2 h10 _ _) rfl ?_
      cbv
      refine .mk (.cons (.eq (.bool ?_)) .nil) rfl
      exact w3' hp
theorem own : ownKnob Tryd.prog.godebug = none := by kernel_rfl
theorem laidOut : laidOutB Tryd.prog = true := by kernel_rfl
set_option maxRecDepth 100000 in
theorem lifted (os : Os) (started : os.Started) (H : Type) (enc : TypeId × Value → H) :
    ReturnsInHanded {} Tryd.checked os 7 .any (fun w args => (Rows.possibleMoreSpec.pre enc Tryd.prog Tryd.f7 [] false w args ∧ laidMetH Tryd.prog laidR w) ∧ sizedMet enc Tryd.prog Tryd.f7 (OpenSpec.ofChange Rows.possibleMoreSpec) false w args) (Rows.possibleMoreSpec.post enc Tryd.prog Tryd.f7 false true false false) := by
  refine returnsInHanded_of_change_and (C := Tryd.checked) (X := fun w _ => laidMetH Tryd.prog laidR w) (fun _ _ _ hh h => h.of_heap hh) own started (by kernel_rfl) Tryd.func7
    (ChangeSpec.witness_shaped (enc := enc) (C := Tryd.checked) (os := os) (X := fun w _ => laidMetH Tryd.prog laidR w) false (World.doorLaid Tryd.prog 400 os) #[.slice none 0 0, .slice none 0 0, .int .i64 0, .agg #[.int .i64 0, .int .i64 0, .slice none 0 0], .agg #[.int .i64 0, .int .i64 0, .slice none 0 0, .slice none 0 0]] 8 rfl (World.shaped_of_RefB (by kernel_rfl) (by kernel_rfl)) (by kernel_rfl) (by kernel_rfl) (by kernel_rfl) (door_met os _)) ?_
  intro W base args ds gs before hval0 hW _ hSz hL _
  have hval : ∀ (j : Nat) t v, Tryd.f7.params[j]? = some t → args[j]? = some v → Value.okWide Tryd.prog W .any base t v := hval0
  have hW' := hW
  obtain ⟨p, q, hA0, hV, rfl, hfz, hnd⟩ := hW
  have hA : DataW.TrodAll enc Tryd.prog W 0 (fun _ => true) true Tryd.f7.params.toList args.toList ds p := hA0
  rw [Tryd.params7] at hA hval
  obtain ⟨v0, vs0, d0, ds0, p0, q0, hargs, rfl, rfl, h0, r0⟩ := trodAll_cons hA
  obtain ⟨v1, vs1, d1, ds1, p1, q1, rfl, rfl, rfl, h1, r1⟩ := trodAll_cons r0
  obtain ⟨v2, vs2, d2, ds2, p2, q2, rfl, rfl, rfl, h2, r2⟩ := trodAll_cons r1
  obtain ⟨v3, vs3, d3, ds3, p3, q3, rfl, rfl, rfl, h3, r3⟩ := trodAll_cons r2
  obtain ⟨v4, vs4, d4, ds4, p4, q4, rfl, rfl, rfl, h4, r4⟩ := trodAll_cons r3
  obtain ⟨rfl, rfl, rfl⟩ := trodAll_nil r4
  obtain rfl : args = #[v0, v1, v2, v3, v4] := by cases args; simp_all
  obtain ⟨rfl, rfl⟩ := trodVars_none hV
  have k0 := h0
  have lt0 : ∀ x ∈ p0, x.block < W.heap.size := by obtain ⟨m, hm⟩ := k0; exact DataW.trod_lt m _ _ _ hm
  obtain ⟨⟨nb0, l0⟩, ⟨ln0, lk0, ll0⟩, rp0, lx0⟩ := open_slz (e := 26) (by kernel_rfl) opd_issueds (hval 0 22 v0 rfl rfl) h0
  have lz0 := lx0 _ _ 0 hSz (by kernel_rfl) rfl
  have k1 := h1
  have lt1 : ∀ x ∈ p1, x.block < W.heap.size := by obtain ⟨m, hm⟩ := k1; exact DataW.trod_lt m _ _ _ hm
  obtain ⟨⟨nb1, l1⟩, ⟨ln1, lk1, ll1⟩, rp1, lx1⟩ := open_slz (e := 28) (by kernel_rfl) opd_seens (hval 1 23 v1 rfl rfl) h1
  have lz1 := lx1 _ _ 1 hSz (by kernel_rfl) rfl
  have k2 := h2
  have lt2 : ∀ x ∈ p2, x.block < W.heap.size := by obtain ⟨m, hm⟩ := k2; exact DataW.trod_lt m _ _ _ hm
  obtain ⟨z2, wf2, rp2⟩ := open_i Tryd.underlying3 (hval 2 3 v2 rfl rfl) h2
  have k3 := h3
  have lt3 : ∀ x ∈ p3, x.block < W.heap.size := by obtain ⟨m, hm⟩ := k3; exact DataW.trod_lt m _ _ _ hm
  obtain ⟨s3, sf3, rp3⟩ := open_st Tryd.underlying26 opd_issued (hval 3 26 v3 rfl rfl) h3
  have k4 := h4
  have lt4 : ∀ x ∈ p4, x.block < W.heap.size := by obtain ⟨m, hm⟩ := k4; exact DataW.trod_lt m _ _ _ hm
  obtain ⟨s4, sf4, rp4⟩ := open_st Tryd.underlying28 opd_seen (hval 4 28 v4 rfl rfl) h4
  clear hA0 hval0
  refine (Pure.law (main_pure nb0 l0 ln0 lk0 ll0 lz0 nb1 l1 ln1 lk1 ll1 lz1 z2 wf2 s3 sf3 s4 sf4) (of_laid hL) (lrep_cons rp0 (lrep_cons rp1 (lrep_cons rp2 (lrep_cons rp3 (lrep_cons rp4 LRep.nil)))))).mono fun e W' ⟨he, bel⟩ => ?_
  subst he
  exact ⟨_, rfl, _, _, _, [], _, [], hW', trodAll_mk1 (shut_bool Tryd.underlying4 _), (trodAll_cons_mk (Below.trod laidOut (by kernel_rfl) (of_decide_eq_true (by kernel_rfl)) k0 bel lt0) (trodAll_cons_mk (Below.trod laidOut (by kernel_rfl) (of_decide_eq_true (by kernel_rfl)) k1 bel lt1) (trodAll_cons_mk (Below.trod laidOut (by kernel_rfl) (of_decide_eq_true (by kernel_rfl)) k2 bel lt2) (trodAll_cons_mk (Below.trod laidOut (by kernel_rfl) (of_decide_eq_true (by kernel_rfl)) k3 bel lt3) (trodAll_cons_mk (Below.trod laidOut (by kernel_rfl) (of_decide_eq_true (by kernel_rfl)) k4 bel lt4) trodAll_mk0))))), rfl, bel.frame _, fun h => by cases h⟩

theorem over : Rows.possibleMoreRow.holds Tryd.pinned (OpenSpec.ofChange Rows.possibleMoreSpec) :=
  OpenClaim.holds_of_wide 7 Tryd.f7 rfl rfl rfl rfl rfl rfl rfl ⟨rfl, rfl, rfl, rfl, rfl⟩ rfl rfl rfl rfl rfl (by kernel_rfl) Tryd.func7 (by kernel_rfl)
    (of_decide_eq_true (by kernel_rfl)) (by unfold Func.isWrapper; first | (rw [if_pos (by decide +kernel)]; kernel_rfl) | (rw [if_neg (by decide +kernel)]; exact ⟨rfl, rfl⟩))
    (fun os started H enc _ => lifted os started H enc)
theorem card : Rows.PossibleMoreCardSaid :=
  Claim7.holds_tied_plain_at .later [] [.data] true (true, "0ba69c9015ec36225fad3d349e9e33d8c719f02d1fa742a6aef5915b5d7b3d20") false
    over (fun _ h => by cases h) (by kernel_rfl) (fun _ h => by cases h) possibleMore_row_tie rfl ⟨rfl, rfl⟩ (by kernel_rfl) rfl
    (fun f fn hf hfn => by
      obtain rfl : f = 7 := Option.some.inj ((show Tryd.prog.funcNamed "testamur/testamurlaw30.PossibleMore" = some 7 by kernel_rfl).symm.trans hf) |>.symm
      obtain rfl : fn = Tryd.f7 := (Option.some.inj (Tryd.func7.symm.trans hfn)).symm
      exact ⟨by kernel_rfl, fun j t ht => by
        rw [Tryd.params7] at ht
        have hm : t ∈ [22, 23, 3, 26, 28] := by simpa using Array.mem_of_getElem? ht
        have hall : ([22, 23, 3, 26, 28].all fun u => !Tryd.prog.wantsStandIn u) = true := by kernel_rfl
        exact (show Tryd.prog.wantsStandIn t = false by simpa using List.all_eq_true.1 hall t hm)⟩)
    (by kernel_rfl)
end possibleMore
theorem possibleMore_holds : Rows.PossibleMoreCardSaid := possibleMore.card
#print axioms possibleMore_holds

end Go.Proofs.YtffmgfehaahlhaaDoor
