import Derived.Test.YtffmgfehaahlhaaDoorPart5
import Derived.Test.YtffmgfehaahlhaaDoorTie
import Derived.Test.YtffmgfehaahlhaaDoorCards
set_option linter.all false
set_option linter.unusedSimpArgs false
set_option linter.unusedVariables false
set_option linter.unnecessarySimpa false
namespace Go.Proofs.YtffmgfehaahlhaaDoor
open Go.ChangeShapes Go.WideShapes Go.ChangeAt Go.RowKit
namespace possibleAlike
set_option maxRecDepth 100000 in
set_option maxHeartbeats 4000000 in
theorem main_pure (ni : Bool) (I : List IssuedD) (hi1 : ni = true → I = []) (hi2 : ∀ x ∈ I, x.fine) (hi3 : I.length ≤ maxLen) (ns : Bool) (S : List SeenD) (hs1 : ns = true → S = []) (hs2 : ∀ x ∈ S, x.fine) (hs3 : S.length ≤ maxLen) (g : Int) (hg : InR .i64 g) (p : Int) (hp : InR .i64 p) (q : Int) (hq : InR .i64 q) :
    Pure Tryd.prog 9 [.slm 3 (some (.var ni)) IssuedD.c I, .slm 4 (some (.var ns)) SeenD.c S, i64 g, i64 p, i64 q] (boolD true) := by
  have hS := sane_pure
  rw [maxLen_eq] at hi3 hs3
  have hF := Few_pure I S (some (.var ni)) (some (.var ns)) hi3 hs3
  obtain ⟨fw, hfw⟩ : ∃ b, b = fewB I S := ⟨_, rfl⟩
  rw [← hfw] at hF
  have hSw := fun n => swap_pure p q n
  have hB := fun h : fw = true => few_big (hfw.symm.trans h)
  have hBJ : fw = true → BigI (I.map (turnX p q)) := fun h => ⟨by have := (hB h).2.2.1; simp; omega, fun y hy => by obtain ⟨x, hx, rfl⟩ := List.mem_map.1 hy; exact (hB h).1.vals x hx⟩
  have hO1 := fun h : fw = true => Of_pure I S g (some (.var ni)) (some (.var ns)) (hB h).1 (hB h).2.1
  have hO2 := fun h : fw = true => Of_pure (I.map (turnX p q)) S g none (some (.var ns)) (hBJ h) (hB h).2.1
  have hA := fun h : fw = true => alike_pure I S (some (.var ni)) (some (.var ns)) p q (by have := (hB h).2.2.1; omega) (by have := (hB h).2.2.2; omega) (fun x hx s hs => Fits_pure x s ((hB h).1.vals x hx) ((hB h).2.1.fields s hs) ((hB h).2.1.vals s hs))
  have hlen : ∀ (J : List IssuedD) (R : List SeenD), J.length ≤ 20 → (ofA J R g).length < 9223372036854775807 := fun J R h => by
    have h3 := List.length_filter_le (fun p => !(firstR J R g p R.length []).isNone) (peopleL J)
    have h4 := people_len J J.length
    rw [List.take_of_length_le (Nat.le_refl _)] at h4
    unfold ofA ofR
    split
    · omega
    · simp
  have hWJ := fun (h : fw = true) (n : Int) nb => Pure.args (args' := [.slm 1 none intC [n], .slm 1 nb intC (ofA (I.map (turnX p q)) S g)]) (args := [.sll 1 [intC n], .slm 1 nb intC (ofA (I.map (turnX p q)) S g)]) (.cons (.sll rfl (fun e h => by cases h)) (.cons (.refl _) .nil)) (within_pure [n] (ofA (I.map (turnX p q)) S g) none nb (by simp) (hlen _ _ (by have := (hB h).2.2.1; simp; omega)))
  have hWI := fun (h : fw = true) (n : Int) nb => Pure.args (args' := [.slm 1 none intC [n], .slm 1 nb intC (ofA I S g)]) (args := [.sll 1 [intC n], .slm 1 nb intC (ofA I S g)]) (.cons (.sll rfl (fun e h => by cases h)) (.cons (.refl _) .nil)) (within_pure [n] (ofA I S g) none nb (by simp) (hlen _ _ (by have := (hB h).2.2.1; omega)))
  have k1 : 0 ≤ p → p ≤ 4095 → 0 ≤ q → q ≤ 4095 → okOf I S g = okOf (I.map (turnX p q)) S g ∧ (ofA I S g).length = (ofA (I.map (turnX p q)) S g).length := fun a b c d => ⟨(ok_turn ⟨a, b⟩ ⟨c, d⟩ I S g).symm, (of_turn ⟨a, b⟩ ⟨c, d⟩ I S g).symm⟩
  have k2 : 0 ≤ p → p ≤ 4095 → 0 ≤ q → q ≤ 4095 → ∀ n ∈ ofA I S g, withinB [swapI p q n] (ofA (I.map (turnX p q)) S g) = true := fun a b c d n hn => by
    unfold ofA at hn
    split at hn
    · next ho =>
      rw [withinB_iff]
      intro m hm
      simp only [List.mem_singleton] at hm
      subst hm
      unfold ofA
      rw [ok_turn ⟨a, b⟩ ⟨c, d⟩, if_pos ho]
      exact of_turn1 ⟨a, b⟩ ⟨c, d⟩ ho hn
    · cases hn
  have k3 : okOf I S g = true → p ≠ q → alikeB I S p q = true → withinB [p] (ofA I S g) = withinB [q] (ofA I S g) := fun ho hpq hal => by
    rw [Bool.eq_iff_iff, withinB_iff, withinB_iff]
    unfold ofA
    rw [if_pos ho]
    simpa using of_alike hpq ho hal
  have hI12' : fw = true → I.length ≤ 12 := fun h => (few_big (hfw.symm.trans h)).2.2.1
  obtain ⟨tu, htu⟩ : ∃ f : Nat → List IssuedD, f = fun k => (I.take k).map (turnX p q) ++ I.drop k := ⟨_, rfl⟩
  have tu0 : tu 0 = I := by rw [htu]; simp
  have tul : ∀ k, (tu k).length = I.length := fun k => by rw [htu]; simp; omega
  have tuk : ∀ k x, I[k]? = some x → (tu k)[k]? = some x ∧ tu (k + 1) = (tu k).set k (turnX p q x) := fun k x hx => by
    have hk := (List.getElem?_eq_some_iff.1 hx).1
    rw [htu]
    have hl : ((I.take k).map (turnX p q)).length = k := by simp; omega
    refine ⟨?_, ?_⟩
    · rw [List.getElem?_append_right (by omega), hl, Nat.sub_self, drop_cons hx]
      rfl
    · simp only
      rw [List.set_append_right _ _ (by omega), hl, Nat.sub_self, drop_cons hx, List.take_add_one, hx]
      simp
  obtain ⟨nI, hnI⟩ : ∃ n : Nat, n = I.length := ⟨_, rfl⟩
  have tue : tu nI = I.map (turnX p q) := by rw [htu, hnI]; simp
  clear htu
  obtain ⟨J, hJ⟩ : ∃ l, l = I.map (turnX p q) := ⟨_, rfl⟩
  have hJl : J.length = I.length := by rw [hJ]; simp
  rw [← hJ] at hO2 hWJ k1 k2 tue
  obtain ⟨o1, ho1⟩ : ∃ b, b = okOf I S g := ⟨_, rfl⟩
  obtain ⟨o2, ho2⟩ : ∃ b, b = okOf J S g := ⟨_, rfl⟩
  obtain ⟨l1, hl1⟩ : ∃ b, b = ofA I S g := ⟨_, rfl⟩
  obtain ⟨l2, hl2⟩ : ∃ b, b = ofA J S g := ⟨_, rfl⟩
  rw [← hl1, ← ho1] at hO1 k1
  rw [← hl2, ← ho2] at hO2 k1
  rw [← hl1] at k2 k3 hWI
  rw [← hl2] at k2 hWJ
  rw [← ho1] at k3
  obtain ⟨al, hal⟩ : ∃ b, b = alikeB I S p q := ⟨_, rfl⟩
  rw [← hal] at hA k3
  obtain ⟨sw, hsw⟩ : ∃ f : Int → Int, f = swapI p q := ⟨_, rfl⟩
  have hSw2 : ∀ n, Pure Tryd.prog 28 [i64 n, .dp [i64 p] 0, .dp [i64 q] 0] (i64 (sw n)) := fun n => by rw [hsw]; exact hSw n
  rw [← hsw] at k2
  obtain ⟨w1, hw1⟩ : ∃ f : Int → Bool, f = fun n => withinB [n] l1 := ⟨_, rfl⟩
  obtain ⟨w2, hw2⟩ : ∃ f : Int → Bool, f = fun n => withinB [n] l2 := ⟨_, rfl⟩
  have hWI' : fw = true → ∀ n nb, Pure Tryd.prog 26 [.sll 1 [intC n], .slm 1 nb intC l1] (boolD (w1 n)) := fun h n nb => by rw [hw1]; exact hWI h n nb
  have hWJ' : fw = true → ∀ n nb, Pure Tryd.prog 26 [.sll 1 [intC n], .slm 1 nb intC l2] (boolD (w2 n)) := fun h n nb => by rw [hw2]; exact hWJ h n nb
  have k2' : 0 ≤ p → p ≤ 4095 → 0 ≤ q → q ≤ 4095 → ∀ n ∈ l1, w2 (sw n) = true := fun a b c d n hn => by rw [hw2]; exact k2 a b c d n hn
  have k3' : o1 = true → p ≠ q → al = true → w1 p = w1 q := fun a b c => by rw [hw1]; exact k3 a b c
  obtain ⟨e1, he1⟩ : ∃ x : Int, x = if o1 then 0 else 300 := ⟨_, rfl⟩
  obtain ⟨e2, he2⟩ : ∃ x : Int, x = if o2 then 0 else 300 := ⟨_, rfl⟩
  rw [← he1] at hO1
  rw [← he2] at hO2
  obtain ⟨n1, hn1⟩ : ∃ x, x = decide (l1.length = 0) := ⟨_, rfl⟩
  obtain ⟨n2, hn2⟩ : ∃ x, x = decide (l2.length = 0) := ⟨_, rfl⟩
  rw [← hn1] at hO1
  rw [← hn2] at hO2
  obtain ⟨nL, hnL⟩ : ∃ n : Nat, n = l1.length := ⟨_, rfl⟩
  have hLb : fw = true → l1.length < 9223372036854775807 := fun h => by rw [hl1]; exact hlen I S (by have := (hB h).2.2.1; omega)
  clear hB hBJ hlen hWI hWJ k2 k3 ho1 ho2 hl1 hl2 hal hw1 hw2 hsw hJ hn1 hn2 hfw hi1 hi2 hi3 hs1 hs2 hs3 hg hp hq
  have e : (boolD true : D) = retD [boolD true] := rfl
  rw [e]
  refine Pure.introC T_ok Tryd.func9 rfl (by kernel_rfl) (rs := [.tmp 10]) rfl (by kernel_rfl) ?_
  generalize hP : Tryd.prog = P at *
  have hT : T.ok P := hP ▸ T_ok
  have hm : P.follows .mixedOrders = true := hP ▸ follows
  unfold Tryd.f9
  dsimp only
  refine CodeP.seq (vc_sound hT hm _ ?_)
  cbv
  refine CodeP.seq (vc_sound hT hm _ ?_)
  cbv
  refine CallP.pure _ hS rfl ?_
  cbv
  refine SplitP.mk (fun hs => ?_) (fun hs => ?_)
  · cases (show (!true) = true from hs)
  clear hs
  refine CodeP.seq (vc_sound hT hm _ ?_)
  cbv
  refine CallP.pure _ hF rfl ?_
  cbv
  have ret1 : ∀ {H : List Bk}, RetP H [.bool (.lit true)] [.bool (.var true)] := .mk (.cons (.eq (.bool rfl)) .nil) rfl
  refine SplitP.mk (fun hs => ret1) (fun hs => ?_)
  have h10 : fw = true := by simpa using (show (!fw) = false from hs)
  clear hs
  refine SplitP.mk (fun hs => ret1) (fun hs => ?_)
  have p0 : 0 ≤ p := by have h3 := of_decide_eq_false (show decide (p < 0) = false from hs); omega
  clear hs
  refine SplitP.mk (fun hs => ret1) (fun hs => ?_)
  have p1 : p ≤ 4095 := by have h3 := of_decide_eq_false (show decide (p > 4095) = false from hs); omega
  clear hs
  refine SplitP.mk (fun hs => ret1) (fun hs => ?_)
  have q0 : 0 ≤ q := by have h3 := of_decide_eq_false (show decide (q < 0) = false from hs); omega
  clear hs
  refine SplitP.mk (fun hs => ret1) (fun hs => ?_)
  have q1 : q ≤ 4095 := by have h3 := of_decide_eq_false (show decide (q > 4095) = false from hs); omega
  clear hs
  refine CodeP.keep [0, 1, 2, 8, 9, 10] ?_
  refine CodeP.seq (vc_sound hT hm _ ?_)
  cbv
  refine CodeP.seq (vc_sound hT hm _ ?_)
  cbv
  have hI12 := hI12' h10
  refine ReqP.mk ⟨by show (I.length : Int) = (((RE.map IssuedD.c I).den.length : Nat) : Int); simp [RE.den], rfl, map_cells (fun _ => rfl), (by intro e he; cases he), by show (0 : Int) + (I.length : Int) ≤ _; omega, by show ((0 : Int) + (I.length : Int)) * ((40 : Nat) : Int) ≤ _; omega⟩ (fun _ => ?_)
  refine CodeP.keep [0, 1, 2, 8, 9, 10, 11, 12] ?_
  refine CodeP.seq (vc_sound hT hm _ ?_)
  cbv
  refine CodeP.loopm hT hm (X := Nat) (fun k => [(48, .int .i64 (.nat k))]) (fun k => [.cells [i64 p], .cells [i64 q], .row 26 3 2 (.map IssuedD.c (tu k))]) (fun k => k ≤ nI) (fun k => nI - k) 0 (Nat.zero_le _) (fun _ => Nat.zero_le _) ⟨?_, ?_, rfl⟩ ?_
  · (cbv; (repeat' (first | exact SnD.refl _ | exact trivial | exact SnD.nat0 | refine And.intro ?_ ?_)))
  · refine ⟨.refl _, .refl _, ?_, trivial⟩
    rw [tu0]
    exact .row (by simp [RE.den])
  intro k hk
  cbv
  refine SplitP.mk (fun hs => ?_) (fun hs => ?_)
  · have hkn : k < I.length := by
      have h5 : decide ((k : Int) < (I.length : Int)) = true := hs
      have := of_decide_eq_true h5
      omega
    clear hs
    obtain ⟨x0, hx0⟩ : ∃ x, I[k]? = some x := ⟨_, List.getElem?_eq_getElem hkn⟩
    obtain ⟨t1, t2⟩ := tuk k x0 hx0
    have t3 := tul k
    refine ReqP.mk (by show (0 : Int) ≤ (k : Int) ∧ (k : Int) < (I.length : Int); omega) (fun _ => ?_)
    refine ElemP.mk (by show (0 : Int) ≤ (k : Int) ∧ (k : Int) < ((tu k).length : Int); omega) (fun x hx => ?_)
    replace hx : (tu k)[k]? = some x := hx
    rw [t1] at hx
    cases hx
    cbv
    refine CallP.lend _ _ (hSw x0.person) (.cons (.eq (.refl _)) (.cons (.dp rfl rfl rfl) (.cons (.dp rfl rfl rfl) .nil))) rfl rfl ?_
    cbv
    refine ReqP.mk (by show (0 : Int) ≤ (k : Int) ∧ (k : Int) < (I.length : Int); omega) (fun _ => ?_)
    refine ReqP.mk (by show (IE.nat k).den.toNat < ((tu k).map IssuedD.c).length; rw [List.length_map, t3]; simpa [IE.den] using hkn) (fun _ => ?_)
    have hup : ((tu k).map IssuedD.c).modify k (fun cs => over cs 1 [.int .i64 (.var (swapI p q x0.person))]) = (tu (k + 1)).map IssuedD.c := by
      rw [t2]
      refine List.ext_getElem? fun i => ?_
      rw [List.getElem?_modify, List.getElem?_map, List.getElem?_map, List.getElem?_set]
      by_cases e : k = i
      · subst e
        rw [t1, if_pos rfl, if_pos (by omega)]
        simp only [Option.map_eq_map, Option.map_some, if_true]
        rfl
      · simp [e]
    refine BackP.intro (k + 1) (by omega) (by show nI - (k + 1) < nI - k; omega) ⟨?_, ⟨.refl _, .refl _, .row hup, trivial⟩, rfl⟩
    (cbv; (repeat' (first | exact SnD.refl _ | exact trivial | exact SnD.nat0 | refine And.intro ?_ ?_)))
    exact .inc (by omega)
  · have hkk : k = nI := by
      have h5 : decide ((k : Int) < (I.length : Int)) = false := hs
      have := of_decide_eq_false h5
      omega
    subst hkk
    clear hs hk
    refine CodeP.pre [(0, .slm 3 (some (.var ni)) IssuedD.c I), (1, .slm 4 (some (.var ns)) SeenD.c S), (2, i64 g), (8, .ptr 0 1 0), (9, .ptr 1 1 0), (11, .fn (.func 28) [] [.ptr 0 1 0, .ptr 1 1 0]), (12, .slm 3 none IssuedD.c J)]
      [.cells [i64 p], .cells [i64 q], .dead] ⟨⟨.refl _, .refl _, .refl _, .refl _, .refl _, .refl _, .slm rfl (.inl ⟨_, _, rfl, by simp [RE.den, tue]⟩) rfl (by simp only [IE.den]; rw [hJl]) (fun e h => by cases h), trivial⟩, ⟨.refl _, .refl _, .dead _, trivial⟩, rfl⟩ (Nat.zero_le _) ?_
    clear tue tuk tul tu0 hnI
    refine CodeP.seq (vc_sound hT hm _ ?_)
    cbv
    refine CallP.pure _ (hO1 h10) rfl ?_
    cbv
    refine CodeP.seq (vc_sound hT hm _ ?_)
    cbv
    refine CallP.pure _ (hO2 h10) rfl ?_
    cbv
    refine CodeP.seq (vc_sound hT hm _ ?_)
    cbv
    refine SplitP.mk (fun hs => ?_) (fun hs => ?_)
    · exfalso
      have h3 : (e1 != e2) = true := hs
      rw [he1, he2, (k1 p0 p1 q0 q1).1] at h3
      simp at h3
    clear hs
    refine SplitP.mk (fun hs => ?_) (fun hs => ?_)
    · exfalso
      have h3 : ((l1.length : Int) != (l2.length : Int)) = true := hs
      rw [(k1 p0 p1 q0 q1).2] at h3
      simp at h3
    clear hs
    refine vc_sound hT hm _ ?_
    cbv
    refine CodeP.loopc hT hm (X := Nat) (fun k => [(89, .int .i64 (.nat k))]) (fun k => k ≤ nL) (fun k => nL - k) 0 (Nat.zero_le _) (Nat.zero_le _) ?_ rfl ?_
    · (cbv; (repeat' (first | exact SnD.refl _ | exact trivial | exact SnD.nat0 | refine And.intro ?_ ?_)))
    intro k hk
    cbv
    refine SplitP.mk (fun hs => ?_) (fun hs => ?_)
    · have hkn : k < l1.length := by
        have h5 : decide ((k : Int) < (l1.length : Int)) = true := hs
        have := of_decide_eq_true h5
        omega
      clear hs
      refine ElemP.mk (by show (0 : Int) ≤ (k : Int) ∧ (k : Int) < (l1.length : Int); omega) (fun x hx => ?_)
      replace hx : l1[k]? = some x := hx
      cbv
      refine CallP.lend _ _ (hSw2 x) (.cons (.eq (.refl _)) (.cons (.dp rfl rfl rfl) (.cons (.dp rfl rfl rfl) .nil))) rfl rfl ?_
      cbv
      refine CallP.pure _ (hWJ' h10 (sw x) _) rfl ?_
      cbv
      refine SplitP.mk (fun hs => ?_) (fun hs => ?_)
      · exfalso
        have h3 : (!w2 (sw x)) = true := hs
        rw [k2' p0 p1 q0 q1 x (List.mem_of_getElem? hx)] at h3
        cases h3
      · refine BackP.intro (k + 1) (by omega) (by show nL - (k + 1) < nL - k; omega) ⟨?_, ⟨.refl _, .refl _, .refl _, trivial⟩, rfl⟩
        (cbv; (repeat' (first | exact SnD.refl _ | exact trivial | exact SnD.nat0 | refine And.intro ?_ ?_)))
        exact .inc (by have := hLb h10; omega)
    · clear hs
      refine SplitP.mk (fun hs => ret1) (fun hs => ?_)
      have h3 : o1 = true := by
        have h4 : (e1 != 0) = false := hs
        rw [he1] at h4
        cases o1 with
        | true => rfl
        | false => cases h4
      clear hs
      refine SplitP.mk (fun hs => ret1) (fun hs => ?_)
      have h4 : p ≠ q := by
        have h5 : (p == q) = false := hs
        intro e
        rw [e] at h5
        simp at h5
      clear hs
      refine CallP.pure _ (hA h10) rfl ?_
      cbv
      refine SplitP.mk (fun hs => ret1) (fun hs => ?_)
      have h5 : al = true := by
        have h6 : (!al) = false := hs
        simpa using h6
      clear hs
      refine PureP.mk _ (hWI' h10 p _) rfl ?_
      cbv
      refine CallP.pure _ (hWI' h10 q _) rfl ?_
      cbv
      refine .mk (.cons (.eq (.bool ?_)) .nil) rfl
      show (w1 p == w1 q) = true
      rw [k3' h3 h4 h5]
      simp
theorem own : ownKnob Tryd.prog.godebug = none := by kernel_rfl
theorem laidOut : laidOutB Tryd.prog = true := by kernel_rfl
set_option maxRecDepth 100000 in
theorem lifted (os : Os) (started : os.Started) (H : Type) (enc : TypeId × Value → H) :
    ReturnsInHanded {} Tryd.checked os 9 .any (fun w args => (Rows.possibleAlikeSpec.pre enc Tryd.prog Tryd.f9 [] false w args ∧ laidMetH Tryd.prog laidR w) ∧ sizedMet enc Tryd.prog Tryd.f9 (OpenSpec.ofChange Rows.possibleAlikeSpec) false w args) (Rows.possibleAlikeSpec.post enc Tryd.prog Tryd.f9 false true false false) := by
  refine returnsInHanded_of_change_and (C := Tryd.checked) (X := fun w _ => laidMetH Tryd.prog laidR w) (fun _ _ _ hh h => h.of_heap hh) own started (by kernel_rfl) Tryd.func9
    (ChangeSpec.witness_shaped (enc := enc) (C := Tryd.checked) (os := os) (X := fun w _ => laidMetH Tryd.prog laidR w) false (World.doorLaid Tryd.prog 400 os) #[.slice none 0 0, .slice none 0 0, .int .i64 0, .int .i64 0, .int .i64 0] 8 rfl (World.shaped_of_RefB (by kernel_rfl) (by kernel_rfl)) (by kernel_rfl) (by kernel_rfl) (by kernel_rfl) (door_met os _)) ?_
  intro W base args ds gs before hval0 hW _ hSz hL _
  have hval : ∀ (j : Nat) t v, Tryd.f9.params[j]? = some t → args[j]? = some v → Value.okWide Tryd.prog W .any base t v := hval0
  have hW' := hW
  obtain ⟨p, q, hA0, hV, rfl, hfz, hnd⟩ := hW
  have hA : DataW.TrodAll enc Tryd.prog W 0 (fun _ => true) true Tryd.f9.params.toList args.toList ds p := hA0
  rw [Tryd.params9] at hA hval
  obtain ⟨v0, vs0, d0, ds0, p0, q0, hargs, rfl, rfl, h0, r0⟩ := trodAll_cons hA
  obtain ⟨v1, vs1, d1, ds1, p1, q1, rfl, rfl, rfl, h1, r1⟩ := trodAll_cons r0
  obtain ⟨v2, vs2, d2, ds2, p2, q2, rfl, rfl, rfl, h2, r2⟩ := trodAll_cons r1
  obtain ⟨v3, vs3, d3, ds3, p3, q3, rfl, rfl, rfl, h3, r3⟩ := trodAll_cons r2
  obtain ⟨v4, vs4, d4, ds4, p4, q4, rfl, rfl, rfl, h4, r4⟩ := trodAll_cons r3
  obtain ⟨rfl, rfl, rfl⟩ := trodAll_nil r4
  obtain rfl : args = #[v0, v1, v2, v3, v4] := by cases args; simp_all
  obtain ⟨rfl, rfl⟩ := trodVars_none hV
  have k0 := h0
  have lt0 : ∀ x ∈ p0, x.block < W.heap.size := by obtain ⟨m, hm⟩ := k0; exact DataW.trod_lt m _ _ _ hm
  obtain ⟨⟨nb0, l0⟩, ⟨ln0, lk0, ll0⟩, rp0⟩ := open_sl (e := 26) (by kernel_rfl) opd_issueds (hval 0 22 v0 rfl rfl) h0
  have k1 := h1
  have lt1 : ∀ x ∈ p1, x.block < W.heap.size := by obtain ⟨m, hm⟩ := k1; exact DataW.trod_lt m _ _ _ hm
  obtain ⟨⟨nb1, l1⟩, ⟨ln1, lk1, ll1⟩, rp1⟩ := open_sl (e := 28) (by kernel_rfl) opd_seens (hval 1 23 v1 rfl rfl) h1
  have k2 := h2
  have lt2 : ∀ x ∈ p2, x.block < W.heap.size := by obtain ⟨m, hm⟩ := k2; exact DataW.trod_lt m _ _ _ hm
  obtain ⟨z2, wf2, rp2⟩ := open_i Tryd.underlying3 (hval 2 3 v2 rfl rfl) h2
  have k3 := h3
  have lt3 : ∀ x ∈ p3, x.block < W.heap.size := by obtain ⟨m, hm⟩ := k3; exact DataW.trod_lt m _ _ _ hm
  obtain ⟨z3, wf3, rp3⟩ := open_i Tryd.underlying3 (hval 3 3 v3 rfl rfl) h3
  have k4 := h4
  have lt4 : ∀ x ∈ p4, x.block < W.heap.size := by obtain ⟨m, hm⟩ := k4; exact DataW.trod_lt m _ _ _ hm
  obtain ⟨z4, wf4, rp4⟩ := open_i Tryd.underlying3 (hval 4 3 v4 rfl rfl) h4
  clear hA0 hval0
  refine (Pure.law (main_pure nb0 l0 ln0 lk0 ll0 nb1 l1 ln1 lk1 ll1 z2 wf2 z3 wf3 z4 wf4) (of_laid hL) (lrep_cons rp0 (lrep_cons rp1 (lrep_cons rp2 (lrep_cons rp3 (lrep_cons rp4 LRep.nil)))))).mono fun e W' ⟨he, bel⟩ => ?_
  subst he
  exact ⟨_, rfl, _, _, _, [], _, [], hW', trodAll_mk1 (shut_bool Tryd.underlying4 _), (trodAll_cons_mk (Below.trod laidOut (by kernel_rfl) (of_decide_eq_true (by kernel_rfl)) k0 bel lt0) (trodAll_cons_mk (Below.trod laidOut (by kernel_rfl) (of_decide_eq_true (by kernel_rfl)) k1 bel lt1) (trodAll_cons_mk (Below.trod laidOut (by kernel_rfl) (of_decide_eq_true (by kernel_rfl)) k2 bel lt2) (trodAll_cons_mk (Below.trod laidOut (by kernel_rfl) (of_decide_eq_true (by kernel_rfl)) k3 bel lt3) (trodAll_cons_mk (Below.trod laidOut (by kernel_rfl) (of_decide_eq_true (by kernel_rfl)) k4 bel lt4) trodAll_mk0))))), rfl, bel.frame _, fun h => by cases h⟩

theorem over : Rows.possibleAlikeRow.holds Tryd.pinned (OpenSpec.ofChange Rows.possibleAlikeSpec) :=
  OpenClaim.holds_of_wide 9 Tryd.f9 rfl rfl rfl rfl rfl rfl rfl ⟨rfl, rfl, rfl, rfl, rfl⟩ rfl rfl rfl rfl rfl (by kernel_rfl) Tryd.func9 (by kernel_rfl)
    (of_decide_eq_true (by kernel_rfl)) (by unfold Func.isWrapper; first | (rw [if_pos (by decide +kernel)]; kernel_rfl) | (rw [if_neg (by decide +kernel)]; exact ⟨rfl, rfl⟩))
    (fun os started H enc _ => lifted os started H enc)
theorem card : Rows.PossibleAlikeCardSaid :=
  Claim7.holds_tied_plain_at .later [] [.data] true (true, "0ba69c9015ec36225fad3d349e9e33d8c719f02d1fa742a6aef5915b5d7b3d20") false
    over (fun _ h => by cases h) (by kernel_rfl) (fun _ h => by cases h) possibleAlike_row_tie rfl ⟨rfl, rfl⟩ (by kernel_rfl) rfl
    (fun f fn hf hfn => by
      obtain rfl : f = 9 := Option.some.inj ((show Tryd.prog.funcNamed "testamur/testamurlaw30.PossibleAlike" = some 9 by kernel_rfl).symm.trans hf) |>.symm
      obtain rfl : fn = Tryd.f9 := (Option.some.inj (Tryd.func9.symm.trans hfn)).symm
      exact ⟨by kernel_rfl, fun j t ht => by
        rw [Tryd.params9] at ht
        have hm : t ∈ [22, 23, 3, 3, 3] := by simpa using Array.mem_of_getElem? ht
        have hall : ([22, 23, 3, 3, 3].all fun u => !Tryd.prog.wantsStandIn u) = true := by kernel_rfl
        exact (show Tryd.prog.wantsStandIn t = false by simpa using List.all_eq_true.1 hall t hm)⟩)
    (by kernel_rfl)
end possibleAlike
theorem possibleAlike_holds : Rows.PossibleAlikeCardSaid := possibleAlike.card
#print axioms possibleAlike_holds

end Go.Proofs.YtffmgfehaahlhaaDoor
