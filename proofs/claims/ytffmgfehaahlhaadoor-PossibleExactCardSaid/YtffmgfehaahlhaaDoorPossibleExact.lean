import Derived.Test.YtffmgfehaahlhaaDoorPart5
import Derived.Test.YtffmgfehaahlhaaDoorTie
import Derived.Test.YtffmgfehaahlhaaDoorCards
set_option linter.all false
set_option linter.unusedSimpArgs false
set_option linter.unusedVariables false
set_option linter.unnecessarySimpa false
namespace Go.Proofs.YtffmgfehaahlhaaDoor
open Go.ChangeShapes Go.WideShapes Go.ChangeAt Go.RowKit
namespace possibleExact
set_option maxRecDepth 100000 in
set_option maxHeartbeats 4000000 in
theorem main_pure (ni : Bool) (I : List IssuedD) (hi1 : ni = true → I = []) (hi2 : ∀ x ∈ I, x.fine) (hi3 : I.length ≤ maxLen) (ns : Bool) (S : List SeenD) (hs1 : ns = true → S = []) (hs2 : ∀ x ∈ S, x.fine) (hs3 : S.length ≤ maxLen) (g : Int) (hg : InR .i64 g) :
    Pure Tryd.prog 5 [.slm 3 (some (.var ni)) IssuedD.c I, .slm 4 (some (.var ns)) SeenD.c S, i64 g] (boolD true) := by
  have hS := sane_pure
  rw [maxLen_eq] at hi3 hs3
  have hF := Few_pure I S (some (.var ni)) (some (.var ns)) hi3 hs3
  obtain ⟨fw, hfw⟩ : ∃ b, b = fewB I S := ⟨_, rfl⟩
  rw [← hfw] at hF
  have hB := fun h : fw = true => few_big (hfw.symm.trans h)
  have hC := fun h : fw = true => Check_pure I S (some (.var ni)) (some (.var ns)) (hB h).1 (hB h).2.1
  have hl12 : fw = true → I.length ≤ 12 ∧ S.length ≤ 5 := fun h => (hB h).2.2
  obtain ⟨ck, hck⟩ : ∃ b, b = checkB I S := ⟨_, rfl⟩
  have hE : fw = true → ck = true → ∀ t nc, Pure Tryd.prog 12 [.slm 3 (some (.var ni)) IssuedD.c I, .slm 4 (some (.var ns)) SeenD.c S, .slm 1 nc intC (lstI I S t)] (.tup [boolD (exN I S t), i64 0]) := fun h hc t nc => by
    have := Explains_pure I S (lstI I S t) (some (.var ni)) (some (.var ns)) nc (hB h).1 (hB h).2.1 (by rw [lst_len]; have := (hB h).2.2.2; omega)
    rw [← hck, hc, lst_len] at this
    simpa [exN] using this
  have hsome : (scF I S (I.length ^ S.length)).getD [] = ((if ck then firstR I S 0 (-1) S.length [] else none)).getD [] ∨ ck = false := by
    cases ck with
    | false => exact .inr rfl
    | true => rw [scF_all]; exact .inl rfl
  have hA : fw = true → ck = true → Pure Tryd.prog 20 [.slm 3 (some (.var ni)) IssuedD.c I, .slm 4 (some (.var ns)) SeenD.c S] (.tup [.slm 1 (some (.var (decide (((scF I S (I.length ^ S.length)).getD []).length = 0)))) intC ((scF I S (I.length ^ S.length)).getD []), boolD (scF I S (I.length ^ S.length)).isSome, i64 0]) := fun h hc => by
    have := Any_pure I S (some (.var ni)) (some (.var ns)) (hB h).1 (hB h).2.1
    unfold anyA at this
    rw [← hck, hc] at this
    simp only [if_true] at this
    rw [scF_all]
    exact this
  have hO := fun h : fw = true => Of_pure I S g (some (.var ni)) (some (.var ns)) (hB h).1 (hB h).2.1
  have hOc := fun h : fw = true => Occurs_pure S (some (.var ns)) g (by have := (hB h).2.2.2; omega)
  have hff : ∀ t, ((scF I S t).getD []).length ≤ S.length := fun t => by
    cases hs : scF I S t with
    | none => simp
    | some l =>
      obtain ⟨u, _, _, _, rfl⟩ := scF_some hs
      simp [lst_len]
  have hSI : fw = true → ∀ t na, Pure Tryd.prog 22 [.slm 1 na intC ((scF I S t).getD []), .slm 1 none intC ((scF I S t).getD [])] (boolD true) := fun h t na => by
    have := SameInts_pure ((scF I S t).getD []) ((scF I S t).getD []) na none (by have := hff t; have := (hB h).2.2.2; omega)
    rwa [decide_eq_true rfl] at this
  have kOf : ck = true → okOf I S g = occB g S := fun h => by unfold okOf; rw [← hck, h]; rfl
  have kMem : okOf I S g = true → (∀ p ∈ ofA I S g, p ∈ scM I S g (I.length ^ S.length)) ∧ (ofA I S g).length = (scM I S g (I.length ^ S.length)).length ∧ (ofA I S g).Pairwise (· < ·) := fun h => by
    unfold ofA
    rw [if_pos h]
    exact ⟨fun p hp => (scM_of h).2 hp, scM_len h, of_sorted I S g⟩
  obtain ⟨n, hn⟩ : ∃ n : Nat, n = I.length := ⟨_, rfl⟩
  obtain ⟨m, hm'⟩ : ∃ n : Nat, n = S.length := ⟨_, rfl⟩
  obtain ⟨N, hN⟩ : ∃ n : Nat, n = I.length ^ S.length := ⟨_, rfl⟩
  rw [← hN] at hA kMem
  -- the lists
  obtain ⟨ls, hls⟩ : ∃ f : Nat → List Int, f = lstI I S := ⟨_, rfl⟩
  obtain ⟨rl, hrl⟩ : ∃ f : Nat → Nat → List Int, f = fun t j => (nxL I.length S.length t j).map fun k : Nat => (k : Int) := ⟨_, rfl⟩
  obtain ⟨inv, hinv⟩ : ∃ f : Nat → Nat → Prop, f = fun t j => (t + 1) % I.length ^ j = 0 := ⟨_, rfl⟩
  have rl0 : ∀ t, rl t 0 = ls t := fun t => by rw [hrl, hls]; rfl
  have rll : ∀ t j, (rl t j).length = m := fun t j => by rw [hrl, hm']; simp [nxL_len]
  have ls0 : ls 0 = List.replicate m 0 := by rw [← rl0, hrl, hm']; simp [nxL_zero]
  have inv0 : ∀ t, inv t 0 := fun t => by rw [hinv]; simp [Nat.mod_one]
  have invE : ∀ t, t < N → inv t m → t + 1 = N := fun t h1 h2 => by
    rw [hinv, hm'] at h2
    rw [hN] at h1 ⊢
    exact nx_end h2 h1
  have rlx : ∀ (t j : Nat) (i x : Int), i = (m : Int) - 1 - j → 0 ≤ i → (rl t j)[i.toNat]? = some x → x = (dig I.length t j : Int) := fun t j i x h1 h2 h3 => by
    rw [hrl] at h3
    simp only at h3
    rw [List.getElem?_map, show i.toNat = S.length - 1 - j by omega, nxL_at (by omega)] at h3
    simpa using h3.symm
  have rlb : ∀ (t j : Nat) (i x : Int), t < N → i = (m : Int) - 1 - j → 0 ≤ i → (rl t j)[i.toNat]? = some x → 0 ≤ x ∧ x < (n : Int) := fun t j i x h1 h3 h4 h5 => by
    have hx := rlx t j i x h3 h4 h5
    subst hx
    have hn0 : 0 < I.length := by
      rcases Nat.eq_zero_or_pos I.length with e | e
      · rw [hN, e] at h1
        rw [Nat.zero_pow (by omega)] at h1
        omega
      · exact e
    have := dig_lt (n := I.length) (t := t) (k := j) hn0
    omega
  have up : ∀ (t j : Nat) (i x : Int), t < N → inv t j → i = (m : Int) - 1 - j → 0 ≤ i → (rl t j)[i.toNat]? = some x → x + 1 < (n : Int) → (rl t j).set i.toNat (x + 1) = ls (t + 1) ∧ t + 1 < N := fun t j i x h1 h2 h3 h4 h5 h6 => by
    have hx := rlx t j i x h3 h4 h5
    subst hx
    rw [hinv] at h2
    rw [hN] at h1 ⊢
    obtain ⟨q1, q2⟩ := nx_up (n := I.length) (m := S.length) (t := t) (j := j) h2 (by omega) (by omega) h1
    refine ⟨?_, q2⟩
    rw [← rl0, hrl]
    simp only
    rw [← q1, List.map_set, show i.toNat = S.length - 1 - j by omega]
    rfl
  have cry : ∀ (t j : Nat) (i x : Int), t < N → inv t j → i = (m : Int) - 1 - j → 0 ≤ i → (rl t j)[i.toNat]? = some x → ¬ x + 1 < (n : Int) → (rl t j).set i.toNat 0 = rl t (j + 1) ∧ inv t (j + 1) := fun t j i x h1 h2 h3 h4 h5 h6 => by
    have hx := rlx t j i x h3 h4 h5
    subst hx
    rw [hinv] at h2 ⊢
    have hn0 : 0 < I.length := by
      rcases Nat.eq_zero_or_pos I.length with e | e
      · rw [hN, e] at h1
        rw [Nat.zero_pow (by omega)] at h1
        omega
      · exact e
    obtain ⟨q1, q2⟩ := nx_carry (n := I.length) (m := S.length) (t := t) (j := j) h2 (by omega) hn0 (by omega)
    refine ⟨?_, q2⟩
    rw [hrl]
    simp only
    rw [← q1, List.map_set, show i.toNat = S.length - 1 - j by omega]
    rfl
  have fin : ∀ t, inv t m → rl t m = ls (t + 1) := fun t h => by
    rw [← rl0, hrl]
    simp only
    rw [hinv, hm'] at h
    congr 1
    refine List.ext_getElem? fun i => ?_
    by_cases hi : i < S.length
    · rw [nxL_get hi, nxL_get hi, if_pos (by omega), if_neg (by omega), dig_low h (by omega)]
    · rw [List.getElem?_eq_none (by rw [nxL_len]; omega), List.getElem?_eq_none (by rw [nxL_len]; omega)]
  have more0 : (0 < n ∨ m = 0) ↔ 0 < N := by
    rw [hN, hn, hm']
    constructor
    · rintro (h | h)
      · exact Nat.pow_pos h
      · rw [h]; simp
    · intro h
      rcases Nat.eq_zero_or_pos I.length with e | e
      · right
        rcases Nat.eq_zero_or_pos S.length with e2 | e2
        · exact e2
        · rw [e, Nat.zero_pow e2] at h; omega
      · exact .inl e
  -- what the lists say
  have exr : ∀ t, exN I S t = true → ∀ (i : Nat) x, (ls t)[i]? = some x → 0 ≤ x ∧ x < (n : Int) := fun t h i x hx => by
    have h2 := explB_iff.1 h
    rw [hls] at hx
    obtain ⟨q1, q2, _⟩ := h2.fit i x hx
    exact ⟨q1, by omega⟩
  obtain ⟨fe, hfe⟩ : ∃ f : Nat → Bool, f = exN I S := ⟨_, rfl⟩
  obtain ⟨fb, hfb⟩ : ∃ f : Nat → Bool, f = fun t => (scF I S t).isSome := ⟨_, rfl⟩
  obtain ⟨ff, hff'⟩ : ∃ f : Nat → List Int, f = fun t => (scF I S t).getD [] := ⟨_, rfl⟩
  have fb0 : fb 0 = false := by rw [hfb]; rfl
  have ff0 : ff 0 = [] := by rw [hff']; rfl
  have fb1 : ∀ t, fe t = true → fb (t + 1) = true := fun t h => by
    rw [hfe] at h
    rw [hfb]
    simp only [scF]
    split
    · rfl
    · rw [h]; rfl
  have ff1 : ∀ t, fe t = true → fb t = true → ff (t + 1) = ff t := fun t h h2 => by
    rw [hfb] at h2
    rw [hff']
    simp only [scF]
    simp only at h2
    split
    · next l hl => rw [hl]
    · next hl => rw [hl] at h2; cases h2
  have ff2 : ∀ t, fe t = true → fb t = false → ff (t + 1) = ls t := fun t h h2 => by
    rw [hfb] at h2
    rw [hfe] at h
    rw [hff', hls]
    simp only [scF]
    simp only at h2
    split
    · next l hl => rw [hl] at h2; cases h2
    · next hl => rw [h]; rfl
  have fno : ∀ t, fe t = false → fb (t + 1) = fb t ∧ ff (t + 1) = ff t := fun t h => by
    rw [hfe] at h
    rw [hfb, hff']
    simp only [scF]
    split
    · next l hl => rw [hl]; exact ⟨rfl, rfl⟩
    · next hl => rw [hl, h]; exact ⟨rfl, rfl⟩
  obtain ⟨mm, hmm⟩ : ∃ f : Nat → List Int, f = scM I S g := ⟨_, rfl⟩
  obtain ⟨mi, hmi⟩ : ∃ f : Nat → Nat → List Int, f = fun t i => mtI I S g t (scM I S g t) i := ⟨_, rfl⟩
  have mm0 : mm 0 = [] := by rw [hmm]; rfl
  have mml : ∀ t, (mm t).length ≤ n := fun t => by rw [hmm, hn]; exact scM_le I S g t
  have mil : ∀ t i, (mi t i).length ≤ n + i := fun t i => by
    have := mt_len (I := I) (S := S) (g := g) (t := t) (L := scM I S g t) i
    have := scM_le I S g t
    rw [hmi]
    simp only
    omega
  have mi0 : ∀ t, mi t 0 = mm t := fun t => by rw [hmi, hmm]; rfl
  have mmy : ∀ t, fe t = true → mm (t + 1) = mi t m := fun t h => by
    rw [hfe] at h
    rw [hmm, hmi, hm']
    show (if exN I S t then _ else _) = _
    rw [if_pos h]
  have mmn : ∀ t, fe t = false → mm (t + 1) = mm t := fun t h => by
    rw [hfe] at h
    rw [hmm]
    show (if exN I S t then _ else _) = _
    rw [if_neg (by rw [h]; simp)]
  have mis : ∀ t (i : Nat) x y s, (ls t)[i]? = some x → I[x.toNat]? = some y → S[i]? = some s → mi t (i + 1) = if s.group = g then insP (mi t i) y.person else mi t i := fun t i x y s h1 h2 h3 => by
    rw [hls, lst_get (List.getElem?_eq_some_iff.1 h3).1] at h1
    simp only [Option.some.injEq] at h1
    rw [hmi]
    show (if groupS S i = g then _ else _) = _
    rw [groupS_eq h3, h1, personI_eq h2]
  obtain ⟨mB, hmB⟩ : ∃ f : Nat → Int → Bool, f = fun t y => decide (y ∈ mm t) := ⟨_, rfl⟩
  obtain ⟨miB, hmiB⟩ : ∃ f : Nat → Nat → Int → Bool, f = fun t i y => decide (y ∈ mi t i) := ⟨_, rfl⟩
  obtain ⟨mL, hmL⟩ : ∃ f : Nat → Nat, f = fun t => (mm t).length := ⟨_, rfl⟩
  obtain ⟨miL, hmiL⟩ : ∃ f : Nat → Nat → Nat, f = fun t i => (mi t i).length := ⟨_, rfl⟩
  have mB0 : ∀ y, mB 0 y = false := fun y => by rw [hmB]; simp [mm0]
  have mL0 : mL 0 = 0 := by rw [hmL]; simp [mm0]
  have mBi : ∀ t, mB t = miB t 0 ∧ mL t = miL t 0 := fun t => by rw [hmB, hmiB, hmL, hmiL]; simp [mi0]
  have mBy : ∀ t, fe t = true → mB (t + 1) = miB t m ∧ mL (t + 1) = miL t m := fun t h => by rw [hmB, hmiB, hmL, hmiL]; simp [mmy t h]
  have mBn : ∀ t, fe t = false → mB (t + 1) = mB t ∧ mL (t + 1) = mL t := fun t h => by rw [hmB, hmL]; simp [mmn t h]
  have miLb : ∀ t i, miL t i ≤ n + i := fun t i => by rw [hmiL]; exact mil t i
  have mis1 : ∀ t (i : Nat) x y s, (ls t)[i]? = some x → I[x.toNat]? = some y → S[i]? = some s → ¬ s.group = g → miB t (i + 1) = miB t i ∧ miL t (i + 1) = miL t i := fun t i x y s h1 h2 h3 h4 => by
    have := mis t i x y s h1 h2 h3
    rw [if_neg h4] at this
    rw [hmiB, hmiL]
    simp [this]
  have mis2 : ∀ t (i : Nat) x y s, (ls t)[i]? = some x → I[x.toNat]? = some y → S[i]? = some s → s.group = g → miB t i y.person = true → miB t (i + 1) = miB t i ∧ miL t (i + 1) = miL t i := fun t i x y s h1 h2 h3 h4 h5 => by
    have := mis t i x y s h1 h2 h3
    rw [if_pos h4] at this
    rw [hmiB] at h5 ⊢
    have h6 := of_decide_eq_true h5
    unfold insP at this
    rw [if_pos h6] at this
    rw [hmiL]
    simp [this]
  have mis3 : ∀ t (i : Nat) x y s, (ls t)[i]? = some x → I[x.toNat]? = some y → S[i]? = some s → s.group = g → miB t i y.person = false → (∀ z, (z == y.person || miB t i z) = miB t (i + 1) z) ∧ (miL t i : Int) + 1 = (miL t (i + 1) : Int) := fun t i x y s h1 h2 h3 h4 h5 => by
    have := mis t i x y s h1 h2 h3
    rw [if_pos h4] at this
    rw [hmiB] at h5 ⊢
    have h6 := of_decide_eq_false h5
    unfold insP at this
    rw [if_neg h6] at this
    rw [hmiL]
    simp only [this]
    constructor
    · intro z
      rw [Bool.eq_iff_iff]
      simp
      exact Or.comm
    · simp
  have mBN : ∀ y, y ∈ mm N → mB N y = true := fun y h => by rw [hmB]; simpa using h
  have mLN : mL N = (mm N).length := by rw [hmL]
  have mll : ∀ t, (mm t).length ≤ n := mml
  rw [← hls, ← hfe] at hE
  rw [← hfe] at exr
  have hA' : fw = true → ck = true → Pure Tryd.prog 20 [.slm 3 (some (.var ni)) IssuedD.c I, .slm 4 (some (.var ns)) SeenD.c S] (.tup [.slm 1 (some (.var (decide ((ff N).length = 0)))) intC (ff N), boolD (fb N), i64 0]) := fun h h2 => by rw [hff', hfb]; exact hA h h2
  have hSI' : fw = true → ∀ t na, Pure Tryd.prog 22 [.slm 1 na intC (ff t), .slm 1 none intC (ff t)] (boolD true) := fun h t na => by rw [hff']; exact hSI h t na
  have hff2 : ∀ t, (ff t).length ≤ m := fun t => by rw [hff', hm']; exact hff t
  rw [← hmm] at kMem
  obtain ⟨o1, ho1⟩ : ∃ b, b = okOf I S g := ⟨_, rfl⟩
  obtain ⟨l1, hl1⟩ : ∃ b, b = ofA I S g := ⟨_, rfl⟩
  obtain ⟨oc, hoc⟩ : ∃ b, b = occB g S := ⟨_, rfl⟩
  rw [← ho1, ← hl1] at hO
  rw [← ho1, ← hl1] at kMem
  rw [← ho1, ← hoc] at kOf
  rw [← hoc] at hOc
  rw [← hck] at hC
  obtain ⟨ec, hec⟩ : ∃ x : Int, x = if ck then 0 else 300 := ⟨_, rfl⟩
  obtain ⟨e1, he1⟩ : ∃ x : Int, x = if o1 then 0 else 300 := ⟨_, rfl⟩
  rw [← hec] at hC
  rw [← he1] at hO
  obtain ⟨n1, hn1⟩ : ∃ x, x = decide (l1.length = 0) := ⟨_, rfl⟩
  obtain ⟨nx, hnx⟩ : ∃ x, x = decide ((ff N).length = 0) := ⟨_, rfl⟩
  rw [← hn1] at hO
  rw [← hnx] at hA'
  have hl12' : fw = true → n ≤ 12 ∧ m ≤ 5 := fun h => by rw [hn, hm']; exact hl12 h
  have hlN : ∀ t, (ls t).length = m := fun t => by rw [← rl0]; exact rll t 0
  obtain ⟨mo, hmo⟩ : ∃ f : Nat → Bool, f = fun t => decide (t < N) := ⟨_, rfl⟩
  have mo0 : mo 0 = true ↔ (0 < n ∨ m = 0) := by rw [more0, hmo]; simp
  have moT : ∀ t, mo t = true → t < N := fun t h => by rw [hmo] at h; simpa using h
  have moF : ∀ t, t ≤ N → mo t = false → t = N := fun t h1 h => by
    rw [hmo] at h
    have := of_decide_eq_false h
    omega
  have mo1 : ∀ t, t + 1 < N → mo (t + 1) = true := fun t h => by rw [hmo]; simpa using h
  have mo2 : ∀ t, t + 1 = N → mo (t + 1) = false := fun t h => by rw [hmo]; simp; omega
  clear more0 hmo hmB hmiB hmL hmiL mm0 mml mil mi0 mmy mmn mis
  clear hA hSI hff hsome hB hfw hck ho1 hl1 hoc hn1 hnx hls hrl hinv rlx hfe hfb hff' hmm hmi hl12 hi1 hi2 hi3 hs1 hs2 hs3 hg hN
  have e : (boolD true : D) = retD [boolD true] := rfl
  rw [e]
  refine Pure.introC T_ok Tryd.func5 rfl (by kernel_rfl) (rs := [.tmp 6]) rfl (by kernel_rfl) ?_
  generalize hP : Tryd.prog = P at *
  have hT : T.ok P := hP ▸ T_ok
  have hm : P.follows .mixedOrders = true := hP ▸ follows
  unfold Tryd.f5
  dsimp only
  refine CodeP.seq (vc_sound hT hm _ ?_)
  cbv
  refine CodeP.seq (vc_sound hT hm _ ?_)
  cbv
  refine CallP.pure _ hS rfl ?_
  cbv
  refine SplitP.mk (fun hs => ?_) (fun hs => ?_)
  · cases (show (!true) = true from hs)
  clear hs
  have ret1 : ∀ {H : List Bk}, RetP H [.bool (.lit true)] [.bool (.var true)] := .mk (.cons (.eq (.bool rfl)) .nil) rfl
  refine CodeP.seq (vc_sound hT hm _ ?_)
  cbv
  refine CallP.pure _ hF rfl ?_
  cbv
  refine SplitP.mk (fun hs => ret1) (fun hs => ?_)
  have h10 : fw = true := by simpa using (show (!fw) = false from hs)
  clear hs
  refine SplitP.mk (fun hs => ret1) (fun hs => ?_)
  have hS3 : S.length ≤ 3 := by
    have h3 : decide ((S.length : Int) > 3) = false := hs
    have := of_decide_eq_false h3
    omega
  clear hs
  refine CallP.pure _ (hC h10) rfl ?_
  cbv
  refine SplitP.mk (fun hs => ret1) (fun hs => ?_)
  have h11 : ck = true := by
    have h3 : (ec != 0) = false := hs
    rw [hec] at h3
    cases ck with
    | true => rfl
    | false => cases h3
  clear hs hec
  refine CodeP.keep [0, 1, 2] ?_
  refine CodeP.seq (vc_sound hT hm _ ?_)
  cbv
  refine CodeP.seq (vc_sound hT hm _ ?_)
  cbv
  refine CodeP.seq (vc_sound hT hm _ ?_)
  cbv
  refine CodeP.seq (vc_sound hT hm _ ?_)
  cbv
  refine ReqP.mk ⟨by show (0 : Int) ≤ (S.length : Int); omega, Int.le_refl _, by show (S.length : Int) ≤ _; omega, by show ((8 : Nat) : Int) * (S.length : Int) ≤ _; omega⟩ (fun _ => ?_)
  refine CodeP.seq ?_
  refine CodeP.seqTo [(0, .slm 3 (some (.var ni)) IssuedD.c I), (1, .slm 4 (some (.var ns)) SeenD.c S), (2, i64 g), (7, .mapr 0), (8, .slm 1 none intC (ff 0)), (9, .bool (.var (fb 0))), (10, .osl 1 1 1 (.lit false) (.lit 0) (.len S)), (11, .bool (.var (mo 0)))]
    [.mp .i64 (.setb (mB 0) (.nat (mL 0))), .row 3 1 1 (.map intC (ls 0))] (Nat.zero_le _) (vc_sound hT hm _ ?_) ?_
  · cbv
    refine SplitP.mk (fun hs => ?_) (fun hs => ?_)
    · have h3 : mo 0 = true := by
        rw [mo0]
        have h4 : decide ((I.length : Int) > 0) = true := hs
        have := of_decide_eq_true h4
        omega
      exact ⟨⟨.refl _, .refl _, .refl _, .refl _, .eq (.nil0 ff0), .eq (.bool fb0.symm), .refl _, .eq (.bool h3.symm), trivial⟩, ⟨mp_start0 mB0 mL0, rep_row ls0 (by simp only [IE.den]; rw [hm']), trivial⟩, rfl⟩
    · refine ⟨⟨.refl _, .refl _, .refl _, .refl _, .eq (.nil0 ff0), .eq (.bool fb0.symm), .refl _, .eq (.bool ?_), trivial⟩, ⟨mp_start0 mB0 mL0, rep_row ls0 (by simp only [IE.den]; rw [hm']), trivial⟩, rfl⟩
      have h4 : decide ((I.length : Int) > 0) = false := hs
      have h5 := of_decide_eq_false h4
      show ((S.length : Int) == 0) = mo 0
      rw [Bool.eq_iff_iff, mo0]
      simp only [beq_iff_eq]
      omega
  refine CodeP.block ?_
  refine CodeP.loopP (X := Nat) (fun t => [(0, .slm 3 (some (.var ni)) IssuedD.c I), (1, .slm 4 (some (.var ns)) SeenD.c S), (2, i64 g), (7, .mapr 0), (8, .slm 1 none intC (ff t)), (9, .bool (.var (fb t))), (10, .osl 1 1 1 (.lit false) (.lit 0) (.len S)), (11, .bool (.var (mo t)))])
    (fun t => [.mp .i64 (.setb (mB t) (.nat (mL t))), .row 3 1 1 (.map intC (ls t))]) (fun t => t ≤ N) (fun t => N - t) 0 (Nat.zero_le _) (fun _ => Nat.zero_le _)
    ⟨⟨.refl _, .refl _, .refl _, .refl _, .refl _, .refl _, .refl _, .refl _, trivial⟩, ⟨.refl _, .refl _, trivial⟩, rfl⟩ ?_
  intro t ht
  refine CodeP.seq (vc_sound hT hm _ ?_)
  cbv
  refine SplitP.mk (fun hs => ?_) (fun hs => ?_)
  · have htN := moT t hs
    clear hs
    refine CodeP.seqTo [(0, .slm 3 (some (.var ni)) IssuedD.c I), (1, .slm 4 (some (.var ns)) SeenD.c S), (2, i64 g), (7, .mapr 0), (8, .slm 1 none intC (ff (t + 1))), (9, .bool (.var (fb (t + 1)))), (10, .osl 1 1 1 (.lit false) (.lit 0) (.len S))]
      [.mp .i64 (.setb (mB (t + 1)) (.nat (mL (t + 1)))), .row 3 1 1 (.map intC (ls t))] (Nat.zero_le _) (CodeP.block ?_) ?_
    · refine CodeP.seq (vc_sound hT hm _ ?_)
      cbv
      refine CallP.lend _ _ (hE h10 h11 t none) (.cons (.eq (.refl _)) (.cons (.eq (.refl _)) (.cons (.slm rfl (.inl ⟨_, _, rfl, rfl⟩) rfl (by simp only [IE.den]; rw [hlN, hm']) (fun e h => by cases h)) .nil))) rfl rfl ?_
      cbv
      refine CodeP.seq (vc_sound hT hm _ ?_)
      cbv
      refine SplitP.mk (fun hs => ?_) (fun hs => ?_)
      · cases (show ((0 : Int) != 0) = true from hs)
      clear hs
      refine CodeP.seq (vc_sound hT hm _ ?_)
      cbv
      refine SplitP.mk (fun hs => ?_) (fun hs => ?_)
      · have h1 : fe t = false := by simpa using (show (!fe t) = true from hs)
        refine ⟨⟨.refl _, .refl _, .refl _, .refl _, .eq (.slm (.inl rfl) (fno t h1).2.symm), .eq (.bool (fno t h1).1.symm), .refl _, trivial⟩, ⟨?_, .refl _, trivial⟩, rfl⟩
        rw [(mBn t h1).1, (mBn t h1).2]
        exact .refl _
      have h1 : fe t = true := by simpa using (show (!fe t) = false from hs)
      clear hs
      refine CodeP.seqTo [(0, .slm 3 (some (.var ni)) IssuedD.c I), (1, .slm 4 (some (.var ns)) SeenD.c S), (2, i64 g), (7, .mapr 0), (8, .slm 1 none intC (ff (t + 1))), (9, .bool (.var (fb (t + 1)))), (10, .osl 1 1 1 (.lit false) (.lit 0) (.len S))]
        [.mp .i64 (.setb (mB t) (.nat (mL t))), .row 3 1 1 (.map intC (ls t))] (Nat.zero_le _) (vc_sound hT hm _ ?_) ?_
      · cbv
        refine SplitP.mk (fun hs => ?_) (fun hs => ?_)
        · have h2 : fb t = false := by simpa using (show (!fb t) = true from hs)
          clear hs
          refine ReqP.mk ⟨by show (S.length : Int) = (((RE.map intC (ls t)).den.length : Nat) : Int); simp [RE.den, hlN, hm'], rfl, map_cells (fun _ => rfl), (by intro e he; cases he), by show (0 : Int) + (S.length : Int) ≤ _; omega, by show ((0 : Int) + (S.length : Int)) * ((8 : Nat) : Int) ≤ _; omega⟩ (fun _ => ?_)
          exact ⟨⟨.refl _, .refl _, .refl _, .refl _, .slm rfl (.inl ⟨_, _, rfl, by simp [RE.den, ff2 t h1 h2]⟩) rfl (by simp only [IE.den]; rw [ff2 t h1 h2, hlN, hm']) (fun e h => by cases h), .eq (.bool (by show true = fb (t + 1); rw [fb1 t h1])), .refl _, trivial⟩, ⟨.refl _, .refl _, trivial⟩, rfl⟩
        · have h2 : fb t = true := by simpa using (show (!fb t) = false from hs)
          exact ⟨⟨.refl _, .refl _, .refl _, .refl _, .eq (.slm (.inl rfl) (ff1 t h1 h2).symm), .eq (.bool (by show fb t = fb (t + 1); rw [h2, fb1 t h1])), .refl _, trivial⟩, ⟨.refl _, .refl _, trivial⟩, rfl⟩
      · refine CodeP.seq (vc_sound hT hm _ ?_)
        cbv
        refine vc_sound hT hm _ ?_
        cbv
        refine CodeP.loopm hT hm (X := Nat) (fun i => [(75, .int .i64 (.nat i))]) (fun i => [.mp .i64 (.setb (miB t i) (.nat (miL t i))), .row 3 1 1 (.map intC (ls t))]) (fun i => i ≤ m) (fun i => m - i) 0 (Nat.zero_le _) (fun _ => Nat.zero_le _) ⟨?_, ⟨?_, .refl _, trivial⟩, rfl⟩ ?_
        · (cbv; (repeat' (first | exact SnD.refl _ | exact trivial | exact SnD.nat0 | refine And.intro ?_ ?_)))
        · rw [(mBi t).1, (mBi t).2]
          exact .refl _
        intro i hi
        cbv
        refine SplitP.mk (fun hs => ?_) (fun hs => ?_)
        · have hkn : i < S.length := by
            have h5 : decide ((i : Int) < (S.length : Int)) = true := hs
            have := of_decide_eq_true h5
            omega
          clear hs
          refine ElemP.mk (by show (0 : Int) ≤ (i : Int) ∧ (i : Int) < (S.length : Int); omega) (fun s hs0 => ?_)
          replace hs0 : S[i]? = some s := hs0
          obtain ⟨x0, hx0⟩ : ∃ x, (ls t)[i]? = some x := ⟨_, List.getElem?_eq_getElem (by rw [hlN]; omega)⟩
          have hr : 0 ≤ x0 ∧ x0 < (n : Int) := exr t h1 i x0 hx0
          obtain ⟨y0, hy0⟩ : ∃ y, I[x0.toNat]? = some y := ⟨_, List.getElem?_eq_getElem (by omega)⟩
          have m1 := mis1 t i x0 y0 s hx0 hy0 hs0
          have m2 := mis2 t i x0 y0 s hx0 hy0 hs0
          have m3 := mis3 t i x0 y0 s hx0 hy0 hs0
          obtain ⟨z1, z2, z3, z4, z5, z6⟩ := s
          obtain ⟨a1, a2, a3, a4⟩ := y0
          replace m1 : ¬ z1 = g → miB t (i + 1) = miB t i ∧ miL t (i + 1) = miL t i := m1
          replace m2 : z1 = g → miB t i a2 = true → miB t (i + 1) = miB t i ∧ miL t (i + 1) = miL t i := m2
          replace m3 : z1 = g → miB t i a2 = false → (∀ z, (z == a2 || miB t i z) = miB t (i + 1) z) ∧ (miL t i : Int) + 1 = (miL t (i + 1) : Int) := m3
          cbv
          refine SplitP.mk (fun hg => ?_) (fun hg => ?_)
          · have hzg : z1 = g := by simpa using (show (z1 == g) = true from hg)
            refine ReqP.mk (by show (0 : Int) ≤ (i : Int) ∧ (i : Int) < (S.length : Int); omega) (fun _ => ?_)
            refine ElemP.mk (by show (0 : Int) ≤ (i : Int) ∧ (i : Int) < ((ls t).length : Int); rw [hlN]; omega) (fun x hx => ?_)
            replace hx : (ls t)[i]? = some x := hx
            rw [hx0] at hx
            cases hx
            cbv
            refine ElemP.mk (by have hr2 : 0 ≤ x0 ∧ x0 < (n : Int) := hr; show (0 : Int) ≤ x0 ∧ x0 < (I.length : Int); omega) (fun y hy => ?_)
            replace hy : I[x0.toNat]? = some y := hy
            rw [hy0] at hy
            cases hy
            cbv
            refine SplitP.mk (fun hs => ?_) (fun hs => ?_)
            · have h6 := m2 hzg hs
              cbv
              refine BackP.intro (i + 1) (by omega) (by show m - (i + 1) < m - i; omega) ⟨?_, ⟨by rw [h6.1, h6.2]; exact .refl _, .refl _, trivial⟩, rfl⟩
              (cbv; (repeat' (first | exact SnD.refl _ | exact trivial | exact SnD.nat0 | refine And.intro ?_ ?_)))
              exact .inc (by omega)
            · have h6 := m3 hzg hs
              have h7 := miLb t i
              refine ReqP.mk ⟨by show (miL t i : Int) < maxLen; simp only [maxLen]; have := (hl12' h10).1; omega⟩ (fun _ => ?_)
              cbv
              refine BackP.intro (i + 1) (by omega) (by show m - (i + 1) < m - i; omega) ⟨?_, ⟨mp_same h6.2 h6.1, .refl _, trivial⟩, rfl⟩
              (cbv; (repeat' (first | exact SnD.refl _ | exact trivial | exact SnD.nat0 | refine And.intro ?_ ?_)))
              exact .inc (by omega)
          · have h6 := m1 (by intro e; rw [e] at hg; have h7 : (g == g) = false := hg; simp at h7)
            refine BackP.intro (i + 1) (by omega) (by show m - (i + 1) < m - i; omega) ⟨?_, ⟨by rw [h6.1, h6.2]; exact .refl _, .refl _, trivial⟩, rfl⟩
            (cbv; (repeat' (first | exact SnD.refl _ | exact trivial | exact SnD.nat0 | refine And.intro ?_ ?_)))
            exact .inc (by omega)
        · have hie : i = m := by
            have h5 : decide ((i : Int) < (S.length : Int)) = false := hs
            have := of_decide_eq_false h5
            omega
          subst hie
          refine ⟨⟨.refl _, .refl _, .refl _, .refl _, .refl _, .refl _, .refl _, trivial⟩, ⟨by rw [(mBy t h1).1, (mBy t h1).2]; exact .refl _, .refl _, trivial⟩, rfl⟩
    · refine vc_sound hT hm _ ?_
      cbv
      refine (CallP.inl hT hm (hP ▸ Tryd.func23) rfl (by kernel_rfl) (rs := [.tmp 4]) rfl (by kernel_rfl) ?_)
      unfold Tryd.f23
      dsimp only
      cbv
      refine CodeP.loopP (X := Nat × Int) (fun y => [(0, .osl 1 1 1 (.lit false) (.lit 0) (.len S)), (1, .int .i64 (.len I)), (5, .int .i64 (.var y.2))]) (fun y => [.mp .i64 (.setb (mB (t + 1)) (.nat (mL (t + 1)))), .row 3 1 1 (.map intC (rl t y.1))])
        (fun y => inv t y.1 ∧ y.1 ≤ m ∧ y.2 = (m : Int) - 1 - y.1) (fun y => m - y.1) (0, (m : Int) - 1) ⟨inv0 t, Nat.zero_le _, by simp⟩ (fun _ => Nat.le_refl 2) ⟨⟨.refl _, .refl _, .eq (.int ?_), trivial⟩, ⟨.refl _, by rw [rl0]; exact .refl _, trivial⟩, rfl⟩ ?_
      · show IntKind.i64.wrap ((S.length : Int) - 1) = (m : Int) - 1
        rw [w64 (by omega) (by omega), hm']
      intro ⟨j, i⟩ ⟨hj, hjm, hi⟩
      replace hj : inv t j := hj
      replace hjm : j ≤ m := hjm
      replace hi : i = (m : Int) - 1 - j := hi
      refine CodeP.seq (vc_sound hT hm _ ?_)
      cbv
      refine SplitP.mk (fun hs => ?_) (fun hs => ?_)
      · have hi0 : 0 ≤ i := by
          have h3 : decide (i ≥ 0) = true := hs
          exact of_decide_eq_true h3
        clear hs
        replace hi : i = (m : Int) - 1 - (j : Int) := hi
        have hjm2 : j < m := by omega
        obtain ⟨x0, hx0⟩ : ∃ x, (rl t j)[i.toNat]? = some x := ⟨_, List.getElem?_eq_getElem (by rw [rll]; omega)⟩
        obtain ⟨x1, hx1⟩ : ∃ x : Int, x = x0 + 1 := ⟨_, rfl⟩
        obtain ⟨r1, hr1⟩ : ∃ l, l = (rl t j).set i.toNat x1 := ⟨_, rfl⟩
        have hb := rlb t j i x0 htN hi hi0 hx0
        have hn12 := (hl12' h10).1
        have hxr : 0 ≤ x0 ∧ x0 ≤ 12 := ⟨hb.1, Int.le_of_lt (Int.lt_of_lt_of_le hb.2 (Int.ofNat_le.2 hn12))⟩
        have hik : i.toNat = m - 1 - j := by omega
        have hr1x : r1[i.toNat]? = some x1 := by
          have := (List.getElem?_eq_some_iff.1 hx0).1
          rw [hr1, List.getElem?_set, if_pos rfl, if_pos this]
        have hr1l : r1.length = m := by rw [hr1, List.length_set, rll]
        have u1 : x1 < (n : Int) → r1 = ls (t + 1) ∧ t + 1 < N := fun h => by
          rw [hr1, hx1]
          exact up t j i x0 htN hj hi hi0 hx0 (by rw [← hx1]; exact h)
        have u2 : ¬ x1 < (n : Int) → r1.set i.toNat 0 = rl t (j + 1) ∧ inv t (j + 1) := fun h => by
          rw [hr1, List.set_set]
          exact cry t j i x0 htN hj hi hi0 hx0 (by rw [← hx1]; exact h)
        have hst : (i - 1) = (m : Int) - 1 - ((j + 1 : Nat) : Int) := by omega
        have hsw : IntKind.i64.wrap (i - 1) = i - 1 := w64 (by omega) (by omega)
        refine CodeP.seq (CodeP.block ?_)
        refine CodeP.seq (vc_sound hT hm _ ?_)
        cbv
        refine ReqP.mk (by replace hi : i = (m : Int) - 1 - (j : Int) := hi; show 0 ≤ i ∧ i < (S.length : Int); omega) (fun _ => ?_)
        refine ElemP.mk (by replace hi : i = (m : Int) - 1 - (j : Int) := hi; show 0 ≤ i ∧ i < ((rl t j).length : Int); rw [rll]; omega) (fun x hx => ?_)
        replace hx : (rl t j)[i.toNat]? = some x := hx
        rw [hx0] at hx
        cases hx
        cbv
        refine ReqP.mk (by replace hi : i = (m : Int) - 1 - (j : Int) := hi; show 0 ≤ i ∧ i < (S.length : Int); omega) (fun _ => ?_)
        refine ReqP.mk (by show i.toNat < ((rl t j).map intC).length; rw [List.length_map, rll]; omega) (fun _ => ?_)
        refine CodeP.pre [(0, .osl 1 1 1 (.lit false) (.lit 0) (.len S)), (1, .int .i64 (.len I)), (5, .int .i64 (.var i))] [.mp .i64 (.setb (mB (t + 1)) (.nat (mL (t + 1)))), .row 3 1 1 (.map intC r1)]
          ⟨⟨.refl _, .refl _, .refl _, trivial⟩, ⟨.refl _, upd_row rfl (show IntKind.i64.wrap (x0 + 1) = x1 by rw [w64 (by omega) (by omega), hx1]) hr1.symm, trivial⟩, rfl⟩ (Nat.le_refl 2) ?_
        refine vc_sound hT hm _ ?_
        cbv
        refine ReqP.mk (by replace hi : i = (m : Int) - 1 - (j : Int) := hi; show 0 ≤ i ∧ i < (S.length : Int); omega) (fun _ => ?_)
        refine ElemP.mk (by replace hi : i = (m : Int) - 1 - (j : Int) := hi; show 0 ≤ i ∧ i < (r1.length : Int); rw [hr1l]; omega) (fun x hx => ?_)
        replace hx : r1[i.toNat]? = some x := hx
        rw [hr1x] at hx
        cases hx
        cbv
        refine SplitP.mk (fun hs => ?_) (fun hs => ?_)
        · have h3 : x1 < (n : Int) := by
            rw [hn]
            exact of_decide_eq_true (show decide (x1 < (I.length : Int)) = true from hs)
          obtain ⟨v1, v2⟩ := u1 h3
          refine BackP.intro (t + 1) (by omega) (by show N - (t + 1) < N - t; omega) ⟨⟨.refl _, .refl _, .refl _, .refl _, .refl _, .refl _, .refl _, .eq (.bool (mo1 t v2).symm), trivial⟩, ⟨.refl _, .row (congrArg (List.map intC) v1), trivial⟩, rfl⟩
        · have h3 : ¬ x1 < (n : Int) := by
            rw [hn]
            exact of_decide_eq_false (show decide (x1 < (I.length : Int)) = false from hs)
          obtain ⟨v1, v2⟩ := u2 h3
          refine ReqP.mk (by replace hi : i = (m : Int) - 1 - (j : Int) := hi; show 0 ≤ i ∧ i < (S.length : Int); omega) (fun _ => ?_)
          refine ReqP.mk (by show i.toNat < (r1.map intC).length; rw [List.length_map, hr1l]; omega) (fun _ => ?_)
          refine vc_sound hT hm _ ?_
          cbv
          refine BackP.intro (j + 1, i - 1) ⟨v2, by show j + 1 ≤ m; omega, hst⟩ (by show m - (j + 1) < m - j; omega) ⟨⟨.refl _, .refl _, .eq (.int hsw), trivial⟩, ⟨.refl _, upd_row rfl rfl v1, trivial⟩, rfl⟩
      · have hie : j = m := by
          have h3 : decide (i ≥ 0) = false := hs
          have := of_decide_eq_false h3
          replace hi : i = (m : Int) - 1 - (j : Int) := hi
          omega
        subst hie
        have h4 := invE t htN hj
        refine BackP.intro (t + 1) (by omega) (by show N - (t + 1) < N - t; omega) ⟨⟨.refl _, .refl _, .refl _, .refl _, .refl _, .refl _, .refl _, .eq (.bool (mo2 t h4).symm), trivial⟩, ⟨.refl _, .row (congrArg (List.map intC) (fin t hj)), trivial⟩, rfl⟩
  · have hte := moF t ht hs
    subst hte
    clear hs ht up cry rlb fin inv0 invE mis1 mis2 mis3 mBi mBy mBn fb1 ff1 ff2 fno exr hE
    refine CodeP.seq (vc_sound hT hm _ ?_)
    cbv
    refine CallP.pure _ (hA' h10 h11) rfl ?_
    cbv
    refine CodeP.seq (vc_sound hT hm _ ?_)
    cbv
    refine SplitP.mk (fun hs => ?_) (fun hs => ?_)
    · cases (show ((0 : Int) != 0) = true from hs)
    clear hs
    refine SplitP.mk (fun hs => ?_) (fun hs => ?_)
    · exfalso
      have h3 : (!(fb t == fb t)) = true := hs
      simp at h3
    clear hs
    refine CallP.pure _ (hSI' h10 t _) rfl ?_
    cbv
    refine SplitP.mk (fun hs => ?_) (fun hs => ?_)
    · cases (show (!true) = true from hs)
    clear hs
    refine CodeP.seq (vc_sound hT hm _ ?_)
    cbv
    refine CallP.pure _ (hO h10) rfl ?_
    cbv
    refine CodeP.seq (vc_sound hT hm _ ?_)
    cbv
    refine SplitP.mk (fun hs => ?_) (fun hs => ?_)
    · have ho : o1 = false := by
        have h3 : (e1 != 0) = true := hs
        rw [he1] at h3
        cases o1 with
        | true => cases h3
        | false => rfl
      clear hs
      refine SplitP.mk (fun hs => ?_) (fun hs => ?_)
      · refine CallP.pure _ (hOc h10) rfl ?_
        cbv
        refine .mk (.cons (.eq (.bool ?_)) .nil) rfl
        show (!oc) = true
        rw [← kOf h11, ho]
        rfl
      · exfalso
        have h3 : (e1 == 300) = false := hs
        rw [he1, ho] at h3
        cases h3
    have ho : o1 = true := by
      have h3 : (e1 != 0) = false := hs
      rw [he1] at h3
      cases o1 with
      | true => rfl
      | false => cases h3
    clear hs
    have q1 := (kMem ho).1
    have q2 := (kMem ho).2.1
    have q3 := (kMem ho).2.2
    have hsrt : ∀ (k : Nat) (x y : Int), l1[k + 1]? = some x → l1[k]? = some y → y < x := fun k x y hx hy => by
      obtain ⟨hk1, rfl⟩ := List.getElem?_eq_some_iff.1 hx
      obtain ⟨hk2, rfl⟩ := List.getElem?_eq_some_iff.1 hy
      exact List.pairwise_iff_getElem.1 q3 k (k + 1) hk2 hk1 (by omega)
    have q4 : ∀ x ∈ l1, mB t x = true := fun x hx => mBN x (q1 x hx)
    have q5 : l1.length ≤ 100 := by
      have := mll t
      have := (hl12' h10).1
      omega
    clear kMem hO hOc hA' hSI' q1 q3 he1
    obtain ⟨nL, hnL⟩ : ∃ n : Nat, n = l1.length := ⟨_, rfl⟩
    refine vc_sound hT hm _ ?_
    cbv
    refine CodeP.loopc hT hm (X := Nat) (fun k => [(133, .int .i64 (.nat k))]) (fun k => k ≤ nL) (fun k => nL - k) 0 (Nat.zero_le _) (Nat.zero_le _) ?_ rfl ?_
    · (cbv; (repeat' (first | exact SnD.refl _ | exact trivial | exact SnD.nat0 | refine And.intro ?_ ?_)))
    intro k hk
    cbv
    refine SplitP.mk (fun hs => ?_) (fun hs => ?_)
    · have hkn : k < l1.length := by
        have h5 : decide ((k : Int) < (l1.length : Int)) = true := hs
        have := of_decide_eq_true h5
        omega
      clear hs
      refine ElemP.mk (by show (0 : Int) ≤ (k : Int) ∧ (k : Int) < (l1.length : Int); omega) (fun x hx => ?_)
      replace hx : l1[k]? = some x := hx
      cbv
      have hxm := q4 x (List.mem_of_getElem? hx)
      refine LetBP.mk fun c hc => ?_
      cbv
      refine SplitP.mk (fun hs => ?_) (fun hs => ?_)
      · exfalso
        have h3 : (!c) = true := hs
        have h4 : c = mB t x := hc
        rw [h4, hxm] at h3
        cases h3
      clear hs
      refine SplitP.mk (fun hs => ?_) (fun hs => ?_)
      · have hk0 : 0 < k := by
          have h3 : decide ((k : Int) > 0) = true := hs
          have := of_decide_eq_true h3
          omega
        have hwk : IntKind.i64.wrap ((k : Int) - 1) = ((k - 1 : Nat) : Int) := by rw [w64 (by omega) (by omega)]; omega
        refine ElemP.mk (by show 0 ≤ IntKind.i64.wrap ((k : Int) - 1) ∧ IntKind.i64.wrap ((k : Int) - 1) < (l1.length : Int); rw [hwk]; omega) (fun y hy => ?_)
        replace hy : l1[(IntKind.i64.wrap ((k : Int) - 1)).toNat]? = some y := hy
        rw [hwk, Int.toNat_natCast] at hy
        have hlt := hsrt (k - 1) x y (by rw [Nat.sub_add_cancel hk0]; exact hx) hy
        cbv
        refine SplitP.mk (fun hs => ?_) (fun hs => ?_)
        · exfalso
          have h3 : decide (y ≥ x) = true := hs
          have := of_decide_eq_true h3
          omega
        · refine BackP.intro (k + 1) (by omega) (by show nL - (k + 1) < nL - k; omega) ⟨?_, ⟨.refl _, .refl _, trivial⟩, rfl⟩
          (cbv; (repeat' (first | exact SnD.refl _ | exact trivial | exact SnD.nat0 | refine And.intro ?_ ?_)))
          exact .inc (by omega)
      · refine BackP.intro (k + 1) (by omega) (by show nL - (k + 1) < nL - k; omega) ⟨?_, ⟨.refl _, .refl _, trivial⟩, rfl⟩
        (cbv; (repeat' (first | exact SnD.refl _ | exact trivial | exact SnD.nat0 | refine And.intro ?_ ?_)))
        exact .inc (by omega)
    · refine .mk (.cons (.eq (.bool ?_)) .nil) rfl
      show ((l1.length : Int) == (mL t : Int)) = true
      rw [mLN, q2]
      simp
theorem own : ownKnob Tryd.prog.godebug = none := by kernel_rfl
theorem laidOut : laidOutB Tryd.prog = true := by kernel_rfl
set_option maxRecDepth 100000 in
theorem lifted (os : Os) (started : os.Started) (H : Type) (enc : TypeId × Value → H) :
    ReturnsInHanded {} Tryd.checked os 5 .any (fun w args => (Rows.possibleExactSpec.pre enc Tryd.prog Tryd.f5 [] false w args ∧ laidMetH Tryd.prog laidR w) ∧ sizedMet enc Tryd.prog Tryd.f5 (OpenSpec.ofChange Rows.possibleExactSpec) false w args) (Rows.possibleExactSpec.post enc Tryd.prog Tryd.f5 false true false false) := by
  refine returnsInHanded_of_change_and (C := Tryd.checked) (X := fun w _ => laidMetH Tryd.prog laidR w) (fun _ _ _ hh h => h.of_heap hh) own started (by kernel_rfl) Tryd.func5
    (ChangeSpec.witness_shaped (enc := enc) (C := Tryd.checked) (os := os) (X := fun w _ => laidMetH Tryd.prog laidR w) false (World.doorLaid Tryd.prog 400 os) #[.slice none 0 0, .slice none 0 0, .int .i64 0] 8 rfl (World.shaped_of_RefB (by kernel_rfl) (by kernel_rfl)) (by kernel_rfl) (by kernel_rfl) (by kernel_rfl) (door_met os _)) ?_
  intro W base args ds gs before hval0 hW _ hSz hL _
  have hval : ∀ (j : Nat) t v, Tryd.f5.params[j]? = some t → args[j]? = some v → Value.okWide Tryd.prog W .any base t v := hval0
  have hW' := hW
  obtain ⟨p, q, hA0, hV, rfl, hfz, hnd⟩ := hW
  have hA : DataW.TrodAll enc Tryd.prog W 0 (fun _ => true) true Tryd.f5.params.toList args.toList ds p := hA0
  rw [Tryd.params5] at hA hval
  obtain ⟨v0, vs0, d0, ds0, p0, q0, hargs, rfl, rfl, h0, r0⟩ := trodAll_cons hA
  obtain ⟨v1, vs1, d1, ds1, p1, q1, rfl, rfl, rfl, h1, r1⟩ := trodAll_cons r0
  obtain ⟨v2, vs2, d2, ds2, p2, q2, rfl, rfl, rfl, h2, r2⟩ := trodAll_cons r1
  obtain ⟨rfl, rfl, rfl⟩ := trodAll_nil r2
  obtain rfl : args = #[v0, v1, v2] := by cases args; simp_all
  obtain ⟨rfl, rfl⟩ := trodVars_none hV
  have k0 := h0
  have lt0 : ∀ x ∈ p0, x.block < W.heap.size := by obtain ⟨m, hm⟩ := k0; exact DataW.trod_lt m _ _ _ hm
  obtain ⟨⟨nb0, l0⟩, ⟨ln0, lk0, ll0⟩, rp0⟩ := open_sl (e := 26) (by kernel_rfl) opd_issueds (hval 0 22 v0 rfl rfl) h0
  have k1 := h1
  have lt1 : ∀ x ∈ p1, x.block < W.heap.size := by obtain ⟨m, hm⟩ := k1; exact DataW.trod_lt m _ _ _ hm
  obtain ⟨⟨nb1, l1⟩, ⟨ln1, lk1, ll1⟩, rp1⟩ := open_sl (e := 28) (by kernel_rfl) opd_seens (hval 1 23 v1 rfl rfl) h1
  have k2 := h2
  have lt2 : ∀ x ∈ p2, x.block < W.heap.size := by obtain ⟨m, hm⟩ := k2; exact DataW.trod_lt m _ _ _ hm
  obtain ⟨z2, wf2, rp2⟩ := open_i Tryd.underlying3 (hval 2 3 v2 rfl rfl) h2
  clear hA0 hval0
  refine (Pure.law (main_pure nb0 l0 ln0 lk0 ll0 nb1 l1 ln1 lk1 ll1 z2 wf2) (of_laid hL) (lrep_cons rp0 (lrep_cons rp1 (lrep_cons rp2 LRep.nil)))).mono fun e W' ⟨he, bel⟩ => ?_
  subst he
  exact ⟨_, rfl, _, _, _, [], _, [], hW', trodAll_mk1 (shut_bool Tryd.underlying4 _), (trodAll_cons_mk (Below.trod laidOut (by kernel_rfl) (of_decide_eq_true (by kernel_rfl)) k0 bel lt0) (trodAll_cons_mk (Below.trod laidOut (by kernel_rfl) (of_decide_eq_true (by kernel_rfl)) k1 bel lt1) (trodAll_cons_mk (Below.trod laidOut (by kernel_rfl) (of_decide_eq_true (by kernel_rfl)) k2 bel lt2) trodAll_mk0))), rfl, bel.frame _, fun h => by cases h⟩

theorem over : Rows.possibleExactRow.holds Tryd.pinned (OpenSpec.ofChange Rows.possibleExactSpec) :=
  OpenClaim.holds_of_wide 5 Tryd.f5 rfl rfl rfl rfl rfl rfl rfl ⟨rfl, rfl, rfl, rfl, rfl⟩ rfl rfl rfl rfl rfl (by kernel_rfl) Tryd.func5 (by kernel_rfl)
    (of_decide_eq_true (by kernel_rfl)) (by unfold Func.isWrapper; first | (rw [if_pos (by decide +kernel)]; kernel_rfl) | (rw [if_neg (by decide +kernel)]; exact ⟨rfl, rfl⟩))
    (fun os started H enc _ => lifted os started H enc)
theorem card : Rows.PossibleExactCardSaid :=
  Claim7.holds_tied_plain_at .later [] [.data] true (true, "0ba69c9015ec36225fad3d349e9e33d8c719f02d1fa742a6aef5915b5d7b3d20") false
    over (fun _ h => by cases h) (by kernel_rfl) (fun _ h => by cases h) possibleExact_row_tie rfl ⟨rfl, rfl⟩ (by kernel_rfl) rfl
    (fun f fn hf hfn => by
      obtain rfl : f = 5 := Option.some.inj ((show Tryd.prog.funcNamed "testamur/testamurlaw30.PossibleExact" = some 5 by kernel_rfl).symm.trans hf) |>.symm
      obtain rfl : fn = Tryd.f5 := (Option.some.inj (Tryd.func5.symm.trans hfn)).symm
      exact ⟨by kernel_rfl, fun j t ht => by
        rw [Tryd.params5] at ht
        have hm : t ∈ [22, 23, 3] := by simpa using Array.mem_of_getElem? ht
        have hall : ([22, 23, 3].all fun u => !Tryd.prog.wantsStandIn u) = true := by kernel_rfl
        exact (show Tryd.prog.wantsStandIn t = false by simpa using List.all_eq_true.1 hall t hm)⟩)
    (by kernel_rfl)
end possibleExact
theorem possibleExact_holds : Rows.PossibleExactCardSaid := possibleExact.card
#print axioms possibleExact_holds

end Go.Proofs.YtffmgfehaahlhaaDoor
