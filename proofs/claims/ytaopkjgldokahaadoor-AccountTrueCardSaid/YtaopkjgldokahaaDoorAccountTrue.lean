import Derived.Test.YtaopkjgldokahaaDoorPart6
import Derived.Test.YtaopkjgldokahaaDoorTie
import Derived.Test.YtaopkjgldokahaaDoorCards
set_option linter.all false
set_option linter.unusedSimpArgs false
set_option linter.unusedVariables false
set_option linter.unnecessarySimpa false
namespace Go.Proofs.YtaopkjgldokahaaDoor
open Go.ChangeShapes Go.WideShapes Go.ChangeAt Go.RowKit
namespace accountTrue
theorem wrap_byte (b : BitVec 8) : IntKind.i64.wrap (b.toNat : Int) = (b.toNat : Int) := by
  have := b.isLt
  simp [IntKind.wrap, IntKind.signed, IntKind.bits]
  omega
theorem rem_pick (b : BitVec 8) (m : Nat) : Int.tmod (IntKind.i64.wrap (b.toNat : Int)) (m : Int) = ((b.toNat % m : Nat) : Int) := by
  rw [wrap_byte]
  rfl
def mkB (hd : BitVec 8) (i f : Nat) : Bool := (BE.cmp .eql (IE.bin .and .i64 (IE.bin .shr .i64 (IE.bin .add .i64 (.conv .i64 (.u8 hd)) (.nat i)) (.bin .rem .i64 (.nat f) (.lit 4))) (.lit 1)) (.lit 0)).den
def valsOf (xv : List Int) (A : List Nat) : List Int := A.map fun a => xv.getD a 0
abbrev zeroT : List D := [.int .u8 (.lit 0), .int .u8 (.lit 0), .int .u8 (.lit 0), .int .u8 (.lit 0), .int .u8 (.lit 0), .int .u8 (.lit 0), .int .u8 (.lit 0), .int .u8 (.lit 0), .int .u8 (.lit 0), .int .u8 (.lit 0), .int .u8 (.lit 0), .int .u8 (.lit 0), .int .u8 (.lit 0), .int .u8 (.lit 0), .int .u8 (.lit 0), .int .u8 (.lit 0), .int .u8 (.lit 0), .int .u8 (.lit 0), .int .u8 (.lit 0), .int .u8 (.lit 0), .int .u8 (.lit 0), .int .u8 (.lit 0), .int .u8 (.lit 0), .int .u8 (.lit 0), .int .u8 (.lit 0), .int .u8 (.lit 0), .int .u8 (.lit 0), .int .u8 (.lit 0), .int .u8 (.lit 0), .int .u8 (.lit 0), .int .u8 (.lit 0), .int .u8 (.lit 0)]
theorem fitF_of (xv : List Int) : ∀ A : List Nat, (∀ a ∈ A, a < xv.length) → fitF xv (A.map Int.ofNat) (valsOf xv A) = true
  | [], _ => rfl
  | a :: A, h => by
    have h1 := h a (by simp)
    have h2 := fitF_of xv A fun b hb => h b (by simp [hb])
    show (decide ((0 : Int) ≤ (a : Int) ∧ (a : Int) < xv.length ∧ xv[(a : Int).toNat]? = some (xv.getD a 0)) && fitF xv (A.map Int.ofNat) (valsOf xv A)) = true
    rw [h2, Bool.and_true, decide_eq_true_eq]
    refine ⟨by omega, by omega, ?_⟩
    simp [List.getD, h1]
def tokB (p0 z1 : Int) (j : Nat) : Int := if z1 = 0 then 0 else if j = 0 then p0 else if j = 1 then z1 else 0
theorem ofC_built {xr xp : Int} {xn nf : Bool} {xv : List Int} {A : List Nat} {v z1 : Int} (hA : ∀ a ∈ A, a < xv.length) : OfC ⟨xr, xp, xn, xv⟩ ⟨v, tokB (byteP xp) z1, ⟨xp, xr, nf, A.map Int.ofNat, nf, valsOf xv A⟩⟩ := by
  refine ⟨rfl, ?_, ?_⟩
  · unfold fitsB
    simp only
    rw [fitF_of xv A hA, Bool.and_true, decide_eq_true_eq]
    simp [valsOf]
  · by_cases h : z1 = 0
    · left
      unfold noTok tokL
      rw [decide_eq_true_eq]
      have : tokB (byteP xp) z1 = fun _ => 0 := by funext j; unfold tokB; rw [if_pos h]
      simp only [this]
      rfl
    · right
      show tokB (byteP xp) z1 0 = byteP xp
      unfold tokB
      rw [if_neg h, if_pos rfl]
set_option maxRecDepth 100000 in
set_option maxHeartbeats 4000000 in
theorem main_pure (ni : Bool) (I : List IssuedD) (hi1 : ni = true → I = []) (hi2 : ∀ x ∈ I, x.fine) (hi3 : I.length ≤ maxLen) (nc : Bool) (C : List CoalD) (hc1 : nc = true → C = []) (hc2 : ∀ x ∈ C, x.fine) (hc3 : C.length ≤ maxLen) (np : Bool) (pk : List (BitVec 8)) (hp1 : np = true → pk = []) (hp2 : ∀ x ∈ pk, True) (hp3 : pk.length ≤ maxLen) (nv : Bool) (vf : List (BitVec 8)) (hv1 : nv = true → vf = []) (hv2 : ∀ x ∈ vf, True) (hv3 : vf.length ≤ maxLen) (hd : BitVec 8) :
    Pure Tryd.prog 4 [.slm 3 (some (.var ni)) IssuedD.c I, .slm 1 (some (.var nc)) CoalD.c C, .slm 1 (some (.var np)) u8C pk, .slm 1 (some (.var nv)) u8C vf, .int .u8 (.u8 hd)] (boolD true) := by
  rw [maxLen_eq] at hi3 hc3 hp3 hv3
  have hN := sane_pure
  have hF := fun nb => few_pure ni nc nb I C [] hi3 (by simp)
  have hHs := fun (U : List Nat) (k : Nat) (h : U.length < 9223372036854775807) => hasN_pure U none k h
  have hB := fun h : fewL I C [] = true => fewL_big h
  have hv16 : fewL I C [] = true → ∀ x ∈ I, x.values.length ≤ 16 := fun h x hx => by
    unfold fewL fewA fewB acct0 at h
    simp only [Bool.and_eq_true, List.all_eq_true, decide_eq_true_eq] at h
    exact h.2.2.2.2.2.1 x hx
  have hKp := fun (h : fewL I C [] = true) (T : List SightD) (nb : Option BE) (hS : BigV T) (hl : T.length < 9223372036854775807) => kept_pure ni I nc C nb T hi1 hc1 (fewL_big h).1 (by have := (fewL_big h).2.2.1; omega) (fun x hx => by have := (fewL_big h).2.2.2.1 x hx; omega) hS hl
  have hSe := fun (T : List SightD) (c : List Int) (na nb : Option BE) (h1 : c.length < 9223372036854775807) (h2 : T.length ≤ 1000000) => Sees_pure c T na nb h1 h2
  have hVw := fun (T : List SightD) (c : List Int) (na nb : Option BE) (h1 : c.length < 9223372036854775807) (h2 : T.length ≤ 1000) => View_pure c T na nb h1 h2
  have hHi := fun (l : List Int) (nb : Option BE) (v : Int) (h : l.length < 9223372036854775807) => has_pure l nb v h
  have hCo := fun (U : List Nat) (nu : Option BE) (h1 : ∀ u ∈ U, u < I.length) (h2 : U.length < 9223372036854775807) => collide_pure I (some (.var ni)) nu U h1 h2
  obtain ⟨fw, hfw⟩ : ∃ b, b = fewL I C [] := ⟨_, rfl⟩
  rw [← hfw] at hF hB hv16 hKp
  replace hF := Pure.args (.cons (.refl _) (.cons (.refl _) (.cons (.nil0 rfl) .nil))) (hF none)
  have e : (boolD true : D) = retD [boolD true] := rfl
  rw [e]
  refine Pure.introC T_ok Tryd.func4 rfl (by kernel_rfl) (rs := [.tmp 10]) rfl (by kernel_rfl) ?_
  generalize hP : Tryd.prog = P at *
  have hT : T.ok P := hP ▸ T_ok
  have hm : P.follows .mixedOrders = true := hP ▸ follows
  unfold Tryd.f4
  dsimp only
  refine CodeP.seq (vc_sound hT hm _ ?_)
  cbv
  refine CodeP.seq (vc_sound hT hm _ ?_)
  cbv
  first
    | refine CallP.pure _ (hN) rfl ?_
    | refine PureP.mk _ (hN) rfl ?_
  cbv
  refine SplitP.mk (fun hs => ?_) (fun hs => ?_)
  · cases (show (!true) = true from hs)
  clear hs hN
  refine CodeP.seq (vc_sound hT hm _ ?_)
  cbv
  refine SplitP.mk (fun hs => ?_) (fun hs => ?_)
  · exact .mk (.cons (.eq (.bool rfl)) .nil) rfl
  have hp4 : pk.length ≤ 4 := by
    have h5 := of_decide_eq_false (show decide ((pk.length : Int) > 4) = false from hs)
    omega
  clear hs
  refine SplitP.mk (fun hs => ?_) (fun hs => ?_)
  · exact .mk (.cons (.eq (.bool rfl)) .nil) rfl
  have hpv : pk.length ≤ vf.length := by
    have h5 := of_decide_eq_false (show decide ((vf.length : Int) < (pk.length : Int)) = false from hs)
    omega
  clear hs
  refine SplitP.mk (fun hs => ?_) (fun hs => ?_)
  · exact .mk (.cons (.eq (.bool rfl)) .nil) rfl
  have hi0 : 0 < I.length := by
    have h5 := of_decide_eq_false (show decide ((I.length : Int) = 0) = false from hs)
    omega
  clear hs
  first
    | refine CallP.pure _ (hF) rfl ?_
    | refine PureP.mk _ (hF) rfl ?_
  cbv
  refine SplitP.mk (fun hs => ?_) (fun hs => ?_)
  · exact .mk (.cons (.eq (.bool rfl)) .nil) rfl
  have h10 : fw = true := by simpa using (show (!fw) = false from hs)
  clear hs hF
  replace hB := hB h10
  replace hv16 := hv16 h10
  replace hKp := hKp h10
  refine CodeP.seq (vc_sound hT hm _ ?_)
  cbv
  refine CodeP.seq (vc_sound hT hm _ ?_)
  cbv
  refine CodeP.keep [0, 1, 2, 3, 4, 11, 12, 13] ?_
  obtain ⟨n, hn⟩ : ∃ n : Nat, n = pk.length := ⟨_, rfl⟩
  refine CodeP.loopP (X := Nat × Nat × List SightD × List Nat) (fun x => [(0, .slm 3 (some (.var ni)) IssuedD.c I), (1, .slm 1 (some (.var nc)) CoalD.c C), (2, .slm 1 (some (.var np)) u8C pk), (3, .slm 1 (some (.var nv)) u8C vf), (4, .int .u8 (.u8 hd)), (11, .osl 37 0 (x.2.1 + 1) (.lit false) (.lit 0) (.nat x.2.1)), (12, .osl 1 1 (x.2.1 + 1) (.lit false) (.lit 0) (.nat x.2.1)), (13, .int .i64 (.nat x.1))])
    (fun x => [.row 53 37 (x.2.1 + 1) (.map SightD.c x.2.2.1), .row 3 1 (x.2.1 + 1) (.map natC x.2.2.2)])
    (fun x => x.1 ≤ n ∧ x.2.2.1.length = x.2.1 ∧ x.2.2.2.length = x.2.1 ∧ x.2.1 ≤ x.1 ∧ Built I x.2.2.1 x.2.2.2 ∧ BigV x.2.2.1) (fun x => n - x.1) (0, 0, [], []) ⟨Nat.zero_le _, rfl, rfl, Nat.le_refl _, ⟨rfl, List.nodup_nil, fun j u s h => by simp at h⟩, ⟨fun x h => by simp at h, fun x h => by simp at h⟩⟩ (fun _ => Nat.zero_le _) ⟨?_, ⟨.row rfl, .row rfl, trivial⟩, rfl⟩ ?_
  · refine ⟨.refl _, .refl _, .refl _, .refl _, .refl _, .eq (.osl rfl rfl rfl), .eq (.osl rfl rfl rfl), .nat0, ?_⟩
    (cbv; (repeat' (first | exact SnD.refl _ | exact trivial | exact SnD.nat0 | refine And.intro ?_ ?_)))
  intro ⟨i, q, T', U⟩ ⟨hi, hq1, hq2, hqi, hBT, hBV⟩
  simp only at hi hq1 hq2 hqi hBT hBV
  refine CodeP.seq (vc_sound hT hm _ ?_)
  cbv
  refine SplitP.mk (fun hs => ?_) (fun hs => ?_)
  rotate_left
  · have hT4 : T'.length ≤ 4 := by omega
    obtain ⟨sb, hsb⟩ : ∃ b, b = false := ⟨_, rfl⟩
    refine CodeP.to [(0, .slm 3 (some (.var ni)) IssuedD.c I), (1, .slm 1 (some (.var nc)) CoalD.c C), (11, .slm 37 (some (.var sb)) SightD.c T'), (12, .slm 1 none natC U)] [] ⟨⟨.refl _, .refl _, .slm rfl (.inl ⟨_, _, rfl, rfl⟩) rfl (by show (q : Int) = (T'.length : Int); omega) (fun e h => by cases h; exact hsb), .slm rfl (.inl ⟨_, _, rfl, rfl⟩) rfl (by show (q : Int) = (U.length : Int); omega) (fun e h => by cases h), trivial⟩, trivial, rfl⟩ (Nat.zero_le _) ?_
    have hK := hKp T' (some (.var sb)) hBV (by omega)
    obtain ⟨ok, hok⟩ : ∃ b, b = decide (newE I C = 0) := ⟨_, rfl⟩
    obtain ⟨x, hx⟩ : ∃ x, x = keptA ni I nc C T' := ⟨_, rfl⟩
    rw [← hok, ← hx] at hK
    have hx6 : ok = true → x.sights = keepT I [] T' ∧ x.sets = setsL I (keepT I [] T') C ∧ okT I C (keepT I [] T') := fun h => by
      have h2 : newE I C = 0 := by rw [h] at hok; simpa using hok.symm
      have h3 := kept_form (ni := ni) (nc := nc) (S := T') h2
      rw [hx, h3.1]
      exact ⟨rfl, rfl, h3.2⟩
    clear hx hok
    obtain ⟨x1, x2, x3, x4, x5, x6, x7, x8⟩ := x
    simp only at hx6
    refine CodeP.seq (vc_sound hT hm _ ?_)
    cbv
    first
      | refine CallP.pure _ (hK) rfl ?_
      | refine PureP.mk _ (hK) rfl ?_
    cbv
    refine CodeP.seq (vc_sound hT hm _ ?_)
    cbv
    refine SplitP.mk (fun hs => ?_) (fun hs => ?_)
    · exact .mk (.cons (.eq (.bool rfl)) .nil) rfl
    have h11 : ok = true := by simpa using (show (!ok) = false from hs)
    obtain ⟨e6, e8, hok4⟩ := hx6 h11
    refine SplitP.mk (fun hs => ?_) (fun hs => ?_)
    · exact .mk (.cons (.eq (.bool rfl)) .nil) rfl
    have hl6 : x6.length = T'.length := by
      have h5 : ((x6.length : Int) != (T'.length : Int)) = false := hs
      simp only [bne_eq_false_iff_eq] at h5
      omega
    have h66 : keepT I [] T' = T' := (kept_sub I T').eq_of_length (by rw [← e6]; exact hl6)
    rw [h66] at e8 hok4
    clear hs hx6 hl6 h66 e6 hK
    have hck := hok4.2.1
    have hcl : ∀ c ∈ C, c.l.length ≤ 10 := hB.2.2.2.1
    have e8l : x8.length = C.length := by rw [e8, setsL_len]
    have hSe' := fun c na nb h => hSe T' c na nb h (by omega)
    have hVw' := fun c na nb h => hVw T' c na nb h (by omega)
    have hCo' := hCo U none hBT.lt (by omega)
    have hUl := hBT.lt
    have hseq : ∀ c j, j ∈ seesL c T' → j < U.length := fun c j h => by rw [← hBT.len]; exact (sees_mem.1 h).1
    have hsvl : ∀ c, (seesL c T').length = (viewL c T').length := fun c => by rw [sees_len, viewL_eq, viewS_len]
    obtain ⟨cb, hcb⟩ : ∃ b, b = collB I U := ⟨_, rfl⟩
    rw [← hcb] at hCo'
    have hIn : cb = false → ∀ (c : List Int) (k j u : Nat) (x : IssuedD), (seesL c T')[k]? = some j → U[j]? = some u → I[u]? = some x → x.person ∈ ofA I (viewL c T') (numOf (sightsL31 c T') k : Int) := fun h c k j u x h1 h2 h3 => built_of hBT (hcb.symm.trans h) hck h1 h2 h3
    have hgl : ∀ (i : Nat) c z, C[i]? = some c → x8[i]? = some z → z.l.length = manyL c.l T' ∧ ∀ (g : Nat) y, z.l[g]? = some y → y.persons = ofA I (viewL c.l T') (g : Int) := fun i c z h1 h2 => by
      rw [e8] at h2
      rw [setsL_get h1 h2, groupsL_len]
      exact ⟨rfl, fun g y h => (groupsL_get h).2⟩
    obtain ⟨sl, hsl⟩ : ∃ f : List Int → List Nat, f = fun c => seesL c T' := ⟨_, rfl⟩
    obtain ⟨vl, hvl⟩ : ∃ f : List Int → List SeenD, f = fun c => viewL c T' := ⟨_, rfl⟩
    have hSv : ∀ c ∈ C, (∀ na nb, Pure P 16 [.slm 1 na intC c.l, .slm 37 nb SightD.c T'] (.slm 1 none natC (sl c.l))) ∧ (∀ na nb, Pure P 12 [.slm 1 na intC c.l, .slm 37 nb SightD.c T'] (.tup [.slm 4 none SeenD.c (vl c.l), .int .i64 (.nat (manyL c.l T'))])) := fun c h => by
      rw [hsl, hvl]
      exact ⟨fun na nb => hSe' c.l na nb (by have := hcl c h; omega), fun na nb => hVw' c.l na nb (by have := hcl c h; omega)⟩
    obtain ⟨mc, hmc⟩ : ∃ m : Nat, m = C.length := ⟨_, rfl⟩
    refine CodeP.seq (vc_sound hT hm _ ?_)
    cbv
    refine CodeP.keep [0, 1, 11, 12, 17, 19] ?_
    refine CodeP.loopc hT hm (X := Nat) (fun g => [(19, .int .i64 (.nat g))]) (fun g => g ≤ mc) (fun g => mc - g) 0 (Nat.zero_le _) (Nat.zero_le _) ?_ rfl ?_
    · (cbv; (repeat' (first | exact SnD.refl _ | exact trivial | exact SnD.nat0 | refine And.intro ?_ ?_)))
    intro v hv
    replace hv : v ≤ mc := hv
    cbv
    have hend : ((x8.length : Int) == (C.length : Int)) = true := by rw [e8l]; simp
    refine SplitP.mk (fun hs => ?_) (fun hs => ?_)
    rotate_left
    · refine vc_sound hT hm _ ?_
      cbv
      exact .mk (.cons (.eq (.bool hend)) .nil) rfl
    have hkn : v < C.length := by
      have h5 : decide ((v : Int) < (C.length : Int)) = true := hs
      have := of_decide_eq_true h5
      omega
    clear hs
    refine SplitP.mk (fun hs => ?_) (fun hs => ?_)
    rotate_left
    · refine vc_sound hT hm _ ?_
      cbv
      exact .mk (.cons (.eq (.bool hend)) .nil) rfl
    clear hs
    have hv8 : v < x8.length := by omega
    refine ElemP.mk (by show (0 : Int) ≤ (v : Int) ∧ (v : Int) < (C.length : Int); omega) (fun c hc => ?_)
    replace hc : C[v]? = some c := hc
    obtain ⟨hSc, hVc⟩ := hSv c (List.mem_of_getElem? hc)
    have hgc := fun z => hgl v c z hc
    obtain ⟨c1, c2⟩ := c
    simp only at hSc hVc hgc
    have hIc := fun h => hIn h c2
    have hsj := fun k j (h : (sl c2)[k]? = some j) => hseq c2 j (List.mem_of_getElem? (by rw [hsl] at h; exact h))
    have hsv := hsvl c2
    have hug : ∀ k u, (viewL c2 T')[k]? = some u → u.group = (numOf (sightsL31 c2 T') k : Int) ∧ numOf (sightsL31 c2 T') k < manyL c2 T' := fun k u h => view_group h
    have hpl : ∀ g : Nat, (ofA I (viewL c2 T') (g : Int)).length < 9223372036854775807 := fun g => ofA_len (by have := hB.2.1; omega) _ _
    obtain ⟨po, hpo⟩ : ∃ f : Nat → List Int, f = fun g => ofA I (viewL c2 T') ((g : Nat) : Int) := ⟨_, rfl⟩
    obtain ⟨G, hG⟩ : ∃ f : Nat → Nat, f = fun k => numOf (sightsL31 c2 T') k := ⟨_, rfl⟩
    obtain ⟨mn, hmn⟩ : ∃ m, m = manyL c2 T' := ⟨_, rfl⟩
    obtain ⟨s2, hs2⟩ : ∃ m, m = sl c2 := ⟨_, rfl⟩
    obtain ⟨v2, hv2'⟩ : ∃ m, m = vl c2 := ⟨_, rfl⟩
    have hs3 : seesL c2 T' = s2 := by rw [hs2, hsl]
    have hv3 : viewL c2 T' = v2 := by rw [hv2', hvl]
    have hIc' : cb = false → ∀ (k j u : Nat) (x : IssuedD), s2[k]? = some j → U[j]? = some u → I[u]? = some x → x.person ∈ po (G k) := fun h k j u x h1 h2 h3 => by
      rw [hpo, hG]
      exact hIc h k j u x (by rw [hs3]; exact h1) h2 h3
    have hug' : ∀ k u, v2[k]? = some u → u.group = (G k : Int) ∧ G k < mn := fun k u h => by rw [hG, hmn]; exact hug k u (by rw [hv3]; exact h)
    have hgz : ∀ z, x8[v]? = some z → z.l.length = mn ∧ ∀ (g : Nat) y, z.l[g]? = some y → y.persons = po g := fun z h => by rw [hmn, hpo]; exact hgc z h
    have hpl' : ∀ g, (po g).length < 9223372036854775807 := fun g => by rw [hpo]; exact hpl g
    rw [← hs2] at hsj
    have hsv' : s2.length = v2.length := by rw [← hs3, ← hv3]; exact hsv
    rw [← hs2] at hSc
    rw [← hmn, ← hv2'] at hVc
    have hs4 : s2.length ≤ 4 := by
      rw [hsv', ← hv3]
      have := view_len c2 T'
      omega
    clear hIc hsv hug hpl hgc hs2 hv2' hs3 hv3 hpo hG hmn
    cbv
    first
      | refine CallP.pure _ ((hSc _ _)) rfl ?_
      | refine PureP.mk _ ((hSc _ _)) rfl ?_
    cbv
    refine ElemP.mk (by show (0 : Int) ≤ (v : Int) ∧ (v : Int) < (C.length : Int); omega) (fun zz hzz => ?_)
    replace hzz : C[v]? = some zz := hzz
    rw [hc] at hzz
    cases hzz
    cbv
    first
      | refine CallP.pure _ ((hVc _ _)) rfl ?_
      | refine PureP.mk _ ((hVc _ _)) rfl ?_
    cbv
    obtain ⟨ms, hms⟩ : ∃ m : Nat, m = s2.length := ⟨_, rfl⟩
    refine CodeP.keep [0, 1, 11, 12, 17, 19, 20, 21, 23] ?_
    refine CodeP.loopc hT hm (X := Nat) (fun g => [(23, .int .i64 (.nat g))]) (fun g => g ≤ ms) (fun g => ms - g) 0 (Nat.zero_le _) (Nat.zero_le _) ?_ rfl ?_
    · (cbv; (repeat' (first | exact SnD.refl _ | exact trivial | exact SnD.nat0 | refine And.intro ?_ ?_)))
    intro k hk
    replace hk : k ≤ ms := hk
    cbv
    refine SplitP.mk (fun hs => ?_) (fun hs => ?_)
    rotate_left
    · refine BackP.intro (v + 1) (by show v + 1 ≤ mc; omega) (by show mc - (v + 1) < mc - v; omega) ⟨?_, HEnt.refl _, rfl⟩
      (cbv; (repeat' (first | exact SnD.refl _ | exact trivial | exact SnD.nat0 | refine And.intro ?_ ?_)))
      exact .inc (by omega)
    have hvC := hkn
    clear hkn
    have hkn : k < s2.length := by
      have h5 : decide ((k : Int) < (s2.length : Int)) = true := hs
      have := of_decide_eq_true h5
      omega
    clear hs
    refine ElemP.mk (by show (0 : Int) ≤ (k : Int) ∧ (k : Int) < (v2.length : Int); omega) (fun u hu => ?_)
    replace hu : v2[k]? = some u := hu
    obtain ⟨hu1, hu2⟩ := hug' k u hu
    obtain ⟨u1, u2, u3, u4, u5, u6⟩ := u
    simp only at hu1
    subst hu1
    cbv
    have hIk := fun h => hIc' h k
    obtain ⟨g, hg⟩ : ∃ g, g = G k := ⟨_, rfl⟩
    rw [← hg] at hu2 hIk
    rw [← hg]
    refine DrawP.front 29 (by kernel_rfl) (by kernel_rfl) ?_
    cbv
    refine ElemP.mk (by show (0 : Int) ≤ (v : Int) ∧ (v : Int) < (x8.length : Int); omega) (fun z hz => ?_)
    replace hz : x8[v]? = some z := hz
    obtain ⟨hz1, hz2⟩ := hgz z hz
    have hz3 := hz2 g
    have hpg := hpl' g
    obtain ⟨pg, hpg2⟩ : ∃ p, p = po g := ⟨_, rfl⟩
    rw [← hpg2] at hz3 hpg hIk
    obtain ⟨za, z2⟩ := z
    simp only at hz1 hz3
    cbv
    refine SplitP.mk (fun hs => ?_) (fun hs => ?_)
    · exfalso
      have h3 := of_decide_eq_true (show decide ((g : Int) ≥ (z2.length : Int)) = true from hs)
      omega
    clear hs
    refine ElemP.mk (by show (0 : Int) ≤ (v : Int) ∧ (v : Int) < (x8.length : Int); omega) (fun zz hzz => ?_)
    replace hzz : x8[v]? = some zz := hzz
    rw [hz] at hzz
    cases hzz
    cbv
    refine ElemP.mk (by show (0 : Int) ≤ (g : Int) ∧ (g : Int) < (z2.length : Int); omega) (fun y hy => ?_)
    replace hy : z2[g]? = some y := hy
    have hy2 := hz3 y hy
    obtain ⟨p1, p2, p3⟩ := y
    simp only at hy2
    subst hy2
    cbv
    refine ElemP.mk (by show (0 : Int) ≤ (k : Int) ∧ (k : Int) < (s2.length : Int); omega) (fun j hj => ?_)
    replace hj : s2[k]? = some j := hj
    have hjl := hsj k j hj
    cbv
    refine ElemP.mk (by show (0 : Int) ≤ (j : Int) ∧ (j : Int) < (U.length : Int); omega) (fun w hw => ?_)
    replace hw : U[j]? = some w := hw
    have hwl := hUl w (List.mem_of_getElem? hw)
    cbv
    refine ElemP.mk (by show (0 : Int) ≤ (w : Int) ∧ (w : Int) < (I.length : Int); omega) (fun x hx => ?_)
    replace hx : I[w]? = some x := hx
    have hIx := fun h => hIk h j w x hj hw hx
    obtain ⟨xa, xp, xc, xd⟩ := x
    simp only at hIx
    cbv
    have hHas := fun nb => hHi p3 nb xp hpg
    obtain ⟨hh, hhh⟩ : ∃ b, b = decide (xp ∈ p3) := ⟨_, rfl⟩
    rw [← hhh] at hHas
    have hfin : hh = false → cb = true := fun h => by
      cases hq : cb with
      | true => rfl
      | false =>
        rw [h] at hhh
        exact absurd (hIx hq) (of_decide_eq_false hhh.symm)
    first
      | refine CallP.pure _ ((hHas _)) rfl ?_
      | refine PureP.mk _ ((hHas _)) rfl ?_
    cbv
    refine SplitP.mk (fun hs => ?_) (fun hs => ?_)
    · have h5 : hh = false := by simpa using (show (!hh) = true from hs)
      first
        | refine CallP.pure _ (hCo') rfl ?_
        | refine PureP.mk _ (hCo') rfl ?_
      cbv
      exact .mk (.cons (.eq (.bool (hfin h5))) .nil) rfl
    · refine BackP.intro (k + 1) (by show k + 1 ≤ ms; omega) (by show ms - (k + 1) < ms - k; omega) ⟨?_, HEnt.refl _, rfl⟩
      (cbv; (repeat' (first | exact SnD.refl _ | exact trivial | exact SnD.nat0 | refine And.intro ?_ ?_)))
      exact .inc (by omega)
  have hkn : i < pk.length := by
    have h5 : decide ((i : Int) < (pk.length : Int)) = true := hs
    have := of_decide_eq_true h5
    omega
  clear hs
  refine CodeP.seq (CodeP.block ?_)
  obtain ⟨b, hb⟩ : ∃ b, pk[i]? = some b := ⟨_, List.getElem?_eq_getElem hkn⟩
  obtain ⟨k, hk⟩ : ∃ k : Nat, k = b.toNat % I.length := ⟨_, rfl⟩
  have hkI : k < I.length := by rw [hk]; exact Nat.mod_lt _ hi0
  refine CodeP.seqTo [(0, .slm 3 (some (.var ni)) IssuedD.c I), (1, .slm 1 (some (.var nc)) CoalD.c C), (2, .slm 1 (some (.var np)) u8C pk), (3, .slm 1 (some (.var nv)) u8C vf), (4, .int .u8 (.u8 hd)), (11, .osl 37 0 (q + 1) (.lit false) (.lit 0) (.nat q)), (12, .osl 1 1 (q + 1) (.lit false) (.lit 0) (.nat q)), (13, .int .i64 (.nat i)), (14, .int .i64 (.nat k))]
    [.row 53 37 (q + 1) (.map SightD.c T'), .row 3 1 (q + 1) (.map natC U)] (Nat.zero_le _) (vc_sound hT hm _ ?_) ?_
  · cbv
    refine ElemP.mk (by show (0 : Int) ≤ (i : Int) ∧ (i : Int) < (pk.length : Int); omega) (fun zz hzz => ?_)
    replace hzz : pk[i]? = some zz := hzz
    rw [hb] at hzz
    cases hzz
    cbv
    refine ReqP.mk (by show ¬ (I.length : Int) = 0; omega) (fun _ => ?_)
    refine ⟨⟨.refl _, .refl _, .refl _, .refl _, .refl _, .refl _, .refl _, .refl _, .eq (.int ?_), trivial⟩, HEnt.refl _, rfl⟩
    show Int.tmod (IntKind.i64.wrap (b.toNat : Int)) (I.length : Int) = (k : Int)
    rw [hk]
    exact rem_pick _ _
  have hHas := hHs U k (by omega)
  obtain ⟨hu, hhu⟩ : ∃ b, b = decide (k ∈ U) := ⟨_, rfl⟩
  rw [← hhu] at hHas
  refine CodeP.seq (vc_sound hT hm _ ?_)
  cbv
  refine CallP.lend _ _ hHas (.cons (.slm rfl (.inl ⟨_, _, rfl, rfl⟩) rfl (by show (q : Int) = (U.length : Int); omega) (fun e h => by cases h)) (.cons (.eq (.refl _)) .nil)) rfl rfl ?_
  cbv
  refine SplitP.mk (fun hs => ?_) (fun hs => ?_)
  · refine vc_sound hT hm _ ?_
    cbv
    refine BackP.intro (i + 1, q, T', U) ⟨by simp only; omega, hq1, hq2, by simp only; omega, hBT, hBV⟩ (by show n - (i + 1) < n - i; omega) ⟨?_, HEnt.refl _, rfl⟩
    (cbv; (repeat' (first | exact SnD.refl _ | exact trivial | exact SnD.nat0 | refine And.intro ?_ ?_)))
    exact .inc (by omega)
  have hun : k ∉ U := by
    have h5 : hu = false := hs
    rw [h5] at hhu
    exact of_decide_eq_false hhu.symm
  clear hs hHas hhu
  refine CodeP.seq (vc_sound hT hm _ ?_)
  cbv
  refine ReqP.mk (app_ok hq2 (by omega) (fun _ => rfl) rfl (by decide)) (fun _ => ?_)
  refine CodeP.keep [0, 1, 2, 3, 4, 11, 12, 13, 14] ?_
  obtain ⟨x, hx⟩ : ∃ x, I[k]? = some x := ⟨_, List.getElem?_eq_getElem hkI⟩
  obtain ⟨bv, hbv⟩ : ∃ b, vf[i]? = some b := ⟨_, List.getElem?_eq_getElem (by omega)⟩
  have hvi : i < vf.length := by omega
  obtain ⟨xr, xp, xn, xv⟩ := x
  refine CodeP.seq (vc_sound hT hm _ ?_)
  cbv
  refine ElemP.mk (by show (0 : Int) ≤ (i : Int) ∧ (i : Int) < (vf.length : Int); omega) (fun zz hzz => ?_)
  replace hzz : vf[i]? = some zz := hzz
  rw [hbv] at hzz
  cases hzz
  cbv
  refine ElemP.mk (by show (0 : Int) ≤ (k : Int) ∧ (k : Int) < (I.length : Int); omega) (fun zz hzz => ?_)
  replace hzz : I[k]? = some zz := hzz
  rw [hx] at hzz
  cases hzz
  cbv
  refine ElemP.mk (by show (0 : Int) ≤ (k : Int) ∧ (k : Int) < (I.length : Int); omega) (fun zz hzz => ?_)
  replace hzz : I[k]? = some zz := hzz
  rw [hx] at hzz
  cases hzz
  cbv
  obtain ⟨vv, hvv⟩ : ∃ v, v = Int.tmod (IntKind.i64.wrap (bv.toNat : Int)) 8 := ⟨_, rfl⟩
  have hxl : xv.length ≤ 16 := hv16 _ (List.mem_of_getElem? hx)
  obtain ⟨U2, hU2⟩ : ∃ l, l = U ++ [k] := ⟨_, rfl⟩
  obtain ⟨mk, hmk⟩ : ∃ mk : Nat → Bool, mk = fun f => mkB hd i f := ⟨_, rfl⟩
  obtain ⟨AA, hAA⟩ : ∃ AA : Nat → List Nat, AA = fun f => (List.range f).filter mk := ⟨_, rfl⟩
  have A0 : AA 0 = [] := by rw [hAA]; rfl
  have A1 : ∀ f, mk f = true → AA (f + 1) = AA f ++ [f] := fun f h => by rw [hAA]; simp only; rw [List.range_succ, List.filter_append]; simp [h]
  have A2 : ∀ f, mk f = false → AA (f + 1) = AA f := fun f h => by rw [hAA]; simp only; rw [List.range_succ, List.filter_append]; simp [h]
  have A3 : ∀ f, (AA f).length ≤ f := fun f => by rw [hAA]; have := List.length_filter_le mk (List.range f); simpa using this
  have A4 : ∀ f a, a ∈ AA f → a < f := fun f a h => by rw [hAA] at h; exact List.mem_range.1 (List.mem_filter.1 h).1
  clear hAA
  obtain ⟨xl, hxl2⟩ : ∃ n, n = xv.length := ⟨_, rfl⟩
  obtain ⟨FL, hFL⟩ : ∃ l : List Int, l = (AA xl).map Int.ofNat := ⟨_, rfl⟩
  obtain ⟨VL, hVL⟩ : ∃ l : List Int, l = valsOf xv (AA xl) := ⟨_, rfl⟩
  obtain ⟨nf, hnf⟩ : ∃ b : Bool, b = decide (FL.length = 0) := ⟨_, rfl⟩
  refine CodeP.seqTo [(0, .slm 3 (some (.var ni)) IssuedD.c I), (1, .slm 1 (some (.var nc)) CoalD.c C), (2, .slm 1 (some (.var np)) u8C pk), (3, .slm 1 (some (.var nv)) u8C vf), (4, .int .u8 (.u8 hd)), (11, .osl 37 0 (q + 1) (.lit false) (.lit 0) (.nat q)), (12, .osl 1 1 (q + 2) (.lit false) (.lit 0) (.nat (q + 1))), (13, .int .i64 (.nat i)), (14, .int .i64 (.nat k)), (15, .ptr 2 1 0)] [.row 53 37 (q + 1) (.map SightD.c T'), .row 3 1 (q + 2) (.map natC U2), .cells (.int .i64 (.var vv) :: (zeroT ++ [.int .i64 (.var xp), .int .i64 (.var xr), .slm 1 (some (.var nf)) intC FL, .slm 1 (some (.var nf)) intC VL]))] (Nat.zero_le _) ?_ ?_
  · refine CodeP.seq (vc_sound hT hm _ ?_)
    cbv
    refine CodeP.block ?_
    refine CodeP.loopP (X := Nat × Nat × List Int × List Int) (fun y => [(0, .slm 3 (some (.var ni)) IssuedD.c I), (1, .slm 1 (some (.var nc)) CoalD.c C), (2, .slm 1 (some (.var np)) u8C pk), (3, .slm 1 (some (.var nv)) u8C vf), (4, .int .u8 (.u8 hd)), (11, .osl 37 0 (q + 1) (.lit false) (.lit 0) (.nat q)), (12, .osl 1 1 (q + 2) (.lit false) (.lit 0) (.nat (q + 1))), (13, .int .i64 (.nat i)), (14, .int .i64 (.nat k)), (15, .ptr 2 1 0), (16, .int .i64 (.nat y.1))])
      (fun y => match y.2.1 with
        | 0 => [.row 53 37 (q + 1) (.map SightD.c T'), .row 3 1 (q + 2) (.map natC U2), .cells (.int .i64 (.var vv) :: (zeroT ++ [.int .i64 (.var xp), .int .i64 (.var xr), .nils, .nils]))]
        | m + 1 => [.row 53 37 (q + 1) (.map SightD.c T'), .row 3 1 (q + 2) (.map natC U2), .cells (.int .i64 (.var vv) :: (zeroT ++ [.int .i64 (.var xp), .int .i64 (.var xr), .osl 1 3 (m + 1) (.lit false) (.lit 0) (.nat (m + 1)), .osl 1 4 (m + 1) (.lit false) (.lit 0) (.nat (m + 1))])), .row 3 1 (m + 1) (.map intC y.2.2.1), .row 3 1 (m + 1) (.map intC y.2.2.2)])
      (fun y => y.1 ≤ xl ∧ y.2.2.1.length = y.2.1 ∧ y.2.2.2.length = y.2.1 ∧ y.2.2.1 = (AA y.1).map Int.ofNat ∧ y.2.2.2 = valsOf xv (AA y.1)) (fun y => xl - y.1) (0, 0, [], []) ⟨Nat.zero_le _, rfl, rfl, by simp only; rw [A0]; rfl, by simp only; rw [A0]; rfl⟩ (fun _ => Nat.zero_le _) ⟨?_, ?_, rfl⟩ ?_
    · refine ⟨.refl _, .refl _, .refl _, .refl _, .refl _, .refl _, .eq (.osl rfl rfl (by show (q : Int) + 1 = ((q + 1 : Nat) : Int); omega)), .refl _, .refl _, .refl _, .nat0, ?_⟩
      (cbv; (repeat' (first | exact SnD.refl _ | exact trivial | exact SnD.nat0 | refine And.intro ?_ ?_)))
    · refine ⟨.refl _, (by rw [hU2]; exact row_app k rfl (.cons (.refl _) .nil)), .cells (.cons (.eq (.int ?_)) ?_), trivial⟩
      · exact hvv.symm
      · (cbv; (repeat' (first | exact trivial | exact BkEq.refl _ | exact SnD.refl _ | exact SnDs.nil | refine BkEq.cells ?_ | refine SnDs.cons ?_ ?_ | refine And.intro ?_ ?_)))
    intro ⟨f, m, F, V⟩ ⟨hf, hF1, hV1, hF2, hV2⟩
    simp only at hf hF1 hV1 hF2 hV2
    have a1 := A1 f
    have a2 := A2 f
    have a3 := A3 f
    rcases m with _ | m
    · refine CodeP.seq (vc_sound hT hm _ ?_)
      cbv
      refine ElemP.mk (by show (0 : Int) ≤ (k : Int) ∧ (k : Int) < (I.length : Int); omega) (fun zz hzz => ?_)
      replace hzz : I[k]? = some zz := hzz
      rw [hx] at hzz
      cases hzz
      cbv
      refine SplitP.mk (fun hs => ?_) (fun hs => ?_)
      rotate_left
      · have hkn : xv.length ≤ f := by
          have h5 : decide ((f : Int) < (xv.length : Int)) = false := hs
          have := of_decide_eq_false h5
          omega
        clear hs
        have hfx : f = xl := by omega
        subst hfx
        rw [← hFL] at hF2
        rw [← hVL] at hV2
        have hF3 : FL = [] := by rw [← hF2]; exact List.eq_nil_of_length_eq_zero hF1
        have hV3 : VL = [] := by rw [← hV2]; exact List.eq_nil_of_length_eq_zero hV1
        have hn3 : nf = true := by rw [hnf, hF3]; rfl
        refine ⟨⟨.refl _, .refl _, .refl _, .refl _, .refl _, .refl _, .refl _, .refl _, .refl _, .refl _, trivial⟩, ⟨.refl _, .refl _, .cells ?_, trivial⟩, rfl⟩
        repeat' (first | exact .eq (.nilv hF3 hn3) | exact .eq (.nilv hV3 hn3) | exact SnDs.nil | exact SnD.refl _ | refine SnDs.cons ?_ ?_)
      have hkn : f < xv.length := by
        have h5 : decide ((f : Int) < (xv.length : Int)) = true := hs
        have := of_decide_eq_true h5
        omega
      clear hs
      refine CodeP.seq (CodeP.block ?_)
      refine CodeP.seq (vc_sound hT hm _ ?_)
      cbv
      refine ReqP.mk (by show (0 : Int) ≤ Int.tmod (f : Int) 4; exact Int.tmod_nonneg _ (by omega)) (fun _ => ?_)
      refine CodeP.condE _ rfl (fun hs => ?_) (fun hs => ?_)
      · refine CodeP.foot ?_
        refine FootP.intro2 hT hm [(0, [2]), (1, [2]), (2, [2]), (6, [2]), (7, [2]), (8, [2]), (19, [2]), (20, [2]), (21, [2]), (22, [2]), (23, [2]), (24, [2])] (by kernel_rfl) ?_
        cbv
        refine ElemP.mk (by show (0 : Int) ≤ (k : Int) ∧ (k : Int) < (I.length : Int); omega) (fun zz hzz => ?_)
        replace hzz : I[k]? = some zz := hzz
        rw [hx] at hzz
        cases hzz
        cbv
        obtain ⟨y, hy⟩ : ∃ y, xv[f]? = some y := ⟨_, List.getElem?_eq_getElem hkn⟩
        refine ElemP.mk (by show (0 : Int) ≤ (f : Int) ∧ (f : Int) < (xv.length : Int); omega) (fun zz hzz => ?_)
        replace hzz : xv[f]? = some zz := hzz
        rw [hy] at hzz
        cases hzz
        cbv
        refine vc_sound hT hm _ ?_
        cbv
        have hAf : AA f = [] := by rw [hF2] at hF1; exact List.eq_nil_of_length_eq_zero (by simpa using hF1)
        have hmt : mk f = true := by rw [hmk]; exact hs
        have hA5 := a1 hmt
        rw [hAf] at hA5
        refine BackP.intro (f + 1, 1, [(f : Int)], [y]) ⟨by simp only; omega, rfl, rfl, by simp only; rw [hA5]; rfl, by simp only; rw [hA5]; simp [valsOf, List.getD, hy]⟩ (by show xl - (f + 1) < xl - f; omega) ⟨?_, ⟨.refl _, .refl _, .cells ?_, .rowe rfl ?_, .row rfl, trivial⟩, rfl⟩
        · refine ⟨.refl _, .refl _, .refl _, .refl _, .refl _, .refl _, .refl _, .refl _, .refl _, .refl _, .inc (by omega), trivial⟩
        · repeat' (first | exact SnDs.nil | exact SnD.refl _ | exact .eq (.osl rfl rfl rfl) | refine SnDs.cons ?_ ?_)
        · intro j e1 e2 h1 h2
          cases j with
          | zero =>
            cases h1
            cases h2
            exact ⟨rfl, fun j d d' q1 q2 => by
              cases j with
              | zero => cases q1; cases q2; exact .int rfl
              | succ j => cases q1⟩
          | succ j => cases h1
      · refine vc_sound hT hm _ ?_
        cbv
        refine vc_sound hT hm _ ?_
        cbv
        have hmt : mk f = false := by rw [hmk]; exact hs
        have hA5 := a2 hmt
        refine BackP.intro (f + 1, 0, F, V) ⟨by simp only; omega, hF1, hV1, by simp only; rw [hA5]; exact hF2, by simp only; rw [hA5]; exact hV2⟩ (by show xl - (f + 1) < xl - f; omega) ⟨?_, ⟨.refl _, .refl _, .refl _, trivial⟩, rfl⟩
        refine ⟨.refl _, .refl _, .refl _, .refl _, .refl _, .refl _, .refl _, .refl _, .refl _, .refl _, .inc (by omega), trivial⟩
    · refine CodeP.seq (vc_sound hT hm _ ?_)
      cbv
      refine ElemP.mk (by show (0 : Int) ≤ (k : Int) ∧ (k : Int) < (I.length : Int); omega) (fun zz hzz => ?_)
      replace hzz : I[k]? = some zz := hzz
      rw [hx] at hzz
      cases hzz
      cbv
      refine SplitP.mk (fun hs => ?_) (fun hs => ?_)
      rotate_left
      · have hkn : xv.length ≤ f := by
          have h5 : decide ((f : Int) < (xv.length : Int)) = false := hs
          have := of_decide_eq_false h5
          omega
        clear hs
        have hfx : f = xl := by omega
        subst hfx
        rw [← hFL] at hF2
        rw [← hVL] at hV2
        have hn3 : nf = false := by rw [hnf, ← hF2, hF1]; rfl
        refine ⟨⟨.refl _, .refl _, .refl _, .refl _, .refl _, .refl _, .refl _, .refl _, .refl _, .refl _, trivial⟩, ⟨.refl _, .refl _, .cells ?_, trivial⟩, rfl⟩
        repeat' (first | exact SnDs.nil | exact SnD.refl _ | exact .slm rfl (.inl ⟨_, _, rfl, by rw [hF2]; rfl⟩) rfl (by show ((m + 1 : Nat) : Int) = (FL.length : Int); rw [← hF2, hF1]) (fun e h => by cases h; exact hn3) | exact .slm rfl (.inl ⟨_, _, rfl, by rw [hV2]; rfl⟩) rfl (by show ((m + 1 : Nat) : Int) = (VL.length : Int); rw [← hV2, hV1]) (fun e h => by cases h; exact hn3) | refine SnDs.cons ?_ ?_)
      have hkn : f < xv.length := by
        have h5 : decide ((f : Int) < (xv.length : Int)) = true := hs
        have := of_decide_eq_true h5
        omega
      clear hs
      refine CodeP.seq (CodeP.block ?_)
      refine CodeP.seq (vc_sound hT hm _ ?_)
      cbv
      refine ReqP.mk (by show (0 : Int) ≤ Int.tmod (f : Int) 4; exact Int.tmod_nonneg _ (by omega)) (fun _ => ?_)
      refine CodeP.condE _ rfl (fun hs => ?_) (fun hs => ?_)
      · refine CodeP.foot ?_
        refine FootP.intro2 hT hm [(0, [2]), (1, [2]), (2, [2]), (5, [3]), (6, [2]), (7, [2]), (8, [2]), (18, [4]), (19, [2]), (20, [2]), (21, [2]), (22, [2]), (23, [2]), (24, [2])] (by kernel_rfl) ?_
        cbv
        have hm16 : m + 1 ≤ 16 := by
          have h9 : F.length = (AA f).length := by rw [hF2]; simp
          omega
        refine ReqP.mk (app_ok hF1 (by omega) (fun _ => rfl) rfl (by decide)) (fun _ => ?_)
        refine ElemP.mk (by show (0 : Int) ≤ (k : Int) ∧ (k : Int) < (I.length : Int); omega) (fun zz hzz => ?_)
        replace hzz : I[k]? = some zz := hzz
        rw [hx] at hzz
        cases hzz
        cbv
        obtain ⟨y, hy⟩ : ∃ y, xv[f]? = some y := ⟨_, List.getElem?_eq_getElem hkn⟩
        refine ElemP.mk (by show (0 : Int) ≤ (f : Int) ∧ (f : Int) < (xv.length : Int); omega) (fun zz hzz => ?_)
        replace hzz : xv[f]? = some zz := hzz
        rw [hy] at hzz
        cases hzz
        cbv
        refine ReqP.mk (app_ok hV1 (by omega) (fun _ => rfl) rfl (by decide)) (fun _ => ?_)
        refine vc_sound hT hm _ ?_
        cbv
        have hmt : mk f = true := by rw [hmk]; exact hs
        have hA5 := a1 hmt
        refine BackP.intro (f + 1, m + 2, F ++ [(f : Int)], V ++ [y]) ⟨by simp only; omega, by simp only; rw [List.length_append, hF1]; rfl, by simp only; rw [List.length_append, hV1]; rfl, by simp only; rw [hA5, hF2, List.map_append]; rfl, by simp only; rw [hA5, hV2]; simp [valsOf, List.getD, hy]⟩ (by show xl - (f + 1) < xl - f; omega) ⟨?_, ⟨.refl _, .refl _, .cells ?_, row_app (f : Int) rfl (.cons (.int rfl) .nil), row_app y rfl (.cons (.refl _) .nil), trivial⟩, rfl⟩
        · refine ⟨.refl _, .refl _, .refl _, .refl _, .refl _, .refl _, .refl _, .refl _, .refl _, .refl _, .inc (by omega), trivial⟩
        · repeat' (first | exact SnDs.nil | exact SnD.refl _ | exact .eq (.osl rfl rfl (by show ((m + 1 : Nat) : Int) + 1 = ((m + 2 : Nat) : Int); omega)) | refine SnDs.cons ?_ ?_)
      · refine vc_sound hT hm _ ?_
        cbv
        refine vc_sound hT hm _ ?_
        cbv
        have hmt : mk f = false := by rw [hmk]; exact hs
        have hA5 := a2 hmt
        refine BackP.intro (f + 1, m + 1, F, V) ⟨by simp only; omega, hF1, hV1, by simp only; rw [hA5]; exact hF2, by simp only; rw [hA5]; exact hV2⟩ (by show xl - (f + 1) < xl - f; omega) ⟨?_, ⟨.refl _, .refl _, .refl _, .refl _, .refl _, trivial⟩, rfl⟩
        refine ⟨.refl _, .refl _, .refl _, .refl _, .refl _, .refl _, .refl _, .refl _, .refl _, .refl _, .inc (by omega), trivial⟩
  refine CodeP.seq (vc_sound hT hm _ ?_)
  cbv
  refine ElemP.mk (by show (0 : Int) ≤ (k : Int) ∧ (k : Int) < (I.length : Int); omega) (fun zz hzz => ?_)
  replace hzz : I[k]? = some zz := hzz
  rw [hx] at hzz
  cases hzz
  cbv
  refine CodeP.seq (vc_sound hT hm _ ?_)
  cbv
  obtain ⟨z1, hz1⟩ : ∃ z, z = (IE.bin .shr .u8 (.u8 hd) (.lit 7)).den := ⟨_, rfl⟩
  obtain ⟨tk, htk⟩ : ∃ f : Nat → Int, f = tokB (byteP xp) z1 := ⟨_, rfl⟩
  refine CodeP.seqTo [(0, .slm 3 (some (.var ni)) IssuedD.c I), (1, .slm 1 (some (.var nc)) CoalD.c C), (2, .slm 1 (some (.var np)) u8C pk), (3, .slm 1 (some (.var nv)) u8C vf), (4, .int .u8 (.u8 hd)), (11, .osl 37 0 (q + 1) (.lit false) (.lit 0) (.nat q)), (12, .osl 1 1 (q + 2) (.lit false) (.lit 0) (.nat (q + 1))), (13, .int .i64 (.nat i)), (14, .int .i64 (.nat k)), (15, .ptr 2 1 0)] [.row 53 37 (q + 1) (.map SightD.c T'), .row 3 1 (q + 2) (.map natC U2), .cells (SightD.c ⟨vv, tk, ⟨xp, xr, nf, FL, nf, VL⟩⟩)] (Nat.zero_le _) (vc_sound hT hm _ ?_) ?_
  · cbv
    refine SplitP.mk (fun hs => ?_) (fun hs => ?_)
    · have hz0 : z1 = 0 := by rw [BE.eql_t] at hs; exact hz1.trans hs
      have htz : ∀ j, (0 : Int) = tk j := fun j => by rw [htk]; unfold tokB; rw [if_pos hz0]
      refine ⟨⟨.refl _, .refl _, .refl _, .refl _, .refl _, .refl _, .refl _, .refl _, .refl _, .refl _, trivial⟩, ⟨.refl _, .refl _, .cells ?_, trivial⟩, rfl⟩
      repeat' (first | exact SnDs.nil | exact SnD.refl _ | exact .eq (.int (htz _)) | refine SnDs.cons ?_ ?_)
    · have hz0 : ¬ z1 = 0 := by rw [BE.eql_f] at hs; exact fun q => hs (hz1.symm.trans q)
      have htz0 : IntKind.wrap .u8 xp = tk 0 := by rw [htk]; unfold tokB; rw [if_neg hz0, if_pos rfl]; rfl
      have htz1 : z1 = tk 1 := by rw [htk]; unfold tokB; rw [if_neg hz0, if_neg (by decide), if_pos rfl]
      have htz : ∀ j, (0 : Int) = tk (j + 2) := fun j => by rw [htk]; unfold tokB; rw [if_neg hz0, if_neg (by omega), if_neg (by omega)]
      rw [hz1] at htz1
      refine ⟨⟨.refl _, .refl _, .refl _, .refl _, .refl _, .refl _, .refl _, .refl _, .refl _, .refl _, trivial⟩, ⟨.refl _, .refl _, .cells ?_, trivial⟩, rfl⟩
      repeat' (first | exact SnDs.nil | exact SnD.refl _ | exact .eq (.int htz0) | exact .eq (.int htz1) | exact .eq (.int (htz _)) | refine SnDs.cons ?_ ?_)
  refine vc_sound hT hm _ ?_
  cbv
  have hs37 : ((37 : Nat) : Int) = 37 := rfl
  refine ReqP.mk (app_ok hq1 (by omega) (fun _ => rfl) rfl (by decide)) (fun _ => ?_)
  refine vc_sound hT hm _ ?_
  cbv
  have hFl : FL.length < 9223372036854775807 := by rw [hFL]; have := A3 xl; simp; omega
  have hVl : VL.length < 9223372036854775807 := by rw [hVL]; have := A3 xl; simp [valsOf]; omega
  have hbt : Built I (T' ++ [⟨vv, tk, ⟨xp, xr, nf, FL, nf, VL⟩⟩]) U2 := by
    rw [hU2]
    refine hBT.app hun hx ?_
    rw [htk, hFL, hVL]
    exact ofC_built fun a h => by rw [← hxl2]; exact A4 _ _ h
  refine BackP.intro (i + 1, q + 1, T' ++ [⟨vv, tk, ⟨xp, xr, nf, FL, nf, VL⟩⟩], U2) ⟨by simp only; omega, by simp only; rw [List.length_append, hq1]; rfl, by simp only; rw [hU2, List.length_append, hq2]; rfl, by simp only; omega, hbt, ?_⟩ (by show n - (i + 1) < n - i; omega) ⟨?_, ⟨row_app _ rfl ?_, .refl _, trivial⟩, rfl⟩
  · refine ⟨fun x h => ?_, fun x h => ?_⟩
    · rcases List.mem_append.1 h with h | h
      · exact hBV.fields x h
      · rw [List.mem_singleton.1 h]; exact hFl
    · rcases List.mem_append.1 h with h | h
      · exact hBV.vals x h
      · rw [List.mem_singleton.1 h]; exact hVl
  · refine ⟨.refl _, .refl _, .refl _, .refl _, .refl _, .eq (.osl rfl rfl (by show (q : Int) + 1 = ((q + 1 : Nat) : Int); omega)), .refl _, .inc (by omega), trivial⟩
  · repeat' (first | exact .nil | refine .cons (.refl _) ?_)
theorem own : ownKnob Tryd.prog.godebug = none := by kernel_rfl
theorem laidOut : laidOutB Tryd.prog = true := by kernel_rfl
set_option maxRecDepth 100000 in
theorem lifted (os : Os) (started : os.Started) (H : Type) (enc : TypeId × Value → H) :
    ReturnsInHanded {} Tryd.checked os 4 .any (fun w args => (Rows.accountTrueSpec.pre enc Tryd.prog Tryd.f4 [] false w args ∧ laidMetH Tryd.prog laidR w) ∧ sizedMet enc Tryd.prog Tryd.f4 (OpenSpec.ofChange Rows.accountTrueSpec) false w args) (Rows.accountTrueSpec.post enc Tryd.prog Tryd.f4 false true false false) := by
  refine returnsInHanded_of_change_and (C := Tryd.checked) (X := fun w _ => laidMetH Tryd.prog laidR w) (fun _ _ _ hh h => h.of_heap hh) own started (by kernel_rfl) Tryd.func4
    (ChangeSpec.witness_shaped (enc := enc) (C := Tryd.checked) (os := os) (X := fun w _ => laidMetH Tryd.prog laidR w) false (World.doorLaid Tryd.prog 400 os) #[.slice none 0 0, .slice none 0 0, .slice none 0 0, .slice none 0 0, .int .u8 0] 8 rfl (World.shaped_of_RefB (by kernel_rfl) (by kernel_rfl)) (by kernel_rfl) (by kernel_rfl) (by kernel_rfl) (door_met os _)) ?_
  intro W base args ds gs before hval0 hW _ hSz hL _
  have hval : ∀ (j : Nat) t v, Tryd.f4.params[j]? = some t → args[j]? = some v → Value.okWide Tryd.prog W .any base t v := hval0
  have hW' := hW
  obtain ⟨p, q, hA0, hV, rfl, hfz, hnd⟩ := hW
  have hA : DataW.TrodAll enc Tryd.prog W 0 (fun _ => true) true Tryd.f4.params.toList args.toList ds p := hA0
  rw [Tryd.params4] at hA hval
  obtain ⟨v0, vs0, d0, ds0, p0, q0, hargs, rfl, rfl, h0, r0⟩ := trodAll_cons hA
  obtain ⟨v1, vs1, d1, ds1, p1, q1, rfl, rfl, rfl, h1, r1⟩ := trodAll_cons r0
  obtain ⟨v2, vs2, d2, ds2, p2, q2, rfl, rfl, rfl, h2, r2⟩ := trodAll_cons r1
  obtain ⟨v3, vs3, d3, ds3, p3, q3, rfl, rfl, rfl, h3, r3⟩ := trodAll_cons r2
  obtain ⟨v4, vs4, d4, ds4, p4, q4, rfl, rfl, rfl, h4, r4⟩ := trodAll_cons r3
  obtain ⟨rfl, rfl, rfl⟩ := trodAll_nil r4
  obtain rfl : args = #[v0, v1, v2, v3, v4] := by cases args; simp_all
  obtain ⟨rfl, rfl⟩ := trodVars_none hV
  have k0 := h0
  have lt0 : ∀ x ∈ p0, x.block < W.heap.size := by obtain ⟨m, hm⟩ := k0; exact DataW.trod_lt m _ _ _ hm
  obtain ⟨⟨nb0, l0⟩, ⟨ln0, lk0, ll0⟩, rp0⟩ := open_sl (e := 47) (by kernel_rfl) opd_issueds (hval 0 22 v0 rfl rfl) h0
  have k1 := h1
  have lt1 : ∀ x ∈ p1, x.block < W.heap.size := by obtain ⟨m, hm⟩ := k1; exact DataW.trod_lt m _ _ _ hm
  obtain ⟨⟨nb1, l1⟩, ⟨ln1, lk1, ll1⟩, rp1⟩ := open_sl (e := 37) (by kernel_rfl) opd_coals (hval 1 23 v1 rfl rfl) h1
  have k2 := h2
  have lt2 : ∀ x ∈ p2, x.block < W.heap.size := by obtain ⟨m, hm⟩ := k2; exact DataW.trod_lt m _ _ _ hm
  obtain ⟨⟨nb2, l2⟩, ⟨ln2, lk2, ll2⟩, rp2⟩ := open_sl (e := 5) (by kernel_rfl) opd_u8s (hval 2 44 v2 rfl rfl) h2
  have k3 := h3
  have lt3 : ∀ x ∈ p3, x.block < W.heap.size := by obtain ⟨m, hm⟩ := k3; exact DataW.trod_lt m _ _ _ hm
  obtain ⟨⟨nb3, l3⟩, ⟨ln3, lk3, ll3⟩, rp3⟩ := open_sl (e := 5) (by kernel_rfl) opd_u8s (hval 3 44 v3 rfl rfl) h3
  have k4 := h4
  have lt4 : ∀ x ∈ p4, x.block < W.heap.size := by obtain ⟨m, hm⟩ := k4; exact DataW.trod_lt m _ _ _ hm
  obtain ⟨z4, rp4⟩ := open_u8 Tryd.underlying5 (hval 4 5 v4 rfl rfl) h4
  clear hA0 hval0
  refine (Pure.law (main_pure nb0 l0 ln0 lk0 ll0 nb1 l1 ln1 lk1 ll1 nb2 l2 ln2 lk2 ll2 nb3 l3 ln3 lk3 ll3 z4) (of_laid hL) (lrep_cons rp0 (lrep_cons rp1 (lrep_cons rp2 (lrep_cons rp3 (lrep_cons rp4 LRep.nil)))))).mono fun e W' ⟨he, bel⟩ => ?_
  subst he
  exact ⟨_, rfl, _, _, _, [], _, [], hW', trodAll_mk1 (shut_bool Tryd.underlying4 _), (trodAll_cons_mk (Below.trod laidOut (by kernel_rfl) (of_decide_eq_true (by kernel_rfl)) k0 bel lt0) (trodAll_cons_mk (Below.trod laidOut (by kernel_rfl) (of_decide_eq_true (by kernel_rfl)) k1 bel lt1) (trodAll_cons_mk (Below.trod laidOut (by kernel_rfl) (of_decide_eq_true (by kernel_rfl)) k2 bel lt2) (trodAll_cons_mk (Below.trod laidOut (by kernel_rfl) (of_decide_eq_true (by kernel_rfl)) k3 bel lt3) (trodAll_cons_mk (Below.trod laidOut (by kernel_rfl) (of_decide_eq_true (by kernel_rfl)) k4 bel lt4) trodAll_mk0))))), rfl, bel.frame _, fun h => by cases h⟩

theorem over : Rows.accountTrueRow.holds Tryd.pinned (OpenSpec.ofChange Rows.accountTrueSpec) :=
  OpenClaim.holds_of_wide 4 Tryd.f4 rfl rfl rfl rfl rfl rfl rfl ⟨rfl, rfl, rfl, rfl, rfl⟩ rfl rfl rfl rfl rfl (by kernel_rfl) Tryd.func4 (by kernel_rfl)
    (of_decide_eq_true (by kernel_rfl)) (by unfold Func.isWrapper; first | (rw [if_pos (by decide +kernel)]; kernel_rfl) | (rw [if_neg (by decide +kernel)]; exact ⟨rfl, rfl⟩))
    (fun os started H enc _ => lifted os started H enc)
theorem card : Rows.AccountTrueCardSaid :=
  Claim7.holds_tied_plain_at .later [] [.data] true (true, "b72b32de743d826df5b2873f23d602c53803940e87d116771b5e76fb27b1ffe5") false
    over (fun _ h => by cases h) (by kernel_rfl) (fun _ h => by cases h) accountTrue_row_tie rfl ⟨rfl, rfl⟩ (by kernel_rfl) rfl
    (fun f fn hf hfn => by
      obtain rfl : f = 4 := Option.some.inj ((show Tryd.prog.funcNamed "testamur/testamurlaw31.AccountTrue" = some 4 by kernel_rfl).symm.trans hf) |>.symm
      obtain rfl : fn = Tryd.f4 := (Option.some.inj (Tryd.func4.symm.trans hfn)).symm
      exact ⟨by kernel_rfl, fun j t ht => by
        rw [Tryd.params4] at ht
        have hm : t ∈ [22, 23, 44, 44, 5] := by simpa using Array.mem_of_getElem? ht
        have hall : ([22, 23, 44, 44, 5].all fun u => !Tryd.prog.wantsStandIn u) = true := by kernel_rfl
        exact (show Tryd.prog.wantsStandIn t = false by simpa using List.all_eq_true.1 hall t hm)⟩)
    (by kernel_rfl)
end accountTrue
theorem accountTrue_holds : Rows.AccountTrueCardSaid := accountTrue.card
#print axioms accountTrue_holds

end Go.Proofs.YtaopkjgldokahaaDoor
