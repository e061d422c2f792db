/- Part 6 of the walks and laws that these claims rest on. No condition. -/
import Derived.ProofKit
import Derived.OpenShut
import Derived.ShutString
import Derived.ChangeOld
import Derived.Test.YtaopkjgldokahaaDoorRows
import Derived.LaidMore
import Derived.Stop.Joined
import Derived.SizedLaws
import Derived.Test.YtaopkjgldokahaaDoorPart5
set_option linter.all false
set_option linter.unusedSimpArgs false
set_option linter.unusedVariables false
set_option linter.unnecessarySimpa false
namespace Go.Proofs.YtaopkjgldokahaaDoor
open Go.RowKit

/-! The program's Extend, Add, After. -/
def extE (a : AccountD) (s : SightD) : Int := if verB s then (if 16 ≤ a.sights.length then 2 else if checkB a.issued (viewsL (a.sights ++ [s])) then 0 else 300) else 310
def extA (a : AccountD) (s : SightD) : AccountD := if extE a s = 0 then ⟨a.ni, a.issued, a.nc, a.coal, false, a.sights ++ [s], a.coal.isEmpty, setsL a.issued (a.sights ++ [s]) a.coal⟩ else zeroA
theorem CloneS_new (l : List SightD) (hl : l.length ≤ 100000) : CallP Tryd.prog 73 [.slm 37 (some (.var false)) SightD.c l] [] fun d1 H1 => d1 = .osl 37 0 2 (.lit false) (.lit 0) (.len l) ∧ H1 = [.row 53 37 2 (.apps (.lits []) (.map SightD.c l))] := by
  generalize hP : Tryd.prog = P
  have hT : T.ok P := hP ▸ T_ok
  have hm : P.follows .mixedOrders = true := hP ▸ follows
  refine (CallP.inl hT hm (hP ▸ Tryd.func73) rfl (by kernel_rfl) (rs := [.tmp 2]) rfl (by kernel_rfl) ?_)
  unfold Tryd.f73
  dsimp only
  cbv
  refine SplitP.mk (fun hs => ?_) (fun hs => ?_) <;> simp only [BE.lss_t, BE.lss_f, BE.leq_t, BE.leq_f, BE.gtr_t, BE.gtr_f, BE.geq_t, BE.geq_f, BE.eql_t, BE.eql_f, BE.neq_t, BE.neq_f, BE.not_t, BE.not_f, BE.var_d, BE.lit_d, BE.seq_t, BE.seq_f, BE.beq_t, BE.beq_f, IE.var_d, IE.lit_d, IE.nat_d, IE.len_d, IE.sum_d, IE.u8_d, ncast, Int.ofNat_lt, Int.ofNat_le, Int.ofNat_inj] at hs
  · cases hs
  refine ReqP.mk ⟨by simp [IE.den, RE.den], rfl, map_cells (fun _ => rfl), (by intro e he; cases he), by show (0 : Int) + (l.length : Int) ≤ 9223372036854775807; omega, by show ((0 : Int) + (l.length : Int)) * ((104 : Nat) : Int) ≤ 140737488355328; omega⟩ (fun _ => ?_)
  cbv
theorem CloneS_nil (l : List SightD) (hl : l = []) : Pure Tryd.prog 73 [.slm 37 (some (.var true)) SightD.c l] .nils := by
  refine Pure.intro (want := [.nils]) T_ok follows Tryd.func73 rfl (by kernel_rfl) (rs := [.tmp 2]) rfl (by kernel_rfl) ?_
  generalize hP : Tryd.prog = P
  have hT : T.ok P := hP ▸ T_ok
  have hm : P.follows .mixedOrders = true := hP ▸ follows
  unfold Tryd.f73
  dsimp only
  cbv
  refine SplitP.mk (fun hs => ?_) (fun hs => ?_) <;> simp only [BE.lss_t, BE.lss_f, BE.leq_t, BE.leq_f, BE.gtr_t, BE.gtr_f, BE.geq_t, BE.geq_f, BE.eql_t, BE.eql_f, BE.neq_t, BE.neq_f, BE.not_t, BE.not_f, BE.var_d, BE.lit_d, BE.seq_t, BE.seq_f, BE.beq_t, BE.beq_f, IE.var_d, IE.lit_d, IE.nat_d, IE.len_d, IE.sum_d, IE.u8_d, ncast, Int.ofNat_lt, Int.ofNat_le, Int.ofNat_inj] at hs
  · exact .mk (SnDs.refl _) rfl
  · cases hs
set_option maxRecDepth 100000 in
set_option maxHeartbeats 4000000 in
theorem Extend_pure (a : AccountD) (s : SightD) (hb : a.big) (hl : a.sights.length ≤ 1000) (hC : a.coal.length ≤ 1000000) (hn : a.ns = true → a.sights = []) (hf : s.seen.fields.length < 9223372036854775807) (hv : s.seen.values.length < 9223372036854775807) :
    Pure Tryd.prog 48 [.agg a.c, .agg s.c] (.tup [.agg (extA a s).c, i64 (extE a s)]) := by
  have hbv : BigV (a.sights ++ [s]) := ⟨fun x hx => by
    rcases List.mem_append.1 hx with q | q
    · exact hb.sf x q
    · rw [List.mem_singleton.1 q]; exact hf, fun x hx => by
    rcases List.mem_append.1 hx with q | q
    · exact hb.sv x q
    · rw [List.mem_singleton.1 q]; exact hv⟩
  have hlx : (a.sights ++ [s]).length = a.sights.length + 1 := by simp
  have h1 := verOK_pure s
  have h2 := views_pure (a.sights ++ [s]) (some (.lit false)) (by omega)
  have h3 := Check_pure a.issued (viewsL (a.sights ++ [s])) (some (.var a.ni)) none hb.iss (views_big hbv (by omega))
  have h4 := fun h : a.sights.length < 16 => sets_pure ⟨a.ni, a.issued, a.nc, a.coal, false, a.sights ++ [s], true, []⟩ hb.iss hbv (by simp only; omega) hC hb.cl
  have hcn := CloneS_new a.sights (by omega)
  have hcz := fun h => CloneS_nil a.sights (hn h)
  obtain ⟨e, he⟩ : ∃ e, e = extE a s := ⟨_, rfl⟩
  obtain ⟨x, hx⟩ : ∃ e, e = extA a s := ⟨_, rfl⟩
  rw [← he, ← hx]
  unfold extA at hx
  rw [← he] at hx
  unfold extE at he
  obtain ⟨b1, e1⟩ : ∃ b, b = verB s := ⟨_, rfl⟩
  obtain ⟨b2, e2⟩ : ∃ b, b = checkB a.issued (viewsL (a.sights ++ [s])) := ⟨_, rfl⟩
  rw [← e1] at h1 he
  rw [← e2] at h3 he
  have hSXc : (a.sights ++ [s]).map SightD.c = a.sights.map SightD.c ++ [s.c] := by simp
  simp only at h4
  obtain ⟨SX, hSX⟩ : ∃ l, l = a.sights ++ [s] := ⟨_, rfl⟩
  rw [← hSX] at h2 h3 h4 hlx hSXc hx
  obtain ⟨W, eW⟩ : ∃ W, W = viewsL SX := ⟨_, rfl⟩
  rw [← eW] at h2 h3
  obtain ⟨Q, eQ⟩ : ∃ Q, Q = setsL a.issued SX a.coal := ⟨_, rfl⟩
  rw [← eQ] at h4 hx
  obtain ⟨qe, eqe⟩ : ∃ Q, Q = a.coal.isEmpty := ⟨_, rfl⟩
  rw [← eqe] at h4 hx
  have hSXl : (SX.length : Int) = (a.sights.length : Int) + 1 := by rw [hlx]; simp
  have r1 : b1 = false → x = zeroA ∧ e = 310 := fun h => by rw [h] at he; rw [hx, he]; exact ⟨rfl, rfl⟩
  have r2 : b1 = true → 16 ≤ a.sights.length → x = zeroA ∧ e = 2 := fun h h' => by rw [h, if_pos rfl, if_pos h'] at he; rw [hx, he]; exact ⟨rfl, rfl⟩
  have r3 : b1 = true → a.sights.length < 16 → b2 = false → x = zeroA ∧ e = 300 := fun h h' h2 => by rw [h, if_pos rfl, if_neg (by omega), h2] at he; rw [hx, he]; exact ⟨rfl, rfl⟩
  have r4 : b1 = true → a.sights.length < 16 → b2 = true → x = ⟨a.ni, a.issued, a.nc, a.coal, false, SX, qe, Q⟩ ∧ e = 0 := fun h h' h2 => by rw [h, if_pos rfl, if_neg (by omega), h2] at he; rw [hx, he]; exact ⟨rfl, rfl⟩
  obtain ⟨c2, ec2⟩ : ∃ c : Int, c = if b2 then 0 else 300 := ⟨_, rfl⟩
  rw [← ec2] at h3
  clear hbv e1 e2 he hx eQ eqe eW hSX hb hC hf hv
  obtain ⟨ai, aI, ac, C, as_, S, az, Z⟩ := a
  obtain ⟨v, tk, ⟨y1, y2, y3, y4, y5, y6⟩⟩ := s
  simp only at h2 h3 h4 hcn hcz hn hl hlx hSXc hSXl r2 r3 r4
  have e : (.tup [.agg x.c, i64 e] : D) = retD [.agg x.c, i64 e] := rfl
  rw [e]
  refine Pure.introC T_ok Tryd.func48 rfl (by kernel_rfl) (rs := [.cell 4 29, .tmp 5]) rfl (by kernel_rfl) ?_
  generalize hP : Tryd.prog = P at *
  have hT : T.ok P := hP ▸ T_ok
  have hm : P.follows .mixedOrders = true := hP ▸ follows
  unfold Tryd.f48
  dsimp only
  refine CodeP.seq (vc_sound hT hm _ ?_)
  cbv
  refine CodeP.seq (vc_sound hT hm _ ?_)
  cbv
  first
    | refine CallP.pure _ (h1) rfl ?_
    | refine PureP.mk _ (h1) rfl ?_
  cbv
  refine SplitP.mk (fun hs => ?_) (fun hs => ?_)
  · have q : b1 = false := by simpa using (show (!b1) = true from hs)
    exact zeroA_ret (r1 q)
  have q1 : b1 = true := by simpa using (show (!b1) = false from hs)
  replace r2 := r2 q1
  replace r3 := r3 q1
  replace r4 := r4 q1
  clear hs r1 q1
  refine CodeP.seq (vc_sound hT hm _ ?_)
  cbv
  refine SplitP.mk (fun hs => ?_) (fun hs => ?_)
  · have q : 16 ≤ S.length := by have := of_decide_eq_true (show decide ((S.length : Int) ≥ 16) = true from hs); omega
    exact zeroA_ret (r2 q)
  have q2 : S.length < 16 := by have := of_decide_eq_false (show decide ((S.length : Int) ≥ 16) = false from hs); omega
  replace r3 := r3 q2
  replace r4 := r4 q2
  replace h4 := h4 q2
  clear hs r2
  refine CodeP.seqTo [(2, .ptr 0 1 0), (3, .ptr 1 1 0), (4, .ptr 2 1 0), (6, .slm 37 (some (.lit false)) SightD.c SX)]
    [.cells [.slm 3 (some (.var ai)) IssuedD.c aI, .slm 1 (some (.var ac)) CoalD.c C, .slm 37 (some (.var as_)) SightD.c S, .slm 1 (some (.var az)) GrpsD.c Z], .cells (SightD.c ⟨v, tk, ⟨y1, y2, y3, y4, y5, y6⟩⟩), .cells [.nils, .nils, .nils, .nils]] (Nat.zero_le _) (vc_sound hT hm _ ?_) ?_
  · cases as_
    · cbv
      refine .newD hcn rfl (by decide) ?_
      cbv
      refine ReqP.mk ⟨rfl, by simp [IE.den, RE.den], (by intro e he; simp only [RE.den, List.mem_singleton] at he; subst he; rfl), (by intro e he; simp only [RE.den, List.nil_append, List.mem_map] at he; obtain ⟨x, _, rfl⟩ := he; rfl), by show (S.length : Int) + 1 ≤ _; omega, by show ((S.length : Int) + 1) * ((104 : Nat) : Int) ≤ _; omega⟩ (fun _ => ?_)
      refine ⟨⟨.refl _, .refl _, .refl _, .slm rfl (.inl ⟨_, _, rfl, by simp [RE.den]; simpa using hSXc.symm⟩) rfl (by simp only [IE.den]; exact hSXl.symm) (fun e h => by cases h; rfl), trivial⟩, ⟨.refl _, .refl _, .refl _, trivial⟩, rfl⟩
    · cbv
      refine .mk .nils (hcz rfl) rfl ?_
      cbv
      have hS0 := hn rfl
      subst hS0
      refine ⟨⟨.refl _, .refl _, .refl _, .slm rfl (.inl ⟨_, _, rfl, by simp [RE.den]; simpa using hSXc.symm⟩) rfl (by simp only [IE.den]; exact hSXl.symm) (fun e h => by cases h; rfl), trivial⟩, ⟨.refl _, .refl _, .refl _, trivial⟩, rfl⟩
  refine CodeP.seq (vc_sound hT hm _ ?_)
  cbv
  first
    | refine CallP.pure _ (h2) rfl ?_
    | refine PureP.mk _ (h2) rfl ?_
  cbv
  first
    | refine CallP.pure _ (h3) rfl ?_
    | refine PureP.mk _ (h3) rfl ?_
  cbv
  refine SplitP.mk (fun hs => ?_) (fun hs => ?_)
  · have h7 : (c2 != 0) = true := hs
    have q : b2 = false := by
      rw [ec2] at h7
      cases b2 with
      | false => rfl
      | true => cases h7
    refine zeroA_ret ⟨(r3 q).1, ?_⟩
    rw [(r3 q).2]
    show (300 : Int) = c2
    rw [ec2, q]; rfl
  have q2 : b2 = true := by
    have h7 : (c2 != 0) = false := hs
    rw [ec2] at h7
    cases b2 with
    | false => cases h7
    | true => rfl
  obtain ⟨rfl, rfl⟩ := r4 q2
  clear hs r3 r4
  refine vc_sound hT hm _ ?_
  cbv
  refine CallP.pure _ (Pure.args (.cons (acct_eq (.refl _) (.refl _) (.slmb (e' := .var false) rfl rfl) (.nilv (e := .var true) rfl rfl)) .nil) h4) rfl ?_
  cbv
  exact .mk (.cons (.eq (acct_eq (.refl _) (.refl _) (.slmb (e' := .var false) rfl rfl) (.refl _))) (.cons (.eq (.int rfl)) .nil)) rfl
def addE (a : AccountD) (s : SightD) : Int := if checkA a then extE a s else 310
def addA (a : AccountD) (s : SightD) : AccountD := if checkA a then extA a s else zeroA
set_option maxRecDepth 100000 in
set_option maxHeartbeats 4000000 in
theorem Add_pure (a : AccountD) (s : SightD) (hb : a.big) (hl : a.sights.length ≤ 1000) (hn : a.ns = true → a.sights = []) (hf : s.seen.fields.length < 9223372036854775807) (hv : s.seen.values.length < 9223372036854775807) :
    Pure Tryd.prog 19 [.agg a.c, .agg s.c] (.tup [.agg (addA a s).c, i64 (addE a s)]) := by
  have h1 := Check31_pure a hb hl
  have h2 := fun h : checkA a = true => Extend_pure a s hb hl (by simp only [checkA, coalsB, Bool.and_eq_true, decide_eq_true_eq] at h; omega) hn hf hv
  obtain ⟨e, he⟩ : ∃ e, e = addE a s := ⟨_, rfl⟩
  obtain ⟨x, hx⟩ : ∃ e, e = addA a s := ⟨_, rfl⟩
  rw [← he, ← hx]
  unfold addA at hx
  unfold addE at he
  obtain ⟨xe, hxe⟩ : ∃ e, e = extE a s := ⟨_, rfl⟩
  obtain ⟨xa, hxa⟩ : ∃ e, e = extA a s := ⟨_, rfl⟩
  rw [← hxe] at he h2
  rw [← hxa] at hx h2
  obtain ⟨b, hbb⟩ : ∃ b, b = checkA a := ⟨_, rfl⟩
  rw [← hbb] at h1 h2 hx he
  obtain ⟨c, hc⟩ : ∃ c : Int, c = if b then 0 else 310 := ⟨_, rfl⟩
  rw [← hc] at h1
  have r1 : b = false → x = zeroA ∧ e = c := fun h => by rw [h] at hx he hc; rw [hx, he, hc]; exact ⟨rfl, rfl⟩
  have r2 : b = true → x = xa ∧ e = xe := fun h => by rw [h] at hx he; rw [hx, he]; exact ⟨rfl, rfl⟩
  clear hx he hbb hxe hxa hb hl hn hf hv
  obtain ⟨ai, aI, ac, C, as_, S, az, Z⟩ := a
  obtain ⟨v, tk, ⟨y1, y2, y3, y4, y5, y6⟩⟩ := s
  obtain ⟨x1, x2, x3, x4, x5, x6, x7, x8⟩ := xa
  refine Pure.intro (want := [.agg x.c, i64 e]) T_ok follows Tryd.func19 rfl (by kernel_rfl) (rs := [.cell 4 29, .tmp 5]) rfl (by kernel_rfl) ?_
  generalize hP : Tryd.prog = P at *
  have hT : T.ok P := hP ▸ T_ok
  have hm : P.follows .mixedOrders = true := hP ▸ follows
  unfold Tryd.f19
  dsimp only
  cbv
  first
    | refine CallP.pure _ (h1) rfl ?_
    | refine PureP.mk _ (h1) rfl ?_
  cbv
  refine SplitP.mk (fun hs => ?_) (fun hs => ?_)
  · have h7 : (c != 0) = true := hs
    have q : b = false := by
      rw [hc] at h7
      cases b with
      | false => rfl
      | true => cases h7
    exact zeroA_ret (r1 q)
  have q : b = true := by
    have h7 : (c != 0) = false := hs
    rw [hc] at h7
    cases b with
    | false => cases h7
    | true => rfl
  obtain ⟨rfl, rfl⟩ := r2 q
  first
    | refine CallP.pure _ ((h2 q)) rfl ?_
    | refine PureP.mk _ ((h2 q)) rfl ?_
  cbv
  exact .mk (.cons (.refl _) (.cons (.eq (.int rfl)) .nil)) rfl
def afterE (a : AccountD) (s : SightD) : Int := addE a s
def afterN (a : AccountD) (s : SightD) : Int := if addE a s = 0 then leastL (addA a s).sets else 0
end Go.Proofs.YtaopkjgldokahaaDoor
namespace Go.Proofs.YtaopkjgldokahaaDoor
open Go.RowKit

/-! The program's After and Issue. -/
theorem sets_lens {I : List IssuedD} {L : List SightD} {C : List CoalD} (hl : L.length ≤ 1000) (hI : I.length ≤ 1000000) (hC : C.length < 9223372036854775807) : (setsL I L C).length < 9223372036854775807 ∧ ∀ x ∈ setsL I L C, x.l.length < 9223372036854775807 ∧ ∀ g ∈ x.l, g.persons.length < 9223372036854775807 := by
  unfold setsL
  refine ⟨by rw [List.length_map]; exact hC, fun x hx => ?_⟩
  obtain ⟨c, _, rfl⟩ := List.mem_map.1 hx
  unfold grpsOf groupsL
  simp only
  refine ⟨by rw [List.length_map, List.length_range]; have := many_le c.l L; omega, fun g hg => ?_⟩
  obtain ⟨n, _, rfl⟩ := List.mem_map.1 hg
  unfold groupOf ofA
  simp only
  split
  · unfold ofR
    have h1 := List.length_filter_le (fun p => !(firstR I (viewL c.l L) n p (viewL c.l L).length []).isNone) (peopleL I)
    have h2 := people_len I I.length
    rw [List.take_of_length_le (Nat.le_refl _)] at h2
    omega
  · simp
/-- an account that the program may go on with -/
structure AccountD.fit (a : AccountD) : Prop where
  big : a.big
  si : a.sights.length ≤ 1000
  nil : a.ns = true → a.sights = []
theorem zeroA_fit : zeroA.fit := ⟨⟨⟨by simp, by simp⟩, by simp, by simp, by simp, by simp, by simp, by simp, by simp⟩, by simp, fun _ => rfl⟩
theorem extA_fit {a : AccountD} {s : SightD} (h : a.fit) (hi : a.issued.length ≤ 1000000) (hf : s.seen.fields.length < 9223372036854775807) (hv : s.seen.values.length < 9223372036854775807) : (extA a s).fit := by
  unfold extA
  split
  · next he =>
    have hlt : a.sights.length < 16 := by
      unfold extE at he
      split at he
      · split at he
        · cases he
        · omega
      · cases he
    have hlx : (a.sights ++ [s]).length ≤ 1000 := by simp; omega
    obtain ⟨q1, q2⟩ := sets_lens (I := a.issued) (L := a.sights ++ [s]) hlx hi h.big.coal
    refine ⟨⟨h.big.iss, h.big.coal, h.big.cl, by simp only; omega, fun x hx => ?_, fun x hx => ?_, q1, q2⟩, hlx, fun e => by cases e⟩
    · rcases List.mem_append.1 hx with q | q
      · exact h.big.sf x q
      · rw [List.mem_singleton.1 q]; exact hf
    · rcases List.mem_append.1 hx with q | q
      · exact h.big.sv x q
      · rw [List.mem_singleton.1 q]; exact hv
  · exact zeroA_fit
theorem check_iss {a : AccountD} (h : checkA a = true) : a.issued.length ≤ 64 ∧ a.sights.length ≤ 16 ∧ a.coal.length ≤ 8 := by
  simp only [checkA, checkB, coalsB, viewsL, Bool.and_eq_true, decide_eq_true_eq, List.length_map] at h
  omega
theorem addA_fit {a : AccountD} {s : SightD} (h : a.fit) (hf : s.seen.fields.length < 9223372036854775807) (hv : s.seen.values.length < 9223372036854775807) : (addA a s).fit := by
  unfold addA
  split
  · next hc => exact extA_fit h (by have := check_iss hc; omega) hf hv
  · exact zeroA_fit
set_option maxRecDepth 100000 in
set_option maxHeartbeats 4000000 in
theorem After_pure (a : AccountD) (s : SightD) (h : a.fit) (hf : s.seen.fields.length < 9223372036854775807) (hv : s.seen.values.length < 9223372036854775807) :
    Pure Tryd.prog 21 [.agg a.c, .agg s.c] (.tup [i64 (afterN a s), i64 (afterE a s)]) := by
  have h1 := Add_pure a s h.big h.si h.nil hf hv
  have hx := addA_fit h hf hv
  have h2 := Least_pure (addA a s) hx.big.sets fun x hx' => (hx.big.gl x hx').1
  obtain ⟨e, he⟩ : ∃ e, e = afterE a s := ⟨_, rfl⟩
  obtain ⟨n, hn⟩ : ∃ n, n = afterN a s := ⟨_, rfl⟩
  rw [← he, ← hn]
  unfold afterE at he
  unfold afterN at hn
  rw [← he] at h1 hn
  obtain ⟨x, hxa⟩ : ∃ x, x = addA a s := ⟨_, rfl⟩
  rw [← hxa] at h1 h2 hn
  obtain ⟨ln, hln⟩ : ∃ l, l = leastL x.sets := ⟨_, rfl⟩
  rw [← hln] at h2 hn
  have r1 : e ≠ 0 → n = 0 := fun h => by rw [hn, if_neg h]
  have r2 : e = 0 → n = ln := fun h => by rw [hn, if_pos h]
  clear hxa hln he hn hx h hf hv
  obtain ⟨ai, aI, ac, C, as_, S, az, Z⟩ := a
  obtain ⟨v, tk, ⟨y1, y2, y3, y4, y5, y6⟩⟩ := s
  obtain ⟨x1, x2, x3, x4, x5, x6, x7, x8⟩ := x
  refine Pure.intro (want := [i64 n, i64 e]) T_ok follows Tryd.func21 rfl (by kernel_rfl) (rs := [.tmp 4, .tmp 5]) rfl (by kernel_rfl) ?_
  generalize hP : Tryd.prog = P at *
  have hT : T.ok P := hP ▸ T_ok
  have hm : P.follows .mixedOrders = true := hP ▸ follows
  unfold Tryd.f21
  dsimp only
  cbv
  first
    | refine CallP.pure _ (h1) rfl ?_
    | refine PureP.mk _ (h1) rfl ?_
  cbv
  refine SplitP.mk (fun hs => ?_) (fun hs => ?_) <;> simp only [BE.neq_t, BE.neq_f, IE.var_d, IE.lit_d] at hs
  · refine .mk (.cons (.eq (.int ?_)) (.cons (.refl _) .nil)) rfl
    exact (r1 hs).symm
  · first
      | refine CallP.pure _ (h2) rfl ?_
      | refine PureP.mk _ (h2) rfl ?_
    cbv
    refine .mk (.cons (.eq (.int ?_)) (.cons (.eq (.int ?_)) .nil)) rfl
    · exact (r2 hs).symm
    · exact hs.symm
def round0 : List IssuedD → Int
  | [] => 0
  | x :: _ => x.round
def oneRound (l : List IssuedD) : Bool := l.all fun i => decide (i.round = round0 l)
def freshR (I l : List IssuedD) : Bool := decide (l.length = 0) || !(I.any fun i => decide (i.round = round0 l))
def issueE (a : AccountD) (l : List IssuedD) : Int := if checkA a then (if oneRound l && freshR a.issued l then (if checkB (a.issued ++ l) (viewsL a.sights) then 0 else 300) else 310) else 310
def issueA (a : AccountD) (l : List IssuedD) : AccountD := if issueE a l = 0 then ⟨a.ni && decide (l.length = 0), a.issued ++ l, a.nc, a.coal, a.ns, a.sights, a.coal.isEmpty, setsL (a.issued ++ l) a.sights a.coal⟩ else zeroA
theorem round0_get {l : List IssuedD} {x : IssuedD} (h : l[0]? = some x) : round0 l = x.round := by
  cases l with
  | nil => cases h
  | cons a t => cases h; rfl
set_option maxRecDepth 100000 in
set_option maxHeartbeats 4000000 in
theorem roundIs_pure (x : IssuedD) (l : List IssuedD) (nb : Option BE) (hl : l.length ≠ 0) (hm' : l.length < 9223372036854775807) : Pure Tryd.prog 52 [.agg x.c, .dp [.slm 3 nb IssuedD.c l] 0] (boolD (decide (x.round = round0 l))) := by
  obtain ⟨r, hr⟩ : ∃ r, r = decide (x.round = round0 l) := ⟨_, rfl⟩
  rw [← hr]
  obtain ⟨x1, x2, x3, x4⟩ := x
  simp only at hr
  refine Pure.intro (want := [boolD r]) T_ok follows Tryd.func52 rfl (by kernel_rfl) (rs := [.tmp 3]) rfl (by kernel_rfl) ?_
  generalize hP : Tryd.prog = P
  have hT : T.ok P := hP ▸ T_ok
  have hm : P.follows .mixedOrders = true := hP ▸ follows
  unfold Tryd.f52
  dsimp only
  cbv
  refine ElemP.mk (by show (0 : Int) ≤ 0 ∧ (0 : Int) < (l.length : Int); omega) (fun y hy => ?_)
  replace hy : l[0]? = some y := hy
  rw [round0_get hy] at hr
  obtain ⟨y1, y2, y3, y4⟩ := y
  cbv
  refine .mk (.cons (.eq (.bool ?_)) .nil) rfl
  exact hr.symm
set_option maxRecDepth 100000 in
set_option maxHeartbeats 4000000 in
theorem IndexR_pure (I : List IssuedD) (l : List IssuedD) (nb nc : Option BE) (p : IssuedD → Bool) (hp : ∀ x, Pure Tryd.prog 52 [.agg x.c, .dp [.slm 3 nc IssuedD.c l] 0] (boolD (p x))) (hl : I.length < 9223372036854775807) :
    Pure Tryd.prog 74 [.slm 3 nb IssuedD.c I, .fn (.func 52) [] [.dp [.slm 3 nc IssuedD.c l] 0]] (i64 (ixP p I 0)) := by
  obtain ⟨r, hr⟩ : ∃ r, r = ixP p I 0 := ⟨_, rfl⟩
  rw [← hr]
  obtain ⟨n, hn⟩ : ∃ n : Nat, n = I.length := ⟨_, rfl⟩
  refine Pure.intro (want := [i64 r]) T_ok follows Tryd.func74 rfl (by kernel_rfl) (rs := [.tmp 4]) rfl (by kernel_rfl) ?_
  generalize hP : Tryd.prog = P at *
  have hT : T.ok P := hP ▸ T_ok
  have hm : P.follows .mixedOrders = true := hP ▸ follows
  unfold Tryd.f74
  dsimp only
  cbv
  refine CodeP.loopc hT hm (X := Nat) (fun k => [(8, .int .i64 (.nat k))]) (fun k => k ≤ I.length ∧ r = ixP p (I.drop k) k) (fun k => n - k) 0 ⟨by simp, hr⟩ (Nat.zero_le _) ?_ rfl ?_
  · (cbv; (repeat' (first | exact SnD.refl _ | exact trivial | exact SnD.nat0 | refine And.intro ?_ ?_)))
  intro k ⟨hk, hq⟩
  cbv
  refine SplitP.mk (fun hs => ?_) (fun hs => ?_)
  · have hkn : k < I.length := by
      have h5 : decide ((k : Int) < (I.length : Int)) = true := hs
      have := of_decide_eq_true h5
      omega
    clear hs
    refine ElemP.mk (by show (0 : Int) ≤ (k : Int) ∧ (k : Int) < (I.length : Int); omega) (fun s hx => ?_)
    replace hx : I[k]? = some s := hx
    rw [drop_cons hx] at hq
    simp only [ixP] at hq
    obtain ⟨b, hb⟩ : ∃ b, b = p s := ⟨_, rfl⟩
    have hps := hp s
    rw [← hb] at hq hps
    obtain ⟨y1, y2, y3, y4⟩ := s
    cbv
    refine CallP.pure _ hps rfl ?_
    cbv
    refine SplitP.mk (fun hs => ?_) (fun hs => ?_)
    · replace hs : b = true := hs
      refine .mk (.cons (.eq (.int ?_)) .nil) rfl
      rw [hq, if_pos hs]
      rfl
    · replace hs : b = false := hs
      rw [if_neg (by rw [hs]; exact Bool.false_ne_true)] at hq
      refine BackP.intro (k + 1) ⟨by omega, hq⟩ (by show n - (k + 1) < n - k; omega) ⟨?_, HEnt.refl _, rfl⟩
      (cbv; (repeat' (first | exact SnD.refl _ | exact trivial | exact SnD.nat0 | refine And.intro ?_ ?_)))
      exact .inc (by omega)
  · have hkn : I.length ≤ k := by
      have h5 : decide ((k : Int) < (I.length : Int)) = false := hs
      have := of_decide_eq_false h5
      omega
    clear hs
    refine .mk (.cons (.eq (.int ?_)) .nil) rfl
    rw [IE.lit_d, IE.var_d, hq, List.drop_of_length_le (by omega)]
    rfl
set_option maxRecDepth 100000 in
set_option maxHeartbeats 4000000 in
theorem HasR_pure (I : List IssuedD) (l : List IssuedD) (nb nc : Option BE) (hl : I.length < 9223372036854775807) (h0 : l.length ≠ 0) (hm' : l.length < 9223372036854775807) :
    Pure Tryd.prog 51 [.slm 3 nb IssuedD.c I, .fn (.func 52) [] [.dp [.slm 3 nc IssuedD.c l] 0]] (boolD (I.any fun i => decide (i.round = round0 l))) := by
  have hI := IndexR_pure I l nb nc (fun i => decide (i.round = round0 l)) (fun x => roundIs_pure x l nc h0 hm') hl
  have hge := ixP_ge (fun i : IssuedD => decide (i.round = round0 l)) I 0
  obtain ⟨x, hx⟩ : ∃ x, x = ixP (fun i : IssuedD => decide (i.round = round0 l)) I 0 := ⟨_, rfl⟩
  rw [← hx] at hI hge
  rw [← hge]
  obtain ⟨r, hr⟩ : ∃ r, r = decide (x ≥ 0) := ⟨_, rfl⟩
  rw [← hr]
  refine Pure.intro (want := [boolD r]) T_ok follows Tryd.func51 rfl (by kernel_rfl) (rs := [.tmp 4]) rfl (by kernel_rfl) ?_
  generalize hP : Tryd.prog = P at *
  have hT : T.ok P := hP ▸ T_ok
  have hm : P.follows .mixedOrders = true := hP ▸ follows
  unfold Tryd.f51
  dsimp only
  cbv
  refine CallP.pure _ hI rfl ?_
  cbv
  exact .mk (.cons (.eq (.bool hr.symm)) .nil) rfl
end Go.Proofs.YtaopkjgldokahaaDoor
namespace Go.Proofs.YtaopkjgldokahaaDoor
open Go.RowKit

/-! The program's Issue. -/
theorem CloneI_new (l : List IssuedD) (hl : l.length ≤ 100000) : CallP Tryd.prog 53 [.slm 3 (some (.var false)) IssuedD.c l] [] fun d1 H1 => d1 = .osl 3 0 2 (.lit false) (.lit 0) (.len l) ∧ H1 = [.row 47 3 2 (.apps (.lits []) (.map IssuedD.c l))] := by
  generalize hP : Tryd.prog = P
  have hT : T.ok P := hP ▸ T_ok
  have hm : P.follows .mixedOrders = true := hP ▸ follows
  refine (CallP.inl hT hm (hP ▸ Tryd.func53) rfl (by kernel_rfl) (rs := [.tmp 2]) rfl (by kernel_rfl) ?_)
  unfold Tryd.f53
  dsimp only
  cbv
  refine SplitP.mk (fun hs => ?_) (fun hs => ?_) <;> simp only [BE.lss_t, BE.lss_f, BE.leq_t, BE.leq_f, BE.gtr_t, BE.gtr_f, BE.geq_t, BE.geq_f, BE.eql_t, BE.eql_f, BE.neq_t, BE.neq_f, BE.not_t, BE.not_f, BE.var_d, BE.lit_d, BE.seq_t, BE.seq_f, BE.beq_t, BE.beq_f, IE.var_d, IE.lit_d, IE.nat_d, IE.len_d, IE.sum_d, IE.u8_d, ncast, Int.ofNat_lt, Int.ofNat_le, Int.ofNat_inj] at hs
  · cases hs
  refine ReqP.mk ⟨by simp [IE.den, RE.den], rfl, map_cells (fun _ => rfl), (by intro e he; cases he), by show (0 : Int) + (l.length : Int) ≤ 9223372036854775807; omega, by show ((0 : Int) + (l.length : Int)) * ((40 : Nat) : Int) ≤ 140737488355328; omega⟩ (fun _ => ?_)
  cbv
theorem CloneI_nil (l : List IssuedD) (hl : l = []) : Pure Tryd.prog 53 [.slm 3 (some (.var true)) IssuedD.c l] .nils := by
  refine Pure.intro (want := [.nils]) T_ok follows Tryd.func53 rfl (by kernel_rfl) (rs := [.tmp 2]) rfl (by kernel_rfl) ?_
  generalize hP : Tryd.prog = P
  have hT : T.ok P := hP ▸ T_ok
  have hm : P.follows .mixedOrders = true := hP ▸ follows
  unfold Tryd.f53
  dsimp only
  cbv
  refine SplitP.mk (fun hs => ?_) (fun hs => ?_) <;> simp only [BE.lss_t, BE.lss_f, BE.leq_t, BE.leq_f, BE.gtr_t, BE.gtr_f, BE.geq_t, BE.geq_f, BE.eql_t, BE.eql_f, BE.neq_t, BE.neq_f, BE.not_t, BE.not_f, BE.var_d, BE.lit_d, BE.seq_t, BE.seq_f, BE.beq_t, BE.beq_f, IE.var_d, IE.lit_d, IE.nat_d, IE.len_d, IE.sum_d, IE.u8_d, ncast, Int.ofNat_lt, Int.ofNat_le, Int.ofNat_inj] at hs
  · exact .mk (SnDs.refl _) rfl
  · cases hs
set_option maxRecDepth 100000 in
set_option maxHeartbeats 4000000 in
theorem Issue_pure (a : AccountD) (l : List IssuedD) (nl : Bool) (h : a.fit) (hn : a.ni = true → a.issued = []) (hL : ∀ x ∈ l, x.values.length < 9223372036854775807) (hl : l.length ≤ 100000) :
    Pure Tryd.prog 25 [.agg a.c, .slm 3 (some (.var nl)) IssuedD.c l] (.tup [.agg (issueA a l).c, i64 (issueE a l)]) := by
  have h1 := Check31_pure a h.big h.si
  have h2 := fun h0 : l.length ≠ 0 => HasR_pure a.issued l (some (.var a.ni)) (some (.var nl)) h.big.iss.len h0 (by omega)
  have h3 := views_pure a.sights (some (.var a.ns)) (by have := h.si; omega)
  have hix : checkA a = true → BigI (a.issued ++ l) := fun hc => ⟨by have := check_iss hc; simp; omega, fun x hx => by
    rcases List.mem_append.1 hx with q | q
    · exact h.big.iss.vals x q
    · exact hL x q⟩
  have hlx : (a.issued ++ l).length = a.issued.length + l.length := by simp
  have h4 := fun hc : checkA a = true => fun nb => Check_pure (a.issued ++ l) (viewsL a.sights) nb none (hix hc) (views_big h.big.bigV (by have := h.si; omega))
  have h5 := fun hc : checkA a = true => sets_pure ⟨a.ni && decide (l.length = 0), a.issued ++ l, a.nc, a.coal, a.ns, a.sights, true, []⟩ (hix hc) h.big.bigV h.si (by have := check_iss hc; simp only; omega) h.big.cl
  have hcn := fun hc : checkA a = true => CloneI_new a.issued (by have := check_iss hc; omega)
  have hcz := fun h => CloneI_nil a.issued (hn h)
  have hlen := fun hc : checkA a = true => (check_iss hc).1
  obtain ⟨e, he⟩ : ∃ e, e = issueE a l := ⟨_, rfl⟩
  obtain ⟨x, hx⟩ : ∃ e, e = issueA a l := ⟨_, rfl⟩
  rw [← he, ← hx]
  unfold issueA at hx
  rw [← he] at hx
  unfold issueE at he
  obtain ⟨b1, e1⟩ : ∃ b, b = checkA a := ⟨_, rfl⟩
  obtain ⟨b2, e2⟩ : ∃ b, b = oneRound l := ⟨_, rfl⟩
  obtain ⟨b3, e3⟩ : ∃ b, b = freshR a.issued l := ⟨_, rfl⟩
  obtain ⟨b4, e4⟩ : ∃ b, b = checkB (a.issued ++ l) (viewsL a.sights) := ⟨_, rfl⟩
  rw [← e1] at h1 h4 h5 hcn hlen he
  rw [← e4] at h4 he
  rw [← e2, ← e3] at he
  obtain ⟨r0, hr0⟩ : ∃ r, r = round0 l := ⟨_, rfl⟩
  have hr0x : ∀ x, l[0]? = some x → r0 = x.round := fun x hx => by rw [hr0]; exact round0_get hx
  obtain ⟨f1, hf1⟩ : ∃ f : IssuedD → Bool, f = fun i => decide (i.round = r0) := ⟨_, rfl⟩
  have hf1x : ∀ y1 y2 y3 y4, f1 ⟨y1, y2, y3, y4⟩ = decide (y1 = r0) := fun y1 y2 y3 y4 => by rw [hf1]
  have e2' : b2 = l.all f1 := by rw [e2, hf1, hr0]; rfl
  obtain ⟨an, han⟩ : ∃ b, b = a.issued.any fun i => decide (i.round = round0 l) := ⟨_, rfl⟩
  have e3' : b3 = (decide (l.length = 0) || !an) := by rw [e3, han]; rfl
  rw [← han] at h2
  have hIXc : (a.issued ++ l).map IssuedD.c = a.issued.map IssuedD.c ++ l.map IssuedD.c := by simp
  simp only at h5
  obtain ⟨IX, hIX⟩ : ∃ l', l' = a.issued ++ l := ⟨_, rfl⟩
  rw [← hIX] at h4 h5 hlx hIXc hx
  obtain ⟨W, eW⟩ : ∃ W, W = viewsL a.sights := ⟨_, rfl⟩
  rw [← eW] at h3 h4
  obtain ⟨Q, eQ⟩ : ∃ Q, Q = setsL IX a.sights a.coal := ⟨_, rfl⟩
  rw [← eQ] at h5 hx
  obtain ⟨qe, eqe⟩ : ∃ Q, Q = a.coal.isEmpty := ⟨_, rfl⟩
  rw [← eqe] at h5 hx
  obtain ⟨ne, hne⟩ : ∃ b, b = (a.ni && decide (l.length = 0)) := ⟨_, rfl⟩
  rw [← hne] at h5 hx
  have hIXl : (IX.length : Int) = (a.issued.length : Int) + (l.length : Int) := by rw [hlx]; simp
  have r1 : b1 = false → x = zeroA ∧ e = 310 := fun h => by rw [h] at he; rw [hx, he]; exact ⟨rfl, rfl⟩
  have r2 : b1 = true → b2 = false → x = zeroA ∧ e = 310 := fun h h' => by rw [h, h'] at he; rw [hx, he]; exact ⟨rfl, rfl⟩
  have r3 : b1 = true → b2 = true → b3 = false → x = zeroA ∧ e = 310 := fun h h' h2 => by rw [h, h', h2] at he; rw [hx, he]; exact ⟨rfl, rfl⟩
  have r4 : b1 = true → b2 = true → b3 = true → b4 = false → x = zeroA ∧ e = 300 := fun h h' h2 h3 => by rw [h, h', h2, h3] at he; rw [hx, he]; exact ⟨rfl, rfl⟩
  have r5 : b1 = true → b2 = true → b3 = true → b4 = true → x = ⟨ne, IX, a.nc, a.coal, a.ns, a.sights, qe, Q⟩ ∧ e = 0 := fun h h' h2 h3 => by rw [h, h', h2, h3] at he; rw [hx, he]; exact ⟨rfl, rfl⟩
  obtain ⟨c1, ec1⟩ : ∃ c : Int, c = if b1 then 0 else 310 := ⟨_, rfl⟩
  rw [← ec1] at h1
  obtain ⟨c4, ec4⟩ : ∃ c : Int, c = if b4 then 0 else 300 := ⟨_, rfl⟩
  rw [← ec4] at h4
  clear e1 e2 e3 e4 hr0 hf1 han he hx eQ eqe eW hIX hix hL h
  obtain ⟨ai, aI, ac, C, as_, S, az, Z⟩ := a
  simp only at h2 h3 h4 h5 hcn hcz hn hlx hIXc hIXl r5 hne hlen
  obtain ⟨n, hnl⟩ : ∃ n : Nat, n = l.length := ⟨_, rfl⟩
  have e : (.tup [.agg x.c, i64 e] : D) = retD [.agg x.c, i64 e] := rfl
  rw [e]
  refine Pure.introC T_ok Tryd.func25 rfl (by kernel_rfl) (rs := [.cell 4 29, .tmp 5]) rfl (by kernel_rfl) ?_
  generalize hP : Tryd.prog = P at *
  have hT : T.ok P := hP ▸ T_ok
  have hm : P.follows .mixedOrders = true := hP ▸ follows
  unfold Tryd.f25
  dsimp only
  refine CodeP.seq (vc_sound hT hm _ ?_)
  cbv
  refine CodeP.seq (vc_sound hT hm _ ?_)
  cbv
  first
    | refine CallP.pure _ (h1) rfl ?_
    | refine PureP.mk _ (h1) rfl ?_
  cbv
  refine SplitP.mk (fun hs => ?_) (fun hs => ?_)
  · have h7 : (c1 != 0) = true := hs
    have q : b1 = false := by
      rw [ec1] at h7
      cases b1 with
      | false => rfl
      | true => cases h7
    refine zeroA_ret ⟨(r1 q).1, ?_⟩
    rw [(r1 q).2]
    show (310 : Int) = c1
    rw [ec1, q]; rfl
  have q1 : b1 = true := by
    have h7 : (c1 != 0) = false := hs
    rw [ec1] at h7
    cases b1 with
    | false => cases h7
    | true => rfl
  replace r2 := r2 q1
  replace r3 := r3 q1
  replace r4 := r4 q1
  replace r5 := r5 q1
  replace h4 := h4 q1
  replace h5 := h5 q1
  replace hcn := hcn q1
  replace hlen := hlen q1
  clear hs r1 q1 h1 ec1
  refine CodeP.seq (vc_sound hT hm _ ?_)
  cbv
  refine CodeP.loopc hT hm (X := Nat) (fun k => [(19, .int .i64 (.nat k))]) (fun k => k ≤ n ∧ b2 = (l.drop k).all f1) (fun k => n - k) 0 ⟨Nat.zero_le _, e2'⟩ (Nat.zero_le _) ?_ rfl ?_
  · (cbv; (repeat' (first | exact SnD.refl _ | exact trivial | exact SnD.nat0 | refine And.intro ?_ ?_)))
  intro k ⟨hk, hq⟩
  replace hk : k ≤ n := hk
  cbv
  refine SplitP.mk (fun hs => ?_) (fun hs => ?_)
  · have hkn : k < l.length := by
      have h5 : decide ((k : Int) < (l.length : Int)) = true := hs
      have := of_decide_eq_true h5
      omega
    clear hs
    refine ElemP.mk (by show (0 : Int) ≤ (k : Int) ∧ (k : Int) < (l.length : Int); omega) (fun y hy => ?_)
    replace hy : l[k]? = some y := hy
    rw [drop_cons hy, List.all_cons] at hq
    obtain ⟨y1, y2, y3, y4⟩ := y
    rw [hf1x] at hq
    cbv
    refine ElemP.mk (by show (0 : Int) ≤ 0 ∧ (0 : Int) < (l.length : Int); omega) (fun z hz => ?_)
    replace hz : l[0]? = some z := hz
    have hrz := hr0x z hz
    obtain ⟨z1, z2, z3, z4⟩ := z
    simp only at hrz
    cbv
    refine SplitP.mk (fun hs => ?_) (fun hs => ?_) <;> simp only [BE.neq_t, BE.neq_f, IE.var_d, IE.lit_d] at hs
    · refine zeroA_ret (r2 ?_)
      rw [hq, decide_eq_false (by rw [hrz]; exact hs)]
      rfl
    · refine BackP.intro (k + 1) ⟨by show k + 1 ≤ n; omega, by rw [hq, decide_eq_true (by rw [hrz]; exact hs), Bool.true_and]⟩ (by show n - (k + 1) < n - k; omega) ⟨?_, ?_, rfl⟩
      · (cbv; (repeat' (first | exact SnD.refl _ | exact trivial | exact SnD.nat0 | refine And.intro ?_ ?_)))
        exact .inc (by omega)
      · exact ⟨.refl _, .refl _, .refl _, trivial⟩
  have hkn : l.length ≤ k := by
    have h5 : decide ((k : Int) < (l.length : Int)) = false := hs
    have := of_decide_eq_false h5
    omega
  clear hs
  have q2 : b2 = true := by rw [hq, List.drop_of_length_le (by omega)]; rfl
  replace r3 := r3 q2
  replace r4 := r4 q2
  replace r5 := r5 q2
  clear r2 q2 hq e2'
  refine CodeP.seqW (fun _ => b3 = true) [(2, .ptr 0 1 0), (3, .ptr 1 1 0), (4, .ptr 2 1 0)] [.cells [.slm 3 (some (.var ai)) IssuedD.c aI, .slm 1 (some (.var ac)) CoalD.c C, .slm 37 (some (.var as_)) SightD.c S, .slm 1 (some (.var az)) GrpsD.c Z], .cells [.slm 3 (some (.var nl)) IssuedD.c l], .cells [.nils, .nils, .nils, .nils]] (Nat.zero_le _) (vc_sound hT hm _ ?_) ?_
  · cbv
    refine SplitP.mk (fun hs => ?_) (fun hs => ?_)
    · have h0 : 0 < l.length := by have := of_decide_eq_true (show decide ((l.length : Int) > 0) = true from hs); omega
      rw [decide_eq_false (by omega), Bool.false_or] at e3'
      refine CallP.lend _ _ (h2 (by omega)) (.cons (.eq (.refl _)) (.cons (.fns .nil (.cons (.dp rfl rfl rfl) .nil)) .nil)) rfl rfl ?_
      cbv
      refine SplitP.mk (fun hs => ?_) (fun hs => ?_)
      · have q : an = true := hs
        exact zeroA_ret (r3 (by rw [e3', q]; rfl))
      · have q : an = false := hs
        exact ⟨by rw [e3', q]; rfl, ⟨⟨.refl _, .refl _, .refl _, trivial⟩, ⟨.refl _, .refl _, .refl _, trivial⟩, rfl⟩⟩
    · have h0 : l.length = 0 := by have := of_decide_eq_false (show decide ((l.length : Int) > 0) = false from hs); omega
      exact ⟨by rw [e3', decide_eq_true h0]; rfl, ⟨⟨.refl _, .refl _, .refl _, trivial⟩, ⟨.refl _, .refl _, .refl _, trivial⟩, rfl⟩⟩
  intro q3
  replace r4 := r4 q3
  replace r5 := r5 q3
  clear r3 q3 e3' h2
  have hai : ai = true → aI = [] := hn
  refine CodeP.seqTo [(2, .ptr 0 1 0), (3, .ptr 1 1 0), (4, .ptr 2 1 0), (9, .slm 3 (some (.var ne)) IssuedD.c IX)] [.cells [.slm 3 (some (.var ai)) IssuedD.c aI, .slm 1 (some (.var ac)) CoalD.c C, .slm 37 (some (.var as_)) SightD.c S, .slm 1 (some (.var az)) GrpsD.c Z], .cells [.slm 3 (some (.var nl)) IssuedD.c l], .cells [.nils, .nils, .nils, .nils]] (Nat.zero_le _) (vc_sound hT hm _ ?_) ?_
  · cases ai
    · cbv
      refine .newD hcn rfl (by decide) ?_
      cbv
      refine ReqP.mk ⟨by simp [IE.den, RE.den], by simp [IE.den, RE.den], map_cells (fun _ => rfl), (by intro e he; simp only [RE.den, List.nil_append, List.mem_map] at he; obtain ⟨x, _, rfl⟩ := he; rfl), by show (aI.length : Int) + (l.length : Int) ≤ _; omega, by show ((aI.length : Int) + (l.length : Int)) * ((40 : Nat) : Int) ≤ _; omega⟩ (fun _ => ?_)
      refine ⟨⟨.refl _, .refl _, .refl _, .slm rfl (.inl ⟨_, _, rfl, by simp [RE.den]; simpa using hIXc.symm⟩) rfl (by simp only [IE.den]; exact hIXl.symm) (fun e h => by cases h; exact hne), trivial⟩, ⟨.refl _, .refl _, .refl _, trivial⟩, rfl⟩
    · cbv
      refine .mk .nils (hcz rfl) rfl ?_
      cbv
      have hS0 := hn rfl
      subst hS0
      refine ReqP.mk ⟨by simp [IE.den, RE.den], map_cells (fun _ => rfl), by show (l.length : Int) ≤ _; omega, by show (l.length : Int) * ((40 : Nat) : Int) ≤ _; omega⟩ (fun _ => ?_)
      refine ⟨⟨.refl _, .refl _, .refl _, .slm rfl (.inl ⟨_, _, rfl, by simp [RE.den]; simpa using hIXc.symm⟩) rfl (by simp only [IE.den]; have h9 : (IX.length : Int) = ((([] : List IssuedD).length : Nat) : Int) + (l.length : Int) := hIXl; simp at h9; show (l.length : Int) = (IX.length : Int); omega) (fun e h => by cases h; rw [BE.var_d, hne]; show decide (l.length = 0) = ((l.length : Int) == 0); rw [Bool.eq_iff_iff]; simp), trivial⟩, ⟨.refl _, .refl _, .refl _, trivial⟩, rfl⟩
  refine CodeP.seq (vc_sound hT hm _ ?_)
  cbv
  first
    | refine CallP.pure _ (h3) rfl ?_
    | refine PureP.mk _ (h3) rfl ?_
  cbv
  first
    | refine CallP.pure _ ((h4 _)) rfl ?_
    | refine PureP.mk _ ((h4 _)) rfl ?_
  cbv
  refine SplitP.mk (fun hs => ?_) (fun hs => ?_)
  · have h7 : (c4 != 0) = true := hs
    have q : b4 = false := by
      rw [ec4] at h7
      cases b4 with
      | false => rfl
      | true => cases h7
    refine zeroA_ret ⟨(r4 q).1, ?_⟩
    rw [(r4 q).2]
    show (300 : Int) = c4
    rw [ec4, q]; rfl
  have q4 : b4 = true := by
    have h7 : (c4 != 0) = false := hs
    rw [ec4] at h7
    cases b4 with
    | false => cases h7
    | true => rfl
  obtain ⟨rfl, rfl⟩ := r5 q4
  clear hs r4 r5
  refine vc_sound hT hm _ ?_
  cbv
  refine CallP.pure _ (Pure.args (.cons (acct_eq (.refl _) (.refl _) (.refl _) (.nilv (e := .var true) rfl rfl)) .nil) h5) rfl ?_
  cbv
  exact .mk (.cons (.refl _) (.cons (.eq (.int rfl)) .nil)) rfl
end Go.Proofs.YtaopkjgldokahaaDoor
namespace Go.Proofs.YtaopkjgldokahaaDoor
open Go.RowKit

/-! The statements' own functions: few, kept, copyOf, sight. -/
abbrev acct0 (ni : Bool) (I : List IssuedD) (nc : Bool) (C : List CoalD) : AccountD := ⟨ni, I, nc, C, true, [], true, []⟩
def fewL (I : List IssuedD) (C : List CoalD) (S : List SightD) : Bool := S.all fewS && (decide (S.length ≤ 4 ∧ I.length ≤ 8) && fewA (acct0 true I true C))
set_option maxRecDepth 100000 in
set_option maxHeartbeats 4000000 in
theorem few_pure (ni nc : Bool) (nb : Option BE) (I : List IssuedD) (C : List CoalD) (S : List SightD) (hi : I.length ≤ 9223372036854775807) (hs' : S.length ≤ 9223372036854775807) :
    Pure Tryd.prog 9 [.slm 3 (some (.var ni)) IssuedD.c I, .slm 1 (some (.var nc)) CoalD.c C, .slm 37 nb SightD.c S] (boolD (fewL I C S)) := by
  have h1 := fun s => FewSight_pure s
  have h2 := Few31_pure (acct0 ni I nc C) hi
  obtain ⟨r, hr⟩ : ∃ r, r = fewL I C S := ⟨_, rfl⟩
  rw [← hr]
  unfold fewL at hr
  rw [show fewA (acct0 true I true C) = fewA (acct0 ni I nc C) from rfl] at hr
  obtain ⟨f, hf⟩ : ∃ f, f = fewS := ⟨_, rfl⟩
  rw [← hf] at h1 hr
  obtain ⟨b, hb⟩ : ∃ b, b = fewA (acct0 ni I nc C) := ⟨_, rfl⟩
  rw [← hb] at h2 hr
  clear hf hb
  obtain ⟨n, hn⟩ : ∃ n : Nat, n = S.length := ⟨_, rfl⟩
  refine Pure.intro (want := [boolD r]) T_ok follows Tryd.func9 rfl (by kernel_rfl) (rs := [.tmp 6]) rfl (by kernel_rfl) ?_
  generalize hP : Tryd.prog = P at *
  have hT : T.ok P := hP ▸ T_ok
  have hm : P.follows .mixedOrders = true := hP ▸ follows
  unfold Tryd.f9
  dsimp only
  cbv
  refine CodeP.loopc hT hm (X := Nat) (fun k => [(7, .int .i64 (.nat k))]) (fun k => k ≤ S.length ∧ r = ((S.drop k).all f && (decide (S.length ≤ 4 ∧ I.length ≤ 8) && b))) (fun k => n - k) 0 ⟨by simp, hr⟩ (Nat.zero_le _) ?_ rfl ?_
  · (cbv; (repeat' (first | exact SnD.refl _ | exact trivial | exact SnD.nat0 | refine And.intro ?_ ?_)))
  intro k ⟨hk, hq⟩
  cbv
  refine SplitP.mk (fun hs => ?_) (fun hs => ?_)
  · have hkn : k < S.length := by
      have h5 : decide ((k : Int) < (S.length : Int)) = true := hs
      have := of_decide_eq_true h5
      omega
    clear hs
    refine ElemP.mk (by show (0 : Int) ≤ (k : Int) ∧ (k : Int) < (S.length : Int); omega) (fun s hx => ?_)
    replace hx : S[k]? = some s := hx
    have h1s := h1 s
    rw [drop_cons hx, List.all_cons] at hq
    obtain ⟨c, hc⟩ : ∃ c, c = f s := ⟨_, rfl⟩
    rw [← hc] at h1s hq
    obtain ⟨v, tk, ⟨y1, y2, y3, y4, y5, y6⟩⟩ := s
    cbv
    refine CallP.pure _ h1s rfl ?_
    cbv
    refine SplitP.mk (fun hs => ?_) (fun hs => ?_)
    · have h4 : c = false := by simpa using (show (!c) = true from hs)
      refine .mk (.cons (.eq (.bool ?_)) .nil) rfl
      rw [BE.lit_d, BE.var_d]
      rw [hq, h4]; rfl
    · have h4 : c = true := by simpa using (show (!c) = false from hs)
      refine BackP.intro (k + 1) ⟨by omega, by rw [hq, h4, Bool.true_and]⟩ (by show n - (k + 1) < n - k; omega) ⟨?_, trivial, rfl⟩
      (cbv; (repeat' (first | exact SnD.refl _ | exact trivial | exact SnD.nat0 | refine And.intro ?_ ?_)))
      exact .inc (by omega)
  · have hkn : S.length ≤ k := by
      have h5 : decide ((k : Int) < (S.length : Int)) = false := hs
      have := of_decide_eq_false h5
      omega
    clear hs
    rw [List.drop_of_length_le (by omega), List.all_nil, Bool.true_and] at hq
    refine SplitP.mk (fun hs => ?_) (fun hs => ?_)
    · have c1 : S.length ≤ 4 := by have := of_decide_eq_true (show decide ((S.length : Int) ≤ 4) = true from hs); omega
      refine SplitP.mk (fun hs => ?_) (fun hs => ?_)
      · have c2 : I.length ≤ 8 := by have := of_decide_eq_true (show decide ((I.length : Int) ≤ 8) = true from hs); omega
        rw [decide_eq_true ⟨c1, c2⟩, Bool.true_and] at hq
        refine CallP.pure _ (Pure.args (.cons (acct_eq (.refl _) (.refl _) (.nilv (e := .var true) rfl rfl) (.nilv (e := .var true) rfl rfl)) .nil) h2) rfl ?_
        cbv
        exact .mk (.cons (.eq (.bool hq.symm)) .nil) rfl
      · have c2 : ¬ I.length ≤ 8 := by have := of_decide_eq_false (show decide ((I.length : Int) ≤ 8) = false from hs); omega
        rw [decide_eq_false (fun h => c2 h.2), Bool.false_and] at hq
        exact .mk (.cons (.eq (.bool hq.symm)) .nil) rfl
    · have c1 : ¬ S.length ≤ 4 := by have := of_decide_eq_false (show decide ((S.length : Int) ≤ 4) = false from hs); omega
      rw [decide_eq_false (fun h => c1 h.1), Bool.false_and] at hq
      exact .mk (.cons (.eq (.bool hq.symm)) .nil) rfl
set_option maxRecDepth 100000 in
set_option maxHeartbeats 4000000 in
theorem copyOf_pure (p v : Int) : Pure Tryd.prog 27 [i64 p, i64 v] (.agg (IssuedD.c ⟨0, p, false, [v]⟩)) := by
  refine Pure.intro (want := [.agg (IssuedD.c ⟨0, p, false, [v]⟩)]) T_ok follows Tryd.func27 rfl (by kernel_rfl) (rs := [.cell 4 47]) rfl (by kernel_rfl) ?_
  generalize hP : Tryd.prog = P
  have hT : T.ok P := hP ▸ T_ok
  have hm : P.follows .mixedOrders = true := hP ▸ follows
  unfold Tryd.f27
  dsimp only
  cbv
  refine .mk (.cons (.eq (.aggs rfl fun i d d' h1 h2 => ?_)) .nil) rfl
  match i with
  | 0 => cases h1; cases h2; exact .int rfl
  | 1 => cases h1; cases h2; exact .refl _
  | 2 => cases h1; cases h2; exact .sll rfl (fun e h => by cases h; rfl)
  | i + 3 => simp at h1
abbrev sightOf (v g x : Int) : SightD := ⟨v, fun _ => 0, ⟨g, 0, false, [0], false, [x]⟩⟩
def keepStep (a : AccountD) (s : SightD) : AccountD := if addE a s = 0 then addA a s else a
def keptA (ni : Bool) (I : List IssuedD) (nc : Bool) (C : List CoalD) (S : List SightD) : AccountD := if newE I C = 0 then S.foldl keepStep (newA ni I nc C) else newA ni I nc C
theorem newA_fit {ni : Bool} {I : List IssuedD} {nc : Bool} {C : List CoalD} (hI : BigI I) (hC : C.length < 9223372036854775807) (hcl : ∀ x ∈ C, x.l.length < 9223372036854775807) : (newA ni I nc C).fit := by
  unfold newA
  split
  · next he =>
    have hi : I.length ≤ 64 := by
      unfold newE at he
      split at he
      · split at he
        · next h => simp only [checkB, Bool.and_eq_true, decide_eq_true_eq] at h; omega
        · cases he
      · cases he
    obtain ⟨q1, q2⟩ := sets_lens (I := I) (L := []) (C := C) (by simp) (by omega) hC
    exact ⟨⟨hI, hC, hcl, by simp, by simp, by simp, q1, q2⟩, by simp, fun _ => rfl⟩
  · exact zeroA_fit
theorem keep_fit {a : AccountD} {s : SightD} (h : a.fit) (hf : s.seen.fields.length < 9223372036854775807) (hv : s.seen.values.length < 9223372036854775807) : (keepStep a s).fit := by
  unfold keepStep
  split
  · exact addA_fit h hf hv
  · exact h
theorem kept_fit {ni : Bool} {I : List IssuedD} {nc : Bool} {C : List CoalD} (hI : BigI I) (hC : C.length < 9223372036854775807) (hcl : ∀ x ∈ C, x.l.length < 9223372036854775807) : ∀ (S : List SightD), BigV S → (S.foldl keepStep (newA ni I nc C)).fit := by
  intro S hS
  have key : ∀ (S : List SightD) (a : AccountD), BigV S → a.fit → (S.foldl keepStep a).fit := by
    intro S
    induction S with
    | nil => exact fun a _ h => h
    | cons s S ih => exact fun a hS h => ih _ ⟨fun x hx => hS.fields x (by simp [hx]), fun x hx => hS.vals x (by simp [hx])⟩ (keep_fit h (hS.fields s (by simp)) (hS.vals s (by simp)))
  exact key S _ hS (newA_fit hI hC hcl)
set_option maxRecDepth 100000 in
set_option maxHeartbeats 4000000 in
theorem kept_pure (ni : Bool) (I : List IssuedD) (nc : Bool) (C : List CoalD) (nb : Option BE) (S : List SightD) (hi : ni = true → I = []) (hc : nc = true → C = []) (hI : BigI I) (hC : C.length < 9223372036854775807) (hcl : ∀ x ∈ C, x.l.length < 9223372036854775807) (hS : BigV S) (hs' : S.length < 9223372036854775807) :
    Pure Tryd.prog 10 [.slm 3 (some (.var ni)) IssuedD.c I, .slm 1 (some (.var nc)) CoalD.c C, .slm 37 nb SightD.c S] (.tup [.agg (keptA ni I nc C S).c, boolD (decide (newE I C = 0))]) := by
  have h1 := New_pure ni I nc C hi hc hI hC hcl
  obtain ⟨A, hA⟩ : ∃ A : Nat → AccountD, A = fun k => (S.take k).foldl keepStep (newA ni I nc C) := ⟨_, rfl⟩
  have hAf : ∀ k, (A k).fit := fun k => by rw [hA]; exact kept_fit hI hC hcl _ ⟨fun x hx => hS.fields x (List.mem_of_mem_take hx), fun x hx => hS.vals x (List.mem_of_mem_take hx)⟩
  have h2 := fun k (s : SightD) (hs : s ∈ S) => Add_pure (A k) s (hAf k).big (hAf k).si (hAf k).nil (hS.fields s hs) (hS.vals s hs)
  have A0 : A 0 = newA ni I nc C := by rw [hA]; rfl
  have As : ∀ k s, S[k]? = some s → A (k + 1) = if addE (A k) s = 0 then addA (A k) s else A k := fun k s hs => by
    rw [hA]
    simp only
    rw [List.take_add_one, hs, List.foldl_append]
    rfl
  obtain ⟨n, hn⟩ : ∃ n : Nat, n = S.length := ⟨_, rfl⟩
  have An : A n = S.foldl keepStep (newA ni I nc C) := by rw [hA, hn]; simp
  obtain ⟨x, hx⟩ : ∃ x, x = keptA ni I nc C S := ⟨_, rfl⟩
  rw [← hx]
  unfold keptA at hx
  rw [← An, ← A0] at hx
  rw [← A0] at h1
  obtain ⟨e, he⟩ : ∃ e, e = newE I C := ⟨_, rfl⟩
  rw [← he] at h1 hx ⊢
  clear he An A0 hA hAf hI hC hcl hS hi hc
  refine Pure.intro (want := [.agg x.c, boolD (decide (e = 0))]) T_ok follows Tryd.func10 rfl (by kernel_rfl) (rs := [.cell 6 29, .tmp 7]) rfl (by kernel_rfl) ?_
  generalize hP : Tryd.prog = P at *
  have hT : T.ok P := hP ▸ T_ok
  have hm : P.follows .mixedOrders = true := hP ▸ follows
  unfold Tryd.f10
  dsimp only
  cbv
  first
    | refine CallP.pure _ (h1) rfl ?_
    | refine PureP.mk _ (h1) rfl ?_
  cbv
  refine CodeP.loopm hT hm (X := Nat) (fun k => [(10, .int .i64 (.nat k))]) (fun k => [.cells [.nils, .nils, .nils, .nils], .cells (AccountD.c (A k))]) (fun k => k ≤ n ∧ (0 < k → e = 0)) (fun k => n - k) 0 ⟨Nat.zero_le _, fun h => by omega⟩ (fun _ => Nat.zero_le _) ⟨?_, ⟨.refl _, .refl _, trivial⟩, rfl⟩ ?_
  · (cbv; (repeat' (first | exact SnD.refl _ | exact trivial | exact SnD.nat0 | refine And.intro ?_ ?_)))
  intro k ⟨hk, hke⟩
  replace hk : k ≤ n := hk
  replace hke : 0 < k → e = 0 := hke
  have fin : (e = 0 → k = n) → x = A k := fun h => by
    rw [hx]
    split
    · next q => rw [h q]
    · next q =>
      have : k = 0 := by
        rcases Nat.eq_zero_or_pos k with q2 | q2
        · exact q2
        · exact absurd (hke q2) q
      rw [this]
  cbv
  refine SplitP.mk (fun hs => ?_) (fun hs => ?_)
  · have hkn : k < S.length := by
      have h5 : decide ((k : Int) < (S.length : Int)) = true := hs
      have := of_decide_eq_true h5
      omega
    clear hs
    refine SplitP.mk (fun h0 => ?_) (fun h0 => ?_) <;> simp only [BE.eql_t, BE.eql_f, IE.var_d, IE.lit_d] at h0
    · refine FootP.intro hT hm [(10, [2])] (by kernel_rfl) ?_
      cbv
      refine ElemP.mk (by show (0 : Int) ≤ (k : Int) ∧ (k : Int) < (S.length : Int); omega) (fun s hx2 => ?_)
      replace hx2 : S[k]? = some s := hx2
      have h2s := h2 k s (List.mem_of_getElem? hx2)
      have a1 := As k s hx2
      obtain ⟨Y, hY⟩ : ∃ Y, Y = addA (A k) s := ⟨_, rfl⟩
      obtain ⟨E, hE⟩ : ∃ E, E = addE (A k) s := ⟨_, rfl⟩
      rw [← hY, ← hE] at h2s a1
      clear hY hE
      obtain ⟨Z, hZ⟩ : ∃ Z, Z = A k := ⟨_, rfl⟩
      rw [← hZ] at h2s a1 ⊢
      obtain ⟨v, tk, ⟨y1, y2, y3, y4, y5, y6⟩⟩ := s
      obtain ⟨z1, z2, z3, z4, z5, z6, z7, z8⟩ := Z
      obtain ⟨u1, u2, u3, u4, u5, u6, u7, u8⟩ := Y
      cbv
      first
        | refine CallP.pure _ (h2s) rfl ?_
        | refine PureP.mk _ (h2s) rfl ?_
      cbv
      refine SplitP.mk (fun h3 => ?_) (fun h3 => ?_) <;> simp only [BE.eql_t, BE.eql_f, IE.var_d, IE.lit_d] at h3
      · rw [if_pos h3] at a1
        refine BackP.intro (k + 1) ⟨by omega, fun _ => h0⟩ (by show n - (k + 1) < n - k; omega) ⟨?_, ⟨.refl _, ?_, trivial⟩, rfl⟩
        · (cbv; (repeat' (first | exact SnD.refl _ | exact trivial | exact SnD.nat0 | refine And.intro ?_ ?_)))
          exact .inc (by omega)
        · show BkEq _ _ _ (.cells (AccountD.c (A (k + 1))))
          rw [a1]
          exact .refl _
      · rw [if_neg h3] at a1
        refine BackP.intro (k + 1) ⟨by omega, fun _ => h0⟩ (by show n - (k + 1) < n - k; omega) ⟨?_, ⟨.refl _, ?_, trivial⟩, rfl⟩
        · (cbv; (repeat' (first | exact SnD.refl _ | exact trivial | exact SnD.nat0 | refine And.intro ?_ ?_)))
          exact .inc (by omega)
        · show BkEq _ _ _ (.cells (AccountD.c (A (k + 1))))
          rw [a1]
          exact .refl _
    · rw [fin fun q => absurd q h0]
      exact .mk (.cons (.refl _) (.cons (.eq (.bool (by rw [BE.var_d, decide_eq_false h0]; show (e == 0) = false; simpa using h0))) .nil)) rfl
  · have hkn : k = n := by
      have h5 : decide ((k : Int) < (S.length : Int)) = false := hs
      have := of_decide_eq_false h5
      omega
    rw [fin fun _ => hkn]
    refine .mk (.cons (.refl _) (.cons (.eq (.bool ?_)) .nil)) rfl
    show (e == 0) = decide (e = 0)
    rw [Bool.eq_iff_iff]
    simp
end Go.Proofs.YtaopkjgldokahaaDoor
namespace Go.Proofs.YtaopkjgldokahaaDoor
open Go.RowKit

/-! What the examples of the chapter come to. -/
abbrev exI : List IssuedD := [⟨0, 1, false, [7]⟩, ⟨0, 2, false, [7]⟩, ⟨0, 3, false, [7]⟩, ⟨0, 3, false, [8]⟩]
abbrev exC : List CoalD := [⟨false, [0]⟩, ⟨false, [0, 1]⟩]
def tok1 (i : Nat) : Int := if i = 0 then 1 else 0
abbrev exS : SightD := ⟨0, tok1, ⟨4, 0, false, [0], false, [7]⟩⟩
abbrev exU : SightD := ⟨1, tok1, ⟨9, 0, false, [0], false, [8]⟩⟩
def exA : AccountD := newA false exI false exC
def exB : AccountD := addA exA (sightOf 0 4 7)
def exCc : AccountD := addA exA exS
def exD : AccountD := addA exCc exU
def exE : AccountD := issueA zeroA []
abbrev exSets : List GrpsD := [⟨false, [⟨0, false, [1, 2, 3]⟩]⟩, ⟨false, [⟨0, false, [3]⟩]⟩]
set_option maxRecDepth 100000 in
theorem ex1 : newE exI exC = 0 := by kernel_rfl
set_option maxRecDepth 100000 in
theorem ex2 : newE [] [⟨false, []⟩] = 310 := by kernel_rfl
set_option maxRecDepth 100000 in
theorem ex3 : afterN exA (sightOf 0 4 7) = 3 := by kernel_rfl
set_option maxRecDepth 100000 in
theorem ex4 : afterE exA (sightOf 0 4 7) = 0 := by kernel_rfl
set_option maxRecDepth 100000 in
theorem ex5 : addE exA (sightOf 0 4 7) = 0 := by kernel_rfl
set_option maxRecDepth 100000 in
theorem ex6 : afterN exB (sightOf 1 4 8) = 1 := by kernel_rfl
set_option maxRecDepth 100000 in
theorem ex7 : afterE exB (sightOf 1 4 8) = 0 := by kernel_rfl
set_option maxRecDepth 100000 in
theorem ex8 : addE exA exS = 0 := by kernel_rfl
set_option maxRecDepth 100000 in
theorem ex9 : addE exCc exU = 0 := by kernel_rfl
set_option maxRecDepth 100000 in
theorem ex10 : addE zeroA (sightOf 8 0 0) = 310 := by kernel_rfl
set_option maxRecDepth 100000 in
theorem ex11 : issueE zeroA [] = 0 := by kernel_rfl
set_option maxRecDepth 100000 in
theorem ex12 : sameB exE zeroA = true := by kernel_rfl
set_option maxRecDepth 100000 in
theorem ex13 : leastL exA.sets = 4096 := by kernel_rfl
set_option maxRecDepth 100000 in
theorem ex14 : checkA exD = true := by kernel_rfl
set_option maxRecDepth 100000 in
theorem ex15 : setsEqB exD.sets exSets = true := by kernel_rfl
end Go.Proofs.YtaopkjgldokahaaDoor
namespace Go.Proofs.YtaopkjgldokahaaDoor
open Go.RowKit

/-! Data in other words (order by meaning). -/
def DLe (d d' : D) : Prop := ∀ (w : World) (E : Env) (v : Value), DRep w E d v → DRep w E d' v
inductive DsLe : List D → List D → Prop
  | nil : DsLe [] []
  | cons {d d' : D} {l l' : List D} (h : DLe d d') (r : DsLe l l') : DsLe (d :: l) (d' :: l')
theorem DsLe.get {l l' : List D} (h : DsLe l l') : l.length = l'.length ∧ ∀ (i : Nat) d d', l[i]? = some d → l'[i]? = some d' → DLe d d' := by
  induction h with
  | nil => exact ⟨rfl, fun i d d' h => by simp at h⟩
  | cons h r ih =>
    refine ⟨by simp [ih.1], fun i d d' hd hd' => ?_⟩
    cases i with
    | zero => simp at hd hd'; subst hd; subst hd'; exact h
    | succ i => exact ih.2 i d d' (by simpa using hd) (by simpa using hd')
theorem DEq.le {d d' : D} (h : DEq d d') : DLe d d' := fun _ _ _ hr => h.rep hr
theorem DLe.refl (d : D) : DLe d d := fun _ _ _ h => h
theorem DLe.lit (k : IntKind) (x : Int) : DLe (.int k (.lit x)) (.int k (.var x)) := by
  have h : DEq (.int k (.lit x)) (.int k (.var x)) := .int rfl
  exact h.le
theorem Pure.argsL {P : Program} {f : Nat} {args args' : List D} {d : D} (hs : DsLe args args') (h : Pure P f args' d) : Pure P f args d := by
  obtain ⟨h1, h2⟩ := hs.get
  refine ⟨h.1, fun w G vs hL hG hv => h.2 w G vs hL hG ⟨by rw [← h1]; exact hv.1, fun i x v hx hv' => ?_⟩⟩
  have hlt := (List.getElem?_eq_some_iff.1 hx).1
  have hx0 : args[i]? = some (args[i]'(by omega)) := List.getElem?_eq_getElem (by omega)
  exact h2 i _ x hx0 hx w _ v (hv.2 i _ v hx0 hv')
theorem Pure.resL {P : Program} {f : Nat} {args : List D} {d d' : D} (h : Pure P f args d) (he : DLe d d') : Pure P f args d' := by
  refine ⟨h.1, fun w G vs hL hG hv => (h.2 w G vs hL hG hv).mono ?_⟩
  rintro e w' ⟨v, G', q1, q2, q3, q4, q5, q6⟩
  exact ⟨v, G', q1, q2, q3, q4, q5, he _ _ _ q6⟩
inductive EsLe {α : Type} (c : α → List D) : List (List D) → List α → Prop
  | nil : EsLe c [] []
  | cons {e : List D} {x : α} {es : List (List D)} {l : List α} (h : DsLe e (c x)) (r : EsLe c es l) : EsLe c (e :: es) (x :: l)
theorem EsLe.get {α : Type} {c : α → List D} {es : List (List D)} {l : List α} (h : EsLe c es l) : es.length = l.length ∧ ∀ (i : Nat) e x, es[i]? = some e → l[i]? = some x → DsLe e (c x) := by
  induction h with
  | nil => exact ⟨rfl, fun i d d' h => by simp at h⟩
  | cons h r ih =>
    refine ⟨by simp [ih.1], fun i d d' hd hd' => ?_⟩
    cases i with
    | zero => simp at hd hd'; subst hd; subst hd'; exact h
    | succ i => exact ih.2 i d d' (by simpa using hd) (by simpa using hd')
theorem EsLe.map {α β : Type} {c : α → List D} (f : β → List D) (g : β → α) (h : ∀ y, DsLe (f y) (c (g y))) : ∀ l : List β, EsLe c (l.map f) (l.map g)
  | [] => .nil
  | y :: l => .cons (h y) (EsLe.map f g h l)
theorem EsLe.le {α : Type} {c : α → List D} {es : List (List D)} {l : List α} {n : Nat} {nb : Option BE} (h : EsLe c es l) (hn : ∀ e, nb = some e → e.den = false) : DLe (.sll n es) (.slm n nb c l) := by
  intro w E v hr
  obtain ⟨h1, h2⟩ := h.get
  generalize hd : D.sll n es = d at hr
  cases hr with
  | @sll E n es a cap u hc hm hx ha hh =>
    cases hd
    rw [h1] at hc ⊢
    obtain ⟨b, base, q1, q2, q3⟩ := ha
    refine .slm u (fun e he => by rw [hn e he, q1]; rfl) hc hm (fun x hx' => ?_) (fun _ => ⟨b, base, q1, q2, fun i j hi hj => q3 i j (by omega) hj⟩) fun i x j d hx' hd' => ?_
    · obtain ⟨i, hi, rfl⟩ := List.getElem_of_mem hx'
      have he : es[i]? = some (es[i]'(by omega)) := List.getElem?_eq_getElem (by omega)
      have := h2 i _ _ he (List.getElem?_eq_getElem hi)
      rw [← this.get.1]
      exact hx _ (List.getElem_mem _)
    · have hi := (List.getElem?_eq_some_iff.1 hx').1
      have he : es[i]? = some (es[i]'(by omega)) := List.getElem?_eq_getElem (by omega)
      have hs := (h2 i _ _ he hx').get
      have hj := (List.getElem?_eq_some_iff.1 hd').1
      have hd0 : (es[i]'(by omega))[j]? = some ((es[i]'(by omega))[j]'(by omega)) := List.getElem?_eq_getElem (by omega)
      exact hs.2 j _ _ hd0 hd' w _ _ (hh i _ j _ he hd0)
  | _ => cases hd
def litI (l : List Int) : D := .sll 1 (l.map fun x => [.int .i64 (.lit x)])
theorem litI_le (l : List Int) {nb : Option BE} (hn : ∀ e, nb = some e → e.den = false) : DLe (litI l) (.slm 1 nb intC l) := by
  have := EsLe.map (c := intC) (fun x : Int => [.int .i64 (.lit x)]) id (fun x => .cons (DLe.lit _ _) .nil) l
  rw [List.map_id] at this
  exact this.le hn
theorem resL (a : D) (x : Int) : DLe (.tup [a, i64 x]) (.tup [a, .int .i64 (.lit x)]) := by
  have h : DEq (.tup [a, i64 x]) (.tup [a, .int .i64 (.lit x)]) := .tup (.cons (.refl _) (.cons (.int rfl) .nil))
  exact h.le
theorem resL3 (a : D) (b : Bool) (x : Int) : DLe (.tup [a, boolD b, i64 x]) (.tup [a, .bool (.lit b), .int .i64 (.lit x)]) := by
  have h : DEq (.tup [a, boolD b, i64 x]) (.tup [a, .bool (.lit b), .int .i64 (.lit x)]) := .tup (.cons (.refl _) (.cons (.bool rfl) (.cons (.int rfl) .nil)))
  exact h.le
theorem resLb (b : Bool) (x : Int) : DLe (.tup [boolD b, i64 x]) (.tup [.bool (.lit b), .int .i64 (.lit x)]) := by
  have h : DEq (.tup [boolD b, i64 x]) (.tup [.bool (.lit b), .int .i64 (.lit x)]) := .tup (.cons (.bool rfl) (.cons (.int rfl) .nil))
  exact h.le
theorem boolL (b : Bool) : DLe (boolD b) (.bool (.lit b)) := by
  have h : DEq (boolD b) (.bool (.lit b)) := .bool rfl
  exact h.le
theorem intL (x : Int) : DLe (i64 x) (.int .i64 (.lit x)) := by
  have h : DEq (i64 x) (.int .i64 (.lit x)) := .int rfl
  exact h.le
theorem nilL {α : Type} (n : Nat) (c : α → List D) : DLe .nils (.slm n none c ([] : List α)) := (DEq.nil0 rfl).le
set_option maxRecDepth 100000 in
set_option maxHeartbeats 4000000 in
theorem sight_pure (v g x : Int) : Pure Tryd.prog 29 [i64 v, i64 g, i64 x] (.agg (SightD.c (sightOf v g x))) := by
  obtain ⟨s, hs⟩ : ∃ s, s = sightOf v g x := ⟨_, rfl⟩
  have h1 : s.verifier = v := by rw [hs]
  have h2 : ∀ i, s.token i = 0 := fun i => by rw [hs]
  have h3 : s.seen.group = g := by rw [hs]
  have h4 : s.seen.round = 0 := by rw [hs]
  have h5 : s.seen.nilf = false ∧ s.seen.fields = [0] := by rw [hs]; exact ⟨rfl, rfl⟩
  have h6 : s.seen.nilv = false ∧ s.seen.values = [x] := by rw [hs]; exact ⟨rfl, rfl⟩
  rw [← hs]
  clear hs
  obtain ⟨sv, st, ⟨s1, s2, s3, s4, s5, s6⟩⟩ := s
  simp only at h1 h2 h3 h4 h5 h6
  obtain ⟨h5a, h5b⟩ := h5
  obtain ⟨h6a, h6b⟩ := h6
  subst h1 h3
  refine Pure.intro (want := [.agg (SightD.c ⟨sv, st, ⟨s1, s2, s3, s4, s5, s6⟩⟩)]) T_ok follows Tryd.func29 rfl (by kernel_rfl) (rs := [.cell 6 53]) rfl (by kernel_rfl) ?_
  generalize hP : Tryd.prog = P at *
  have hT : T.ok P := hP ▸ T_ok
  have hm : P.follows .mixedOrders = true := hP ▸ follows
  unfold Tryd.f29
  dsimp only
  cbv
  refine .mk (.cons (.aggs ?_) .nil) rfl
  refine .cons (.eq (.int rfl)) ?_
  iterate 32 refine .cons (.eq (.int (h2 _).symm)) ?_
  refine .cons (.eq (.int rfl)) (.cons (.eq (.int h4.symm)) (.cons (.trans (.eq (DEq.lits (es' := [[.int .i64 (.var 0)]]) (.cons (.cons (.int rfl) .nil) .nil))) (.sll (by rw [h5b]; rfl) (fun e h => by cases h; exact h5a))) (.cons (.eq (.sll (by rw [h6b]; rfl) (fun e h => by cases h; exact h6a))) .nil)))
end Go.Proofs.YtaopkjgldokahaaDoor
namespace Go.Proofs.YtaopkjgldokahaaDoor
open Go.RowKit

/-! The examples of the chapter answer as they should. -/
theorem nilL' {α : Type} (n : Nat) (c : α → List D) : DLe .nils (.slm n (some (.var true)) c ([] : List α)) := (DEq.nilv rfl rfl).le
theorem DsLe.refl : ∀ l : List D, DsLe l l
  | [] => .nil
  | d :: l => .cons (DLe.refl d) (DsLe.refl l)
theorem aggL {l l' : List D} (h : DsLe l l') : DLe (.agg l) (.agg l') := by
  obtain ⟨h1, h2⟩ := h.get
  intro w E v hr
  cases hr with
  | @agg E l vs hs hh =>
    refine .agg (by rw [← h1]; exact hs) fun i d u q1 q2 => ?_
    have hlt := (List.getElem?_eq_some_iff.1 q1).1
    have hx0 : l[i]? = some (l[i]'(by omega)) := List.getElem?_eq_getElem (by omega)
    exact h2 i _ d hx0 q1 w E u (hh i _ u hx0 q2)
abbrev nilsA : D := .agg [.nils, .nils, .nils, .nils]
theorem nilsA_le : DLe nilsA (.agg zeroA.c) := aggL (.cons (nilL' _ _) (.cons (nilL' _ _) (.cons (nilL' _ _) (.cons (nilL' _ _) .nil))))
theorem exA_fit : exA.fit := newA_fit ⟨by decide, by decide⟩ (by decide) (by decide)
theorem exB_fit : exB.fit := addA_fit exA_fit (by decide) (by decide)
theorem exCc_fit : exCc.fit := addA_fit exA_fit (by decide) (by decide)
theorem exD_fit : exD.fit := addA_fit exCc_fit (by decide) (by decide)
theorem v1 : Pure Tryd.prog 28 [.sll 3 [IssuedD.c ⟨0, 1, false, [7]⟩, IssuedD.c ⟨0, 2, false, [7]⟩, IssuedD.c ⟨0, 3, false, [7]⟩, IssuedD.c ⟨0, 3, false, [8]⟩], .sll 1 [[.sll 1 [[.int .i64 (.lit 0)]]], [.sll 1 [[.int .i64 (.lit 0)], [.int .i64 (.lit 1)]]]]] (.tup [.agg exA.c, .int .i64 (.lit 0)]) := by
  have h := New_pure false exI false exC (fun h => by cases h) (fun h => by cases h) ⟨by decide, by decide⟩ (by decide) (by decide)
  rw [ex1] at h
  exact Pure.resL (Pure.argsL (.cons ((EsLe.cons (DsLe.refl _) (.cons (DsLe.refl _) (.cons (DsLe.refl _) (.cons (DsLe.refl _) .nil)))).le fun e h => by cases h; rfl)
    (.cons ((EsLe.cons (.cons (litI_le [0] fun e h => by cases h; rfl) .nil) (.cons (.cons (litI_le [0, 1] fun e h => by cases h; rfl) .nil) .nil)).le fun e h => by cases h; rfl) .nil)) h) (resL _ _)
theorem v2 : ∃ Z : AccountD, Pure Tryd.prog 28 [.nils, .sll 1 [[.sll 1 []]]] (.tup [.agg Z.c, .int .i64 (.lit 310)]) := by
  have h := New_pure true [] false [⟨false, []⟩] (fun _ => rfl) (fun h => by cases h) ⟨by decide, by decide⟩ (by decide) (by decide)
  rw [ex2] at h
  exact ⟨_, Pure.resL (Pure.argsL (.cons (nilL' _ _) (.cons ((EsLe.cons (.cons (litI_le [] fun e h => by cases h; rfl) .nil) .nil).le fun e h => by cases h; rfl) .nil)) h) (resL _ _)⟩
theorem resN (n x : Int) : DLe (.tup [i64 n, i64 x]) (.tup [.int .i64 (.lit n), .int .i64 (.lit x)]) := by
  have h : DEq (.tup [i64 n, i64 x]) (.tup [.int .i64 (.lit n), .int .i64 (.lit x)]) := .tup (.cons (.int rfl) (.cons (.int rfl) .nil))
  exact h.le
theorem v3 : Pure Tryd.prog 21 [.agg exA.c, .agg (SightD.c (sightOf 0 4 7))] (.tup [.int .i64 (.lit 3), .int .i64 (.lit 0)]) := by
  have h := After_pure exA (sightOf 0 4 7) exA_fit (by decide) (by decide)
  rw [ex3, ex4] at h
  exact Pure.resL h (resN _ _)
theorem v4 : Pure Tryd.prog 19 [.agg exA.c, .agg (SightD.c (sightOf 0 4 7))] (.tup [.agg exB.c, .int .i64 (.lit 0)]) := by
  have h := Add_pure exA (sightOf 0 4 7) exA_fit.big exA_fit.si exA_fit.nil (by decide) (by decide)
  rw [ex5] at h
  exact Pure.resL h (resL _ _)
theorem v5 : Pure Tryd.prog 21 [.agg exB.c, .agg (SightD.c (sightOf 1 4 8))] (.tup [.int .i64 (.lit 1), .int .i64 (.lit 0)]) := by
  have h := After_pure exB (sightOf 1 4 8) exB_fit (by decide) (by decide)
  rw [ex6, ex7] at h
  exact Pure.resL h (resN _ _)
theorem v6 : Pure Tryd.prog 19 [.agg exA.c, .agg exS.c] (.tup [.agg exCc.c, .int .i64 (.lit 0)]) := by
  have h := Add_pure exA exS exA_fit.big exA_fit.si exA_fit.nil (by decide) (by decide)
  rw [ex8] at h
  exact Pure.resL h (resL _ _)
theorem v7 : Pure Tryd.prog 19 [.agg exCc.c, .agg exU.c] (.tup [.agg exD.c, .int .i64 (.lit 0)]) := by
  have h := Add_pure exCc exU exCc_fit.big exCc_fit.si exCc_fit.nil (by decide) (by decide)
  rw [ex9] at h
  exact Pure.resL h (resL _ _)
theorem v8 : ∃ Z : AccountD, Pure Tryd.prog 19 [nilsA, .agg (SightD.c (sightOf 8 0 0))] (.tup [.agg Z.c, .int .i64 (.lit 310)]) := by
  have h := Add_pure zeroA (sightOf 8 0 0) zeroA_fit.big zeroA_fit.si zeroA_fit.nil (by decide) (by decide)
  rw [ex10] at h
  exact ⟨_, Pure.resL (Pure.argsL (.cons nilsA_le (.cons (DLe.refl _) .nil)) h) (resL _ _)⟩
theorem v9 : Pure Tryd.prog 25 [nilsA, .nils] (.tup [.agg exE.c, .int .i64 (.lit 0)]) := by
  have h := Issue_pure zeroA [] true zeroA_fit (fun _ => rfl) (by decide) (by decide)
  rw [ex11] at h
  exact Pure.resL (Pure.argsL (.cons nilsA_le (.cons (nilL' _ _) .nil)) h) (resL _ _)
theorem exE_fit : exE.big := by
  have h : exE = ⟨true, [], true, [], true, [], true, []⟩ := by
    have e : issueE zeroA [] = 0 := ex11
    unfold exE issueA
    rw [if_pos e]
    rfl
  rw [h]
  exact zeroA_fit.big
theorem v10 : Pure Tryd.prog 20 [.agg exE.c, nilsA] (.bool (.lit true)) := by
  have h := Same_pure exE zeroA exE_fit
  rw [ex12] at h
  exact Pure.resL (Pure.argsL (.cons (DLe.refl _) (.cons nilsA_le .nil)) h) (boolL _)
theorem v11 : Pure Tryd.prog 22 [nilsA] (.int .i64 (.lit 4096)) := by
  have h := Least_pure zeroA (by decide) (by decide)
  exact Pure.resL (Pure.argsL (.cons nilsA_le .nil) h) (intL _)
theorem v12 : Pure Tryd.prog 22 [.agg exA.c] (.int .i64 (.lit 4096)) := by
  have h := Least_pure exA exA_fit.big.sets fun x hx => (exA_fit.big.gl x hx).1
  rw [ex13] at h
  exact Pure.resL h (intL _)
theorem v13 : Pure Tryd.prog 11 [.agg exD.c] (.int .i64 (.lit 0)) := by
  have h := Check31_pure exD exD_fit.big exD_fit.si
  rw [ex14] at h
  exact Pure.resL h (intL _)
theorem v14 : Pure Tryd.prog 26 [.slm 1 (some (.var exD.nz)) GrpsD.c exD.sets, .sll 1 [[.sll 2 [[.int .i64 (.lit 0), .sll 1 [[.int .i64 (.lit 1)], [.int .i64 (.lit 2)], [.int .i64 (.lit 3)]]]]], [.sll 2 [[.int .i64 (.lit 0), .sll 1 [[.int .i64 (.lit 3)]]]]]]] (.bool (.lit true)) := by
  have h := SameSets_pure exD.sets exSets (some (.var exD.nz)) none exD_fit.big.sets exD_fit.big.gl
  rw [ex15] at h
  exact Pure.resL (Pure.argsL (.cons (DLe.refl _) (.cons ((EsLe.cons (.cons ((EsLe.cons (.cons (DLe.lit _ _) (.cons (litI_le [1, 2, 3] fun e h => by cases h; rfl) .nil)) .nil).le fun e h => by cases h; rfl) .nil)
    (.cons (.cons ((EsLe.cons (.cons (DLe.lit _ _) (.cons (litI_le [3] fun e h => by cases h; rfl) .nil)) .nil).le fun e h => by cases h; rfl) .nil) .nil)).le fun e h => by cases h) .nil)) h) (boolL _)
theorem cpV (p v : Int) : Pure Tryd.prog 27 [.int .i64 (.lit p), .int .i64 (.lit v)] (.agg (IssuedD.c ⟨0, p, false, [v]⟩)) := Pure.argsL (.cons (DLe.lit _ _) (.cons (DLe.lit _ _) .nil)) (copyOf_pure p v)
theorem siV (a b c : Int) : Pure Tryd.prog 29 [.int .i64 (.lit a), .int .i64 (.lit b), .int .i64 (.lit c)] (.agg (SightD.c (sightOf a b c))) := Pure.argsL (.cons (DLe.lit _ _) (.cons (DLe.lit _ _) (.cons (DLe.lit _ _) .nil))) (sight_pure a b c)
end Go.Proofs.YtaopkjgldokahaaDoor
namespace Go.Proofs.YtaopkjgldokahaaDoor
open Go.RowKit

/-! sane, walked. -/
set_option maxRecDepth 100000 in
set_option maxHeartbeats 4000000 in
theorem sane_pure : Pure Tryd.prog 8 [] (boolD true) := by
  have e : (boolD true : D) = retD [boolD true] := rfl
  rw [e]
  have c1 := cpV 1 7
  have c2 := cpV 2 7
  have c3 := cpV 3 7
  have c4 := cpV 3 8
  have k1 := siV 0 4 7
  have k2 := siV 1 4 8
  have k3 := siV 1 9 8
  have k4 := siV 8 0 0
  have w1 := v1
  obtain ⟨Z1, w2⟩ := v2
  have w3 := v3
  have w4 := v4
  have w5 := v5
  have w6 := v6
  have w7 := v7
  obtain ⟨Z2, w8⟩ := v8
  have w9 := v9
  have w10 := v10
  have w11 := v11
  have w12 := v12
  have w13 := v13
  have w14 := v14
  have hS : ∀ (x : SightD), x = sightOf 0 4 7 → DsEq [.int .i64 (.var x.verifier), .int .i64 (.var x.seen.group)] [.int .i64 (.var 0), .int .i64 (.var 4)] := fun x h => by rw [h]; exact .cons (.refl _) (.cons (.refl _) .nil)
  clear hS
  obtain ⟨X1, hX1⟩ : ∃ X : IssuedD, X = ⟨0, 1, false, [7]⟩ := ⟨_, rfl⟩
  obtain ⟨X2, hX2⟩ : ∃ X : IssuedD, X = ⟨0, 2, false, [7]⟩ := ⟨_, rfl⟩
  obtain ⟨X3, hX3⟩ : ∃ X : IssuedD, X = ⟨0, 3, false, [7]⟩ := ⟨_, rfl⟩
  obtain ⟨X4, hX4⟩ : ∃ X : IssuedD, X = ⟨0, 3, false, [8]⟩ := ⟨_, rfl⟩
  rw [← hX1] at c1 w1
  rw [← hX2] at c2 w1
  rw [← hX3] at c3 w1
  rw [← hX4] at c4 w1
  clear hX1 hX2 hX3 hX4
  have w6' : ∀ S1 : SightD, S1 = sightOf 0 4 7 → Pure Tryd.prog 19 [.agg exA.c, .agg (.int .i64 (.var S1.verifier) :: .int .u8 (.lit 1) :: (List.replicate 31 (.int .u8 (.lit 0)) ++ S1.seen.c))] (.tup [.agg exCc.c, .int .i64 (.lit 0)]) := fun S1 h => by
    rw [h]
    refine Pure.argsL (.cons (DLe.refl _) (.cons (aggL ?_) .nil)) w6
    refine .cons (DLe.refl _) ?_
    iterate 32 refine .cons (by exact DEq.le (.int rfl)) ?_
    exact DsLe.refl _
  have w7' : ∀ S1 : SightD, S1 = sightOf 1 9 8 → Pure Tryd.prog 19 [.agg exCc.c, .agg (.int .i64 (.var S1.verifier) :: .int .u8 (.lit 1) :: (List.replicate 31 (.int .u8 (.lit 0)) ++ S1.seen.c))] (.tup [.agg exD.c, .int .i64 (.lit 0)]) := fun S1 h => by
    rw [h]
    refine Pure.argsL (.cons (DLe.refl _) (.cons (aggL ?_) .nil)) w7
    refine .cons (DLe.refl _) ?_
    iterate 32 refine .cons (by exact DEq.le (.int rfl)) ?_
    exact DsLe.refl _
  have w6 := w6' _ rfl
  have w7 := w7' _ rfl
  clear w6' w7'
  obtain ⟨S1, hS1⟩ : ∃ S, S = sightOf 0 4 7 := ⟨_, rfl⟩
  obtain ⟨S2, hS2⟩ : ∃ S, S = sightOf 1 4 8 := ⟨_, rfl⟩
  obtain ⟨S3, hS3⟩ : ∃ S, S = sightOf 1 9 8 := ⟨_, rfl⟩
  obtain ⟨S4, hS4⟩ : ∃ S, S = sightOf 8 0 0 := ⟨_, rfl⟩
  rw [← hS1] at k1 w3 w4 w6
  rw [← hS2] at k2 w5
  rw [← hS3] at k3 w7
  rw [← hS4] at k4 w8
  clear hS1 hS2 hS3 hS4
  obtain ⟨A, hA⟩ : ∃ A, A = exA := ⟨_, rfl⟩
  obtain ⟨B, hB⟩ : ∃ A, A = exB := ⟨_, rfl⟩
  obtain ⟨Cc, hC⟩ : ∃ A, A = exCc := ⟨_, rfl⟩
  obtain ⟨Dd, hD⟩ : ∃ A, A = exD := ⟨_, rfl⟩
  obtain ⟨E, hE⟩ : ∃ A, A = exE := ⟨_, rfl⟩
  rw [← hA] at w1 w3 w4 w6 w12
  rw [← hB] at w4 w5
  rw [← hC] at w6 w7
  rw [← hD] at w7 w13 w14
  rw [← hE] at w9 w10
  clear hA hB hC hD hE
  obtain ⟨s11, s12, ⟨s13, s14, s15, s16, s17, s18⟩⟩ := S1
  obtain ⟨s21, s22, ⟨s23, s24, s25, s26, s27, s28⟩⟩ := S2
  obtain ⟨s31, s32, ⟨s33, s34, s35, s36, s37, s38⟩⟩ := S3
  obtain ⟨s41, s42, ⟨s43, s44, s45, s46, s47, s48⟩⟩ := S4
  obtain ⟨a1, a2, a3, a4, a5, a6, a7, a8⟩ := A
  obtain ⟨b1, b2, b3, b4, b5, b6, b7, b8⟩ := B
  obtain ⟨cc1, cc2, cc3, cc4, cc5, cc6, cc7, cc8⟩ := Cc
  obtain ⟨d1, d2, d3, d4, d5, d6, d7, d8⟩ := Dd
  obtain ⟨e1, e2, e3, e4, e5, e6, e7, e8⟩ := E
  obtain ⟨z11, z12, z13, z14, z15, z16, z17, z18⟩ := Z1
  obtain ⟨z21, z22, z23, z24, z25, z26, z27, z28⟩ := Z2
  obtain ⟨x11, x12, x13, x14⟩ := X1
  obtain ⟨x21, x22, x23, x24⟩ := X2
  obtain ⟨x31, x32, x33, x34⟩ := X3
  obtain ⟨x41, x42, x43, x44⟩ := X4
  clear e
  refine Pure.introC T_ok Tryd.func8 rfl (by kernel_rfl) (rs := [.tmp 0]) rfl (by kernel_rfl) ?_
  generalize hP : Tryd.prog = P at *
  have hT : T.ok P := hP ▸ T_ok
  have hm : P.follows .mixedOrders = true := hP ▸ follows
  unfold Tryd.f8
  dsimp only
  refine CodeP.seq (vc_sound hT hm _ ?_)
  cbv
  refine CodeP.seq (vc_sound hT hm _ ?_)
  cbv
  first
    | refine CallP.pure _ (c1) rfl ?_
    | refine PureP.mk _ (c1) rfl ?_
  cbv
  first
    | refine CallP.pure _ (c2) rfl ?_
    | refine PureP.mk _ (c2) rfl ?_
  cbv
  first
    | refine CallP.pure _ (c3) rfl ?_
    | refine PureP.mk _ (c3) rfl ?_
  cbv
  first
    | refine CallP.pure _ (c4) rfl ?_
    | refine PureP.mk _ (c4) rfl ?_
  cbv
  refine CodeP.seq (vc_sound hT hm _ ?_)
  cbv
  first
    | refine CallP.pure _ (w1) rfl ?_
    | refine PureP.mk _ (w1) rfl ?_
  cbv
  refine CodeP.keep [2, 3] ?_
  refine CodeP.seq (vc_sound hT hm _ ?_)
  cbv
  refine OpsP.pre hT [(2, .ptr 0 1 0), (3, .int .i64 (.lit 0)), (36, .sll 1 [])] [.cells (AccountD.c ⟨a1, a2, a3, a4, a5, a6, a7, a8⟩), .dead] ⟨⟨.refl _, .refl _, .sll rfl (.inl ⟨_, _, rfl, rfl⟩) rfl rfl rfl, trivial⟩, ⟨.refl _, .dead _, trivial⟩, rfl⟩ (Nat.zero_le _) ?_
  cbv
  first
    | refine CallP.pure _ (w2) rfl ?_
    | refine PureP.mk _ (w2) rfl ?_
  cbv
  refine CodeP.keep [2, 3, 5] ?_
  refine CodeP.seq (vc_sound hT hm _ ?_)
  cbv
  first
    | refine CallP.pure _ (k1) rfl ?_
    | refine PureP.mk _ (k1) rfl ?_
  cbv
  first
    | refine CallP.pure _ (w3) rfl ?_
    | refine PureP.mk _ (w3) rfl ?_
  cbv
  refine CodeP.keep [2, 3, 5, 6, 7] ?_
  refine CodeP.seq (vc_sound hT hm _ ?_)
  cbv
  refine FootP.intro hT hm [(7, [3])] (by kernel_rfl) ?_
  cbv
  first
    | refine CallP.pure _ (k1) rfl ?_
    | refine PureP.mk _ (k1) rfl ?_
  cbv
  first
    | refine CallP.pure _ (w4) rfl ?_
    | refine PureP.mk _ (w4) rfl ?_
  cbv
  refine CodeP.keep [2, 3, 5, 6, 7, 8, 9] ?_
  refine CodeP.seq (vc_sound hT hm _ ?_)
  cbv
  first
    | refine CallP.pure _ (k2) rfl ?_
    | refine PureP.mk _ (k2) rfl ?_
  cbv
  first
    | refine CallP.pure _ (w5) rfl ?_
    | refine PureP.mk _ (w5) rfl ?_
  cbv
  refine CodeP.keep [2, 3, 5, 6, 7, 9, 10, 11] ?_
  refine CodeP.seq (vc_sound hT hm _ ?_)
  cbv
  first
    | refine CallP.pure _ (k1) rfl ?_
    | refine PureP.mk _ (k1) rfl ?_
  cbv
  first
    | refine CallP.pure _ (k3) rfl ?_
    | refine PureP.mk _ (k3) rfl ?_
  cbv
  refine CodeP.keep [2, 3, 5, 6, 7, 9, 10, 11, 12, 13] ?_
  refine CodeP.seq (vc_sound hT hm _ ?_)
  cbv
  refine CodeP.keep [2, 3, 5, 6, 7, 9, 10, 11, 12, 13] ?_
  refine CodeP.seq (vc_sound hT hm _ ?_)
  cbv
  first
    | refine CallP.pure _ (w6) rfl ?_
    | refine PureP.mk _ (w6) rfl ?_
  cbv
  refine CodeP.keep [2, 3, 5, 6, 7, 9, 10, 11, 13, 14, 15] ?_
  refine CodeP.seq (vc_sound hT hm _ ?_)
  cbv
  first
    | refine CallP.pure _ (w7) rfl ?_
    | refine PureP.mk _ (w7) rfl ?_
  cbv
  refine CodeP.keep [2, 3, 5, 6, 7, 9, 10, 11, 15, 16, 17] ?_
  refine CodeP.seq (vc_sound hT hm _ ?_)
  cbv
  first
    | refine CallP.pure _ (k4) rfl ?_
    | refine PureP.mk _ (k4) rfl ?_
  cbv
  first
    | refine CallP.pure _ (w8) rfl ?_
    | refine PureP.mk _ (w8) rfl ?_
  cbv
  refine CodeP.keep [2, 3, 5, 6, 7, 9, 10, 11, 15, 16, 17, 19] ?_
  refine CodeP.seq (vc_sound hT hm _ ?_)
  cbv
  first
    | refine CallP.pure _ (w9) rfl ?_
    | refine PureP.mk _ (w9) rfl ?_
  cbv
  refine CodeP.keep [2, 3, 5, 6, 7, 9, 10, 11, 15, 16, 17, 19, 20, 21] ?_
  refine CodeP.seq (vc_sound hT hm _ ?_)
  cbv
  first
    | refine CallP.pure _ (w10) rfl ?_
    | refine PureP.mk _ (w10) rfl ?_
  cbv
  refine CodeP.keep [2, 6, 10, 16] ?_
  refine CodeP.seq (vc_sound hT hm _ ?_)
  cbv
  first
    | refine CallP.pure _ (w11) rfl ?_
    | refine PureP.mk _ (w11) rfl ?_
  cbv
  first
    | refine CallP.pure _ (w12) rfl ?_
    | refine PureP.mk _ (w12) rfl ?_
  cbv
  first
    | refine CallP.pure _ (w13) rfl ?_
    | refine PureP.mk _ (w13) rfl ?_
  cbv
  refine CodeP.keep [16] ?_
  refine vc_sound hT hm _ ?_
  cbv
  first
    | refine CallP.pure _ (w14) rfl ?_
    | refine PureP.mk _ (w14) rfl ?_
  cbv
  exact .mk (.cons (.eq (.bool rfl)) .nil) rfl
end Go.Proofs.YtaopkjgldokahaaDoor
namespace Go.Proofs.YtaopkjgldokahaaDoor
open Go.RowKit

/-! What is kept, in plain words. -/
def okT (I : List IssuedD) (C : List CoalD) (T : List SightD) : Prop := coalsB C = true ∧ checkB I (viewsL T) = true ∧ T.all verB = true ∧ T.length ≤ 16
def acctT (ni : Bool) (I : List IssuedD) (nc : Bool) (C : List CoalD) (T : List SightD) : AccountD := ⟨ni, I, nc, C, decide (T.length = 0), T, C.isEmpty, setsL I T C⟩
def accB (I : List IssuedD) (T : List SightD) (s : SightD) : Bool := verB s && (decide (T.length < 16) && checkB I (viewsL (T ++ [s])))
theorem eqF_refl {α : Type} (f : α → α → Bool) (h : ∀ x, f x x = true) : ∀ l : List α, eqF f l l = true
  | [] => rfl
  | x :: l => by unfold eqF; rw [h x, eqF_refl f h l]; rfl
theorem eqGL_refl (l : List GroupD) : eqGL l l = true := eqF_refl _ (fun x => by unfold eqG; simp) l
theorem setsEq_refl (l : List GrpsD) : setsEqB l l = true := eqF_refl _ (fun x => eqGL_refl x.l) l
theorem check_acct {ni : Bool} {I : List IssuedD} {nc : Bool} {C : List CoalD} {T : List SightD} (h : okT I C T) : checkA (acctT ni I nc C T) = true := by
  obtain ⟨h1, h2, h3, _⟩ := h
  unfold checkA acctT
  simp only
  rw [h1, h2, h3, setsEq_refl]
  rfl
theorem acct_app (ni : Bool) (I : List IssuedD) (nc : Bool) (C : List CoalD) (T : List SightD) (s : SightD) : acctT ni I nc C (T ++ [s]) = ⟨ni, I, nc, C, false, T ++ [s], C.isEmpty, setsL I (T ++ [s]) C⟩ := by
  unfold acctT
  rw [decide_eq_false (by simp)]
theorem add_acct {ni : Bool} {I : List IssuedD} {nc : Bool} {C : List CoalD} {T : List SightD} (h : okT I C T) (s : SightD) :
    (addE (acctT ni I nc C T) s = 0 ↔ accB I T s = true) ∧ addA (acctT ni I nc C T) s = if accB I T s then acctT ni I nc C (T ++ [s]) else zeroA := by
  have hc := check_acct (ni := ni) (nc := nc) h
  unfold addE addA
  rw [if_pos hc, if_pos hc]
  have hE : extE (acctT ni I nc C T) s = if verB s then (if 16 ≤ T.length then 2 else if checkB I (viewsL (T ++ [s])) then 0 else 300) else 310 := rfl
  have hiff : extE (acctT ni I nc C T) s = 0 ↔ accB I T s = true := by
    rw [hE]
    unfold accB
    cases verB s with
    | false => simp
    | true =>
      by_cases q : 16 ≤ T.length
      · rw [if_pos rfl, if_pos q, decide_eq_false (by omega)]
        simp
      · rw [if_pos rfl, if_neg q, decide_eq_true (by omega)]
        cases checkB I (viewsL (T ++ [s])) <;> simp
  refine ⟨hiff, ?_⟩
  unfold extA
  by_cases q : accB I T s = true
  · rw [if_pos q, if_pos (hiff.2 q), acct_app]
    rfl
  · rw [if_neg q, if_neg fun e => q (hiff.1 e)]
theorem acc_ok {I : List IssuedD} {C : List CoalD} {T : List SightD} {s : SightD} (h : okT I C T) (ha : accB I T s = true) : okT I C (T ++ [s]) := by
  obtain ⟨h1, h2, h3, h4⟩ := h
  unfold accB at ha
  simp only [Bool.and_eq_true, decide_eq_true_eq] at ha
  refine ⟨h1, ha.2.2, ?_, by simp; omega⟩
  rw [List.all_append, h3]
  simp [ha.1]
def keepT (I : List IssuedD) : List SightD → List SightD → List SightD
  | T, [] => T
  | T, s :: S => keepT I (if accB I T s then T ++ [s] else T) S
theorem keepT_sub (I : List IssuedD) : ∀ (S T : List SightD), ∃ U, keepT I T S = T ++ U ∧ U.Sublist S
  | [], T => ⟨[], by simp [keepT], by simp⟩
  | s :: S, T => by
    unfold keepT
    by_cases h : accB I T s = true
    · rw [if_pos h]
      obtain ⟨U, h1, h2⟩ := keepT_sub I S (T ++ [s])
      exact ⟨s :: U, by rw [h1]; simp, h2.cons_cons s⟩
    · rw [if_neg h]
      obtain ⟨U, h1, h2⟩ := keepT_sub I S T
      exact ⟨U, h1, h2.cons s⟩
theorem fold_form {ni : Bool} {I : List IssuedD} {nc : Bool} {C : List CoalD} : ∀ (S T : List SightD), okT I C T → S.foldl keepStep (acctT ni I nc C T) = acctT ni I nc C (keepT I T S) ∧ okT I C (keepT I T S)
  | [], T, h => ⟨rfl, h⟩
  | s :: S, T, h => by
    obtain ⟨h1, h2⟩ := add_acct (ni := ni) (nc := nc) h s
    have hs : keepStep (acctT ni I nc C T) s = acctT ni I nc C (if accB I T s then T ++ [s] else T) := by
      unfold keepStep
      by_cases q : accB I T s = true
      · rw [if_pos (h1.2 q), h2, if_pos q, if_pos q]
      · rw [if_neg fun e => q (h1.1 e), if_neg q]
    rw [List.foldl_cons, hs]
    unfold keepT
    refine fold_form S _ ?_
    split
    · next q => exact acc_ok h q
    · exact h
theorem newE_ok {I : List IssuedD} {C : List CoalD} (h : newE I C = 0) : okT I C [] := by
  unfold newE at h
  split at h
  · next h1 =>
    split at h
    · next h2 => exact ⟨h1, h2, rfl, by simp⟩
    · cases h
  · cases h
theorem kept_form {ni : Bool} {I : List IssuedD} {nc : Bool} {C : List CoalD} {S : List SightD} (h : newE I C = 0) : keptA ni I nc C S = acctT ni I nc C (keepT I [] S) ∧ okT I C (keepT I [] S) := by
  have h1 : newA ni I nc C = acctT ni I nc C [] := by
    unfold newA
    rw [if_pos h]
    rfl
  unfold keptA
  rw [if_pos h, h1]
  exact fold_form S [] (newE_ok h)
theorem kept_sub (I : List IssuedD) (S : List SightD) : (keepT I [] S).Sublist S := by
  obtain ⟨U, h1, h2⟩ := keepT_sub I S []
  rw [h1]
  exact h2
/-- what a coalition sees is valid -/
theorem view_ok {I : List IssuedD} {T : List SightD} (c : List Int) (h : checkB I (viewsL T) = true) : checkB I (viewL c T) = true := by
  unfold checkB viewsL at h
  simp only [Bool.and_eq_true, decide_eq_true_eq, List.length_map, List.all_eq_true, List.mem_map, forall_exists_index, and_imp, forall_apply_eq_imp_iff₂] at h
  have hl := view_len c T
  unfold checkB
  simp only [Bool.and_eq_true, decide_eq_true_eq, List.all_eq_true]
  refine ⟨⟨h.1.1, by omega⟩, h.2.1, fun s hs => ?_⟩
  obtain ⟨x, hx, h1, h2, _, _, h3, n, h4⟩ := view_get hs
  have hv := h.2.2 x hx
  unfold seenB at hv ⊢
  simp only [Bool.and_eq_true, decide_eq_true_eq] at hv ⊢
  rw [h1, h2, h3, h4]
  exact ⟨⟨by omega, hv.1.2⟩, hv.2⟩
theorem cnt_hit (r : Nat → Nat) : ∀ n g, g < cntR r n → ∃ i, i < n ∧ r i = i ∧ cntR r i = g
  | 0, g, h => by simp [cntR] at h
  | n + 1, g, h => by
    rw [cntR_succ] at h
    by_cases q : g < cntR r n
    · obtain ⟨i, h1, h2, h3⟩ := cnt_hit r n g q
      exact ⟨i, by omega, h2, h3⟩
    · split at h
      · next hr => exact ⟨n, by omega, hr, by omega⟩
      · omega
theorem view_hit {c : List Int} {T : List SightD} {g : Nat} (h : g < manyL c T) : ∃ i, i < (sightsL31 c T).length ∧ (viewAt (sightsL31 c T) i).group = (g : Int) := by
  obtain ⟨i, h1, h2, h3⟩ := cnt_hit _ _ _ h
  refine ⟨i, h1, ?_⟩
  unfold viewAt
  simp only
  rw [h2, h3]
theorem view_occ {c : List Int} {T : List SightD} {g : Nat} (h : g < manyL c T) : occB (g : Int) (viewL c T) = true := by
  obtain ⟨i, h1, h2⟩ := view_hit h
  unfold occB
  rw [List.any_eq_true]
  refine ⟨viewAt (sightsL31 c T) i, ?_, by simpa using h2⟩
  unfold viewL
  exact List.mem_map.2 ⟨i, List.mem_range.2 h1, rfl⟩
theorem view_okOf {I : List IssuedD} {T : List SightD} {c : List Int} {g : Nat} (h : checkB I (viewsL T) = true) (hg : g < manyL c T) : okOf I (viewL c T) (g : Int) = true := by
  unfold okOf
  rw [view_ok c h, view_occ hg]
  rfl
theorem fewL_big {I : List IssuedD} {C : List CoalD} {S : List SightD} (h : fewL I C S = true) : BigI I ∧ I.length ≤ 8 ∧ C.length ≤ 10 ∧ (∀ x ∈ C, x.l.length ≤ 10) ∧ BigV S ∧ S.length ≤ 4 := by
  unfold fewL fewA fewB at h
  simp only [Bool.and_eq_true, decide_eq_true_eq, List.all_eq_true] at h
  obtain ⟨h1, h2, h3, h4, h5, h6, _⟩ := h
  have hs : ∀ s ∈ S, s.seen.fields.length ≤ 16 ∧ s.seen.values.length ≤ 16 := fun s hs => by
    have := h1 s hs
    unfold fewS fewB at this
    simp at this
    exact this
  exact ⟨⟨by omega, fun x hx => by have := h6 x hx; omega⟩, h2.2, h3.1, fun x hx => h4 x hx, ⟨fun x hx => by have := (hs x hx).1; omega, fun x hx => by have := (hs x hx).2; omega⟩, h2.1⟩
theorem bigV_sub {S T : List SightD} (h : BigV S) (hs : T.Sublist S) : BigV T := ⟨fun x hx => h.fields x (hs.subset hx), fun x hx => h.vals x (hs.subset hx)⟩
theorem acct_fit {ni : Bool} {I : List IssuedD} {nc : Bool} {C : List CoalD} {T : List SightD} (hI : BigI I) (hi : I.length ≤ 1000000) (hC : C.length < 9223372036854775807) (hcl : ∀ x ∈ C, x.l.length < 9223372036854775807) (hT : BigV T) (hl : T.length ≤ 1000) : (acctT ni I nc C T).fit := by
  obtain ⟨q1, q2⟩ := sets_lens (I := I) (L := T) (C := C) hl hi hC
  exact ⟨⟨hI, hC, hcl, by simp only [acctT]; omega, hT.fields, hT.vals, q1, q2⟩, hl, fun e => List.eq_nil_of_length_eq_zero (by simpa [acctT] using e)⟩
end Go.Proofs.YtaopkjgldokahaaDoor
namespace Go.Proofs.YtaopkjgldokahaaDoor
open Go.ChangeShapes Go.WideShapes Go.ChangeAt Go.RowKit

/-! From the form's reading of the arguments to data. -/
def allE (w : World) : Env := Env.of fun b => b < w.heap.size
/-- every reading of type t by the form gives data -/
def OpD (P : Program) (t : TypeId) {α : Type} (c : α → List D) (ok : α → Prop) : Prop :=
  ∀ {H : Type} (enc : TypeId × Value → H) (w : World) (spare : Nat → Bool) (held : Bool) (fuel : Nat) (cs : List Value) (x : DataW H × List MemPlace),
    DataW.trod enc P w 0 spare held fuel t cs = some x → ∃ a, ok a ∧ cs.length = (c a).length ∧ ∀ (i : Nat) d v, (c a)[i]? = some d → cs[i]? = some v → DRep w (allE w) d v
theorem InR.of_wf {k : IntKind} {z : Int} (h : (Lit.int k z).wf = true) : InR k z := by
  simpa [Lit.wf, InR] using h
theorem opd_int {P : Program} {t : TypeId} (ht : P.underlying t = some (.int .i64)) : OpD P t (fun x : Int => [.int .i64 (.var x)]) (fun _ => True) := fun enc w spare held fuel cs x h => by
  obtain ⟨z, rfl, _, h2⟩ := DataW.trod_int ht h
  refine ⟨z, trivial, rfl, fun i d v hd hv => ?_⟩
  match i, hd, hv with
  | 0, hd, hv => cases hd; cases hv; exact .int (e := .var z) (InR.of_wf h2)
theorem opd_u8 {P : Program} {t : TypeId} (ht : P.underlying t = some (.int .u8)) : OpD P t (fun b : BitVec 8 => [.int .u8 (.u8 b)]) (fun _ => True) := fun enc w spare held fuel cs x h => by
  obtain ⟨z, rfl, _, h2⟩ := DataW.trod_int ht h
  have hz := InR.of_wf h2
  have hz2 : 0 ≤ z ∧ z ≤ 255 := by unfold InR IntKind.min IntKind.max at hz; simpa [IntKind.signed, IntKind.bits] using hz
  have e : (IE.u8 (BitVec.ofInt 8 z)).den = z := by
    simp only [IE.den, BitVec.toNat_ofInt]
    omega
  refine ⟨BitVec.ofInt 8 z, trivial, rfl, fun i d v hd hv => ?_⟩
  match i, hd, hv with
  | 0, hd, hv =>
    cases hd; cases hv
    have := DRep.int (w := w) (E := allE w) (k := .u8) (e := .u8 (BitVec.ofInt 8 z)) (by rw [e]; exact hz)
    rwa [e] at this
theorem opd_bool {P : Program} {t : TypeId} (ht : P.underlying t = some .bool) : OpD P t (fun b : Bool => [.bool (.var b)]) (fun _ => True) := fun enc w spare held fuel cs x h => by
  obtain ⟨z, rfl, _⟩ := DataW.trod_bool ht h
  refine ⟨z, trivial, rfl, fun i d v hd hv => ?_⟩
  match i, hd, hv with
  | 0, hd, hv => cases hd; cases hv; exact .bool (e := .var z)
abbrev slC {α : Type} (n : Nat) (c : α → List D) (p : Bool × List α) : List D := [.slm n (some (.var p.1)) c p.2]
theorem opd_slice {α : Type} {P : Program} {t e : TypeId} {n : Nat} {c : α → List D} {ok : α → Prop} (ht : P.underlying t = some (.slice e)) (hn : P.cellsOf e = n) (hpos : 0 < n) (hR : OpD P e c ok) (hc : ∀ a, (c a).length = n) :
    OpD P t (slC n c) (fun p => (p.1 = true → p.2 = []) ∧ (∀ x ∈ p.2, ok x) ∧ p.2.length ≤ maxLen) := fun enc w spare held fuel cs x h => by
  rcases Go.Deep.open_slice ht h with ⟨rfl, _⟩ | ⟨a, len, cap, m, k, D, Pl, rfl, _, hl, hm, hmm, _, hx⟩
  · refine ⟨(true, []), ⟨fun _ => rfl, fun x h => by simp at h, by simp⟩, rfl, fun i d v hd hv => ?_⟩
    match i, hd, hv with
    | 0, hd, hv =>
      cases hd; cases hv
      exact DRep.slm (a := none) (fun _ _ => undef) (fun e he => by cases he; rfl) (Nat.le_refl _) (Nat.zero_le _) (fun x hx => by simp at hx) (fun h => absurd rfl h) (fun i x j d h => by simp at h)
  · have hlm : len ≤ m := by rw [hmm]; split <;> omega
    have e0 : ∀ i, i < m → ∃ z : α, ∃ es, (ok z ∧ es.length = (c z).length ∧ ∀ (i : Nat) d v, (c z)[i]? = some d → es[i]? = some v → DRep w (allE w) d v) ∧ w.cells? 0 (a.add (i * n)) n = some es := fun i hi => by
      obtain ⟨es, h2, h3⟩ := hx i hi
      rw [hn] at h2
      obtain ⟨z, hz⟩ := hR enc w spare held k es _ h3
      exact ⟨z, es, hz, h2⟩
    by_cases h0 : len = 0
    · subst h0
      refine ⟨(false, []), ⟨fun h => by simp at h, fun x h => by simp at h, by simp⟩, rfl, fun i d v hd hv => ?_⟩
      match i, hd, hv with
      | 0, hd, hv =>
        cases hd; cases hv
        exact DRep.slm (a := some a) (fun _ _ => undef) (fun e he => by cases he; rfl) (Nat.zero_le _) hm (fun x hx => by simp at hx) (fun h => absurd rfl h) (fun i x j d h => by simp at h)
    · obtain ⟨z0, _⟩ := e0 0 (by omega)
      have : Inhabited α := ⟨z0⟩
      obtain ⟨z, hz⟩ := Go.Deep.choose_lt e0
      obtain ⟨b, off, spot⟩ := a
      have hspot : spot = none := by
        obtain ⟨es0, _, hc0⟩ := hz 0 (by omega)
        obtain ⟨_, hlen0, hcell0⟩ := World.cells?_some hc0
        have this := hcell0 0 hpos
        rw [List.getElem?_eq_getElem (by omega)] at this
        have h9 := World.cell?_spot this
        simpa [Addr.add] using h9
      subst hspot
      have cell : ∀ i, i < len → ∃ es : List Value, (∀ j, j < n → w.cell? ⟨b, off + i * n + j, none⟩ = es[j]?) ∧ es.length = n ∧ (ok (z i) ∧ es.length = (c (z i)).length ∧ ∀ (j : Nat) d v, (c (z i))[j]? = some d → es[j]? = some v → DRep w (allE w) d v) := fun i hi => by
        obtain ⟨es, hr, hcc⟩ := hz i (by omega)
        obtain ⟨_, hlen, hcell⟩ := World.cells?_some hcc
        refine ⟨es, fun j hj => ?_, hlen, hr⟩
        have := hcell j hj
        rw [add_none, add_none] at this
        exact this
      have hbl : b < w.heap.size := by
        obtain ⟨es, h1, h2, _⟩ := cell 0 (by omega)
        have := h1 0 hpos
        rw [List.getElem?_eq_getElem (by omega)] at this
        exact World.block_lt_of_cell? w ⟨b, _, none⟩ this
      refine ⟨(false, (List.range len).map z), ⟨fun h => by simp at h, fun x hx => ?_, by simp; omega⟩, rfl, fun i d v hd hv => ?_⟩
      · simp only [List.mem_map, List.mem_range] at hx
        obtain ⟨i, hi, rfl⟩ := hx
        obtain ⟨_, _, _, h3, _⟩ := cell i hi
        exact h3
      · match i, hd, hv with
        | 0, hd, hv =>
          cases hd; cases hv
          have hl2 : ((List.range len).map z).length = len := by simp
          have key := DRep.slm (w := w) (E := allE w) (n := n) (nb := some (.var false)) (c := c) (l := (List.range len).map z) (a := some ⟨b, off, none⟩) (cap := cap) (fun i j => (w.cell? ⟨b, off + i * n + j, none⟩).getD undef) (fun e he => by cases he; rfl) (by omega) hm (fun x hx => hc x) (fun _ => ⟨b, off, rfl, hbl, fun i j hi hj => ?_⟩) fun i x j d hx hd => ?_
          · rwa [hl2] at key
          · obtain ⟨es, h1, h2, _⟩ := cell i (by omega)
            rw [h1 j hj, List.getElem?_eq_getElem (by omega)]
            rfl
          · simp only [List.getElem?_map, Option.map_eq_some_iff] at hx
            obtain ⟨i', hi', rfl⟩ := hx
            obtain ⟨hlt, rfl⟩ := List.getElem?_eq_some_iff.1 hi'
            simp only [List.getElem_range] at hd ⊢
            obtain ⟨es, h1, h2, _, h3, h4⟩ := cell i (by simpa using hlt)
            have hj := (List.getElem?_eq_some_iff.1 hd).1
            rw [h1 j (by omega), List.getElem?_eq_getElem (by omega)]
            exact h4 j d _ hd (List.getElem?_eq_getElem (by omega))
section
variable {H : Type} {enc : TypeId × Value → H} {P : Program} {w : World} {spare : Nat → Bool} {held : Bool} {v : Value} {d : DataW H} {p : List MemPlace} {r : Reach} {b0 : Nat} {t : TypeId} {α : Type}
theorem open_sl {e : TypeId} {n : Nat} {c : α → List D} {ok : Bool × List α → Prop} (ht : P.underlying t = some (.slice e)) (ho : OpD P t (slC n c) ok) (hv : Value.okWide P w r b0 t v) (h : DataW.Trod enc P w 0 spare held t v d p) : ∃ p, ok p ∧ DRep w (allE w) (.slm n (some (.var p.1)) c p.2) v := by
  obtain ⟨a, m, k, rfl⟩ := okWide_slice ht hv
  obtain ⟨fuel, hf⟩ := h
  obtain ⟨p, h1, h2, h3⟩ := ho enc w spare held fuel _ _ hf
  exact ⟨p, h1, h3 0 _ _ rfl rfl⟩
theorem open_st {fs : Array Field} {c : α → List D} {ok : α → Prop} (ht : P.underlying t = some (.struct fs)) (ho : OpD P t c ok) (hv : Value.okWide P w r b0 t v) (h : DataW.Trod enc P w 0 spare held t v d p) : ∃ a, ok a ∧ DRep w (allE w) (.agg (c a)) v := by
  obtain ⟨cs, rfl, _⟩ := okWide_struct ht hv
  obtain ⟨fuel, hf⟩ := h
  obtain ⟨a, h1, h2, h3⟩ := ho enc w spare held fuel cs.toList _ hf
  exact ⟨a, h1, .agg (by rw [← h2]; simp) fun i d v hd hv => h3 i d v hd (by simpa using hv)⟩
theorem open_i (ht : P.underlying t = some (.int .i64)) (hv : Value.okWide P w r b0 t v) (h : DataW.Trod enc P w 0 spare held t v d p) : ∃ z, InR .i64 z ∧ DRep w (allE w) (.int .i64 (.var z)) v := by
  obtain ⟨z, rfl, rfl, rfl, wf⟩ := open_int ht hv h
  exact ⟨z, InR.of_wf wf, .int (e := .var z) (InR.of_wf wf)⟩
end
theorem LRep.nil {w : World} {E : Env} : LRep w E [] #[] := ⟨rfl, fun i d v h => by simp at h⟩
theorem lrep_cons {w : World} {E : Env} {d : D} {l : List D} {v : Value} {vs : List Value} (h : DRep w E d v) (r : LRep w E l ⟨vs⟩) : LRep w E (d :: l) ⟨v :: vs⟩ := by
  refine ⟨by have := r.1; simp at this ⊢; omega, fun i d' v' hd hv => ?_⟩
  cases i with
  | zero => simp at hd hv; subst hd hv; exact h
  | succ i => exact r.2 i d' v' (by simpa using hd) (by simpa using hv)
theorem Pure.law {P : Program} {f : Nat} {args : List D} {w : World} {vs : List Value} (h : Pure P f args (.bool (.var true))) (hL : Laid w (allE w).G) (hr : LRep w (allE w) args ⟨vs⟩) : Calls P f ⟨vs⟩ w fun e w' => e = .returned (.bool true) ∧ Below w.heap.size w w' := by
  refine (h.2 w _ _ hL (fun _ hb => hb) hr).mono ?_
  rintro e w' ⟨v, G', rfl, h2, _, _, _, h6⟩
  cases h6
  exact ⟨rfl, h2⟩
theorem open_u8 {H : Type} {enc : TypeId × Value → H} {P : Program} {w : World} {spare : Nat → Bool} {held : Bool} {v : Value} {d : DataW H} {p : List MemPlace} {r : Reach} {b0 : Nat} {t : TypeId} (ht : P.underlying t = some (.int .u8)) (hv : Value.okWide P w r b0 t v) (h : DataW.Trod enc P w 0 spare held t v d p) : ∃ b : BitVec 8, DRep w (allE w) (.int .u8 (.u8 b)) v := by
  obtain ⟨z, rfl, _, _, _⟩ := open_int ht hv h
  obtain ⟨fuel, hf⟩ := h
  obtain ⟨b, _, _, h3⟩ := opd_u8 ht enc w spare held fuel _ _ hf
  exact ⟨b, h3 0 _ _ rfl rfl⟩
end Go.Proofs.YtaopkjgldokahaaDoor
namespace Go.Proofs.YtaopkjgldokahaaDoor
open Go.ChangeShapes Go.WideShapes Go.ChangeAt Go.RowKit

/-! The arguments of the laws, and the laid table. -/
abbrev intsOK (p : Bool × List Int) : Prop := (p.1 = true → p.2 = []) ∧ (∀ x ∈ p.2, True) ∧ p.2.length ≤ maxLen
theorem opd_ints : OpD Tryd.prog 37 (slC 1 intC) intsOK := opd_slice (n := 1) (e := 3) (by kernel_rfl) (by kernel_rfl) (by decide) (opd_int (by kernel_rfl)) (fun _ => rfl)
structure IssuedD.fine (x : IssuedD) : Prop where
  nil : x.nil = true → x.values = []
  len : x.values.length ≤ maxLen
structure SeenD.fine (s : SeenD) : Prop where
  nilf : s.nilf = true → s.fields = []
  lenf : s.fields.length ≤ maxLen
  nilv : s.nilv = true → s.values = []
  lenv : s.values.length ≤ maxLen
set_option maxRecDepth 20000 in
theorem opd_issued : OpD Tryd.prog 47 IssuedD.c IssuedD.fine := fun enc w spare held fuel cs x h => by
  obtain ⟨xs, m, _, _, hl, hlen, hf⟩ := DataW.trod_struct Tryd.underlying47 h
  replace hl : cs.length = 3 := hl.trans (by kernel_rfl)
  replace hlen : xs.length = 3 := hlen
  match cs, hl, hf with
  | [c0, c1, c2], _, hf =>
    have h0 := hf 0 _ rfl
    rw [List.getElem?_eq_getElem (by omega)] at h0
    have h1 := hf 1 _ rfl
    rw [List.getElem?_eq_getElem (by omega)] at h1
    have h2 := hf 2 _ rfl
    rw [List.getElem?_eq_getElem (by omega)] at h2
    obtain ⟨y0, _, _, e0⟩ := opd_int (P := Tryd.prog) (by kernel_rfl) enc w spare held m [c0] _ h0
    obtain ⟨y1, _, _, e1⟩ := opd_int (P := Tryd.prog) (by kernel_rfl) enc w spare held m [c1] _ h1
    obtain ⟨y2, k2, _, e2⟩ := opd_ints enc w spare held m [c2] _ h2
    refine ⟨⟨y0, y1, y2.1, y2.2⟩, ⟨k2.1, k2.2.2⟩, rfl, fun i d v hd hv => ?_⟩
    match i, hd, hv with
    | 0, hd, hv => cases hd; cases hv; exact e0 0 _ _ rfl rfl
    | 1, hd, hv => cases hd; cases hv; exact e1 0 _ _ rfl rfl
    | 2, hd, hv => cases hd; cases hv; exact e2 0 _ _ rfl rfl
set_option maxRecDepth 20000 in
theorem opd_seen : OpD Tryd.prog 49 SeenD.c SeenD.fine := fun enc w spare held fuel cs x h => by
  obtain ⟨xs, m, _, _, hl, hlen, hf⟩ := DataW.trod_struct Tryd.underlying49 h
  replace hl : cs.length = 4 := hl.trans (by kernel_rfl)
  replace hlen : xs.length = 4 := hlen
  match cs, hl, hf with
  | [c0, c1, c2, c3], _, hf =>
    have h0 := hf 0 _ rfl
    rw [List.getElem?_eq_getElem (by omega)] at h0
    have h1 := hf 1 _ rfl
    rw [List.getElem?_eq_getElem (by omega)] at h1
    have h2 := hf 2 _ rfl
    rw [List.getElem?_eq_getElem (by omega)] at h2
    have h3 := hf 3 _ rfl
    rw [List.getElem?_eq_getElem (by omega)] at h3
    obtain ⟨y0, _, _, e0⟩ := opd_int (P := Tryd.prog) (by kernel_rfl) enc w spare held m [c0] _ h0
    obtain ⟨y1, _, _, e1⟩ := opd_int (P := Tryd.prog) (by kernel_rfl) enc w spare held m [c1] _ h1
    obtain ⟨y2, k2, _, e2⟩ := opd_ints enc w spare held m [c2] _ h2
    obtain ⟨y3, k3, _, e3⟩ := opd_ints enc w spare held m [c3] _ h3
    refine ⟨⟨y0, y1, y2.1, y2.2, y3.1, y3.2⟩, ⟨k2.1, k2.2.2, k3.1, k3.2.2⟩, rfl, fun i d v hd hv => ?_⟩
    match i, hd, hv with
    | 0, hd, hv => cases hd; cases hv; exact e0 0 _ _ rfl rfl
    | 1, hd, hv => cases hd; cases hv; exact e1 0 _ _ rfl rfl
    | 2, hd, hv => cases hd; cases hv; exact e2 0 _ _ rfl rfl
    | 3, hd, hv => cases hd; cases hv; exact e3 0 _ _ rfl rfl
theorem opd_issueds : OpD Tryd.prog 22 (slC 3 IssuedD.c) (fun p => (p.1 = true → p.2 = []) ∧ (∀ x ∈ p.2, x.fine) ∧ p.2.length ≤ maxLen) := opd_slice (n := 3) (e := 47) (by kernel_rfl) (by kernel_rfl) (by decide) opd_issued (fun _ => rfl)
structure CoalD.fine (x : CoalD) : Prop where
  nil : x.nil = true → x.l = []
  len : x.l.length ≤ maxLen
theorem opd_coal : OpD Tryd.prog 37 CoalD.c CoalD.fine := fun enc w spare held fuel cs x h => by
  obtain ⟨p, k, h1, h2⟩ := opd_ints enc w spare held fuel cs x h
  exact ⟨⟨p.1, p.2⟩, ⟨k.1, k.2.2⟩, h1, h2⟩
theorem opd_coals : OpD Tryd.prog 23 (slC 1 CoalD.c) (fun p => (p.1 = true → p.2 = []) ∧ (∀ x ∈ p.2, x.fine) ∧ p.2.length ≤ maxLen) := opd_slice (n := 1) (e := 37) (by kernel_rfl) (by kernel_rfl) (by decide) opd_coal (fun _ => rfl)
set_option maxRecDepth 20000 in
theorem opd_tok : OpD Tryd.prog 51 tokC (fun _ => True) := fun enc w spare held fuel cs x h => by
  obtain ⟨xs, m, _, _, hl, hlen, hf⟩ := DataW.trod_array (n := 32) (e := 5) (by kernel_rfl) h
  replace hl : cs.length = 32 := hl.trans (by kernel_rfl)
  have c5 : Tryd.prog.cellsOf 5 = 1 := by kernel_rfl
  have hcell : ∀ i, i < 32 → ∃ z, cs[i]? = some (.int .u8 z) ∧ InR .u8 z := fun i hi => by
    have h0 := hf i hi
    rw [List.getElem?_eq_getElem (by omega), c5] at h0
    obtain ⟨k, e1, e2, e3⟩ := DataW.trod_int Tryd.underlying5 h0
    have e5 := congrArg (·[0]?) e1
    rw [List.getElem?_take, if_pos (by decide), List.getElem?_drop] at e5
    simp at e5
    exact ⟨k, e5, InR.of_wf e3⟩
  refine ⟨fun i => if h : i < 32 then Classical.choose (hcell i h) else 0, trivial, hl, fun i d v hd hv => ?_⟩
  have hi : i < 32 := by have := (List.getElem?_eq_some_iff.1 hv).1; omega
  obtain ⟨q1, q2⟩ := Classical.choose_spec (hcell i hi)
  replace hd : ((List.range 32).map fun j => (.int .u8 (.var (if h : j < 32 then Classical.choose (hcell j h) else 0)) : D))[i]? = some d := hd
  rw [List.getElem?_map, List.getElem?_range hi] at hd
  simp only [Option.map_some, Option.some.injEq] at hd
  subst hd
  rw [q1] at hv
  cases hv
  rw [dif_pos hi]
  exact .int (e := .var _) q2
structure SightD.fine (s : SightD) : Prop where
  seen : s.seen.fine
set_option maxRecDepth 20000 in
theorem opd_sight : OpD Tryd.prog 53 SightD.c SightD.fine := fun enc w spare held fuel cs x h => by
  obtain ⟨xs, m, _, _, hl, hlen, hf⟩ := DataW.trod_struct Tryd.underlying53 h
  replace hl : cs.length = 37 := hl.trans (by kernel_rfl)
  replace hlen : xs.length = 3 := hlen
  have k3 : Tryd.prog.cellsOf 3 = 1 := by kernel_rfl
  have k51 : Tryd.prog.cellsOf 51 = 32 := by kernel_rfl
  have k49 : Tryd.prog.cellsOf 49 = 4 := by kernel_rfl
  have h0 := hf 0 _ rfl
  rw [List.getElem?_eq_getElem (by omega)] at h0
  have h1 := hf 1 _ rfl
  rw [List.getElem?_eq_getElem (by omega)] at h1
  have h2 := hf 2 _ rfl
  rw [List.getElem?_eq_getElem (by omega)] at h2
  obtain ⟨y0, _, l0, e0⟩ := opd_int (P := Tryd.prog) (by kernel_rfl) enc w spare held m _ _ h0
  obtain ⟨y1, _, l1, e1⟩ := opd_tok enc w spare held m _ _ h1
  obtain ⟨y2, q2, l2, e2⟩ := opd_seen enc w spare held m _ _ h2
  replace e0 : ∀ (i : Nat) d v, ([.int .i64 (.var y0)] : List D)[i]? = some d → ((cs.drop 0).take 1)[i]? = some v → DRep w (allE w) d v := fun i d v a b => e0 i d v a (by rw [← k3] at b; exact b)
  replace e1 : ∀ (i : Nat) d v, (tokC y1)[i]? = some d → ((cs.drop 1).take 32)[i]? = some v → DRep w (allE w) d v := fun i d v a b => e1 i d v a (by rw [← k51] at b; exact b)
  replace e2 : ∀ (i : Nat) d v, y2.c[i]? = some d → ((cs.drop 33).take 4)[i]? = some v → DRep w (allE w) d v := fun i d v a b => e2 i d v a (by rw [← k49] at b; exact b)
  refine ⟨⟨y0, y1, y2⟩, ⟨q2⟩, hl, fun i d v hd hv => ?_⟩
  have hi : i < 37 := by have := (List.getElem?_eq_some_iff.1 hv).1; omega
  have hc : SightD.c ⟨y0, y1, y2⟩ = [.int .i64 (.var y0)] ++ (tokC y1 ++ y2.c) := rfl
  rw [hc] at hd
  by_cases a0 : i < 1
  · refine e0 i d v (by rw [List.getElem?_append_left (by simpa using a0)] at hd; exact hd) ?_
    rw [List.getElem?_take, if_pos a0, List.getElem?_drop, Nat.zero_add]
    exact hv
  · rw [List.getElem?_append_right (by simp; omega)] at hd
    by_cases a1 : i < 33
    · refine e1 (i - 1) d v (by rw [List.getElem?_append_left (by simp; omega)] at hd; exact hd) ?_
      rw [List.getElem?_take, if_pos (by omega), List.getElem?_drop, show 1 + (i - 1) = i by omega]
      exact hv
    · rw [List.getElem?_append_right (by simp; omega)] at hd
      refine e2 (i - 33) d v (by simp only [List.length_cons, List.length_nil] at hd; rw [show i - 1 - 32 = i - 33 by omega] at hd; exact hd) ?_
      rw [List.getElem?_take, if_pos (by omega), List.getElem?_drop, show 33 + (i - 33) = i by omega]
      exact hv
theorem opd_sights : OpD Tryd.prog 24 (slC 37 SightD.c) (fun p => (p.1 = true → p.2 = []) ∧ (∀ x ∈ p.2, x.fine) ∧ p.2.length ≤ maxLen) := opd_slice (n := 37) (e := 53) (by kernel_rfl) (by kernel_rfl) (by decide) opd_sight (fun _ => rfl)
abbrev u8C (b : BitVec 8) : List D := [.int .u8 (.u8 b)]
theorem opd_u8s : OpD Tryd.prog 44 (slC 1 u8C) (fun p => (p.1 = true → p.2 = []) ∧ (∀ x ∈ p.2, True) ∧ p.2.length ≤ maxLen) := opd_slice (n := 1) (e := 5) (by kernel_rfl) (by kernel_rfl) (by decide) (opd_u8 (by kernel_rfl)) (fun _ => rfl)
theorem maxLen_eq : maxLen = 9223372036854775807 := by unfold maxLen; rfl
abbrev laidR {H : Type} : List (String × DataW H) := [("math/bits.deBruijn64tab", Rows.laid_math_bits_deBruijn64tab)]
theorem gTab : Tryd.prog.globalNamed "math/bits.deBruijn64tab" = some 0 := by kernel_rfl
theorem tTab : (Tryd.prog.globals[0]?).map (·.type) = some 139 := by kernel_rfl
theorem uTab : Tryd.prog.underlying 139 = some (.array 64 5) := by kernel_rfl
theorem door_met (os : Os) (args : Array Value) : laidMetH Tryd.prog laidR ((World.doorLaid Tryd.prog 400 os).forCall (fun _ _ => 0) ⟨#[], args, []⟩).memory :=
  laidMetH_of_parts3 (fuel := 8) (laidMet_of_run' 8 (by kernel_rfl) (by kernel_rfl)) (by kernel_rfl) (by kernel_rfl)
theorem tab_list {H : Type} : (Rows.laid_math_bits_deBruijn64tab : DataW H) = .agg ((List.range 64).map fun i => .lit (.int .u8 (bruijn i))) := rfl
set_option maxRecDepth 20000 in
/-- what the condition gives: the table lies in block 0 -/
theorem of_laid {W : World} (h : laidMetH Tryd.prog laidR W) : Laid W (allE W).G := by
  rw [MakeChecks.laidMetH_plain _ _ _ (by kernel_rfl)] at h
  obtain ⟨ps, ⟨g0, t0, cs0, f0, p0, q0, hg0, ht0, hv0, hd0, _⟩, _, _⟩ := h
  obtain rfl := Option.some.inj (gTab.symm.trans hg0)
  obtain rfl := Option.some.inj (tTab.symm.trans ht0)
  obtain ⟨xs, m1, rfl, hx1, hlen, hn3, hel⟩ := DataW.trod_array uTab hd0
  have c5 : Tryd.prog.cellsOf 5 = 1 := by kernel_rfl
  replace hlen : cs0.toList.length = 64 := hlen.trans (by kernel_rfl)
  simp only [Prod.mk.injEq] at hx1
  have hx2 := hx1.1
  rw [tab_list] at hx2
  simp only [DataW.agg.injEq] at hx2
  have hcell : ∀ i, i < 64 → cs0[i]? = some (.int .u8 (bruijn i)) ∧ InR .u8 (bruijn i) := fun i hi => by
    have h0 := hel i hi
    rw [List.getElem?_eq_getElem (by omega), c5] at h0
    obtain ⟨k, e1, e2, e3⟩ := DataW.trod_int Tryd.underlying5 h0
    have e4 := congrArg (·[i]?) hx2
    simp only [List.getElem?_map, List.getElem?_range hi, Option.map_some] at e4
    rw [List.getElem?_eq_getElem (by omega)] at e4
    simp only [Option.map_some, Option.some.injEq] at e4
    rw [e2] at e4
    simp only [DataW.lit.injEq, Lit.int.injEq, true_and] at e4
    subst e4
    have e5 := congrArg (·[0]?) e1
    rw [List.getElem?_take, if_pos (by decide), List.getElem?_drop] at e5
    simp at e5
    refine ⟨e5, ?_⟩
    unfold Lit.wf at e3
    simp only [Bool.and_eq_true, decide_eq_true_eq] at e3
    exact e3
  intro p hp
  simp only [laidL, List.mem_singleton] at hp
  subst hp
  have hsz : 0 < W.heap.size := by
    have := World.var?_cell gTab hv0 0
    rw [(hcell 0 (by decide)).1] at this
    refine Nat.lt_of_not_le fun q => ?_
    have hn : W.heap[0]? = none := Array.getElem?_eq_none (by omega)
    unfold World.cell? at this
    rw [hn] at this
    cases this
  refine DRep.dpa (base := 0) hsz fun i hi => ?_
  obtain ⟨q1, q2⟩ := hcell i hi
  refine ⟨?_, q2⟩
  rw [Nat.zero_add, World.var?_cell gTab hv0]
  exact q1
end Go.Proofs.YtaopkjgldokahaaDoor
namespace Go.Proofs.YtaopkjgldokahaaDoor
open Go.RowKit

/-! What the laws call, at an account that is kept. -/
structure Kept (I : List IssuedD) (C : List CoalD) (T : List SightD) : Prop where
  bi : BigI I
  il : I.length ≤ 64
  cl : C.length ≤ 10
  cx : ∀ x ∈ C, x.l.length ≤ 10
  bt : BigV T
  tl : T.length ≤ 16
  ok : okT I C T
theorem kept_of {I : List IssuedD} {C : List CoalD} {S : List SightD} (h : fewL I C S = true) (he : newE I C = 0) : Kept I C (keepT I [] S) := by
  obtain ⟨h1, h2, h3, h4, h5, h6⟩ := fewL_big h
  obtain ⟨_, k2⟩ := kept_form (ni := true) (nc := true) (S := S) he
  exact ⟨h1, by omega, h3, h4, bigV_sub h5 (kept_sub I S), k2.2.2.2, k2⟩
theorem setsL_get {I : List IssuedD} {T : List SightD} {C : List CoalD} {i : Nat} {c : CoalD} {z : GrpsD} (hc : C[i]? = some c) (hz : (setsL I T C)[i]? = some z) : z.l = groupsL I T c.l := by
  unfold setsL at hz
  rw [List.getElem?_map, hc] at hz
  cases hz
  rfl
theorem groupsL_get {I : List IssuedD} {T : List SightD} {c : List Int} {g : Nat} {y : GroupD} (h : (groupsL I T c)[g]? = some y) : y.group = (g : Int) ∧ y.persons = ofA I (viewL c T) (g : Int) := by
  unfold groupsL at h
  have hg : g < manyL c T := by have := (List.getElem?_eq_some_iff.1 h).1; simpa using this
  rw [List.getElem?_map, List.getElem?_range hg] at h
  cases h
  exact ⟨rfl, rfl⟩
theorem groupsL_len (I : List IssuedD) (T : List SightD) (c : List Int) : (groupsL I T c).length = manyL c T := by unfold groupsL; simp
theorem setsL_len (I : List IssuedD) (T : List SightD) (C : List CoalD) : (setsL I T C).length = C.length := by unfold setsL; simp
theorem ofA_len {I : List IssuedD} (hI : I.length ≤ 1000000) (V : List SeenD) (g : Int) : (ofA I V g).length < 9223372036854775807 := by
  unfold ofA
  split
  · unfold ofR
    have h1 := List.length_filter_le (fun p => !(firstR I V g p V.length []).isNone) (peopleL I)
    have h2 := people_len I I.length
    rw [List.take_of_length_le (Nat.le_refl _)] at h2
    omega
  · simp
end Go.Proofs.YtaopkjgldokahaaDoor
namespace Go.Proofs.YtaopkjgldokahaaDoor
open Go.RowKit

/-! Laws of Of and Any, in plain words. -/
theorem of_mem {I : List IssuedD} {S : List SeenD} {g p : Int} : p ∈ ofR I S g ↔ p ∈ peopleL I ∧ Ext I S g p [] := by
  unfold ofR
  rw [List.mem_filter, ← first_iff S.length [] (by simp) (good_nil _ _ _ _)]
  cases firstR I S g p S.length [] <;> simp
theorem ext_way {I : List IssuedD} {S : List SeenD} {g p : Int} : Ext I S g p [] ↔ ∃ f, Way I S f ∧ ∀ j, j < S.length → 0 ≤ p → groupS S j = g → personI I (f j : Int) = p := by
  rw [ext_iff (Nat.zero_le _)]
  constructor
  · rintro ⟨f, h1, h2, _⟩; exact ⟨f, h1, h2⟩
  · rintro ⟨f, h1, h2⟩; exact ⟨f, h1, h2, fun j hj => by simp at hj⟩
theorem any_way {I : List IssuedD} {S : List SeenD} : (firstR I S 0 (-1) S.length []).isSome = true ↔ ∃ f, Way I S f := by
  rw [first_iff S.length [] (by simp) (good_nil _ _ _ _), ext_way]
  constructor
  · rintro ⟨f, h1, _⟩; exact ⟨f, h1⟩
  · rintro ⟨f, h1⟩; exact ⟨f, h1, fun j _ q => by omega⟩
theorem person_mem {I : List IssuedD} {c : Nat} (hc : c < I.length) : personI I (c : Int) ∈ peopleL I := by
  refine (people_mem _ _).2 ⟨I[c], List.getElem_mem _, ?_⟩
  unfold personI
  rw [Int.toNat_natCast, List.getElem?_eq_getElem hc]
theorem occ_iff {S : List SeenD} {g : Int} : occB g S = true ↔ ∃ j, j < S.length ∧ groupS S j = g := by
  unfold occB
  rw [List.any_eq_true]
  constructor
  · rintro ⟨s, hs, hg⟩
    obtain ⟨j, hj, rfl⟩ := List.getElem_of_mem hs
    refine ⟨j, hj, ?_⟩
    unfold groupS
    rw [List.getElem?_eq_getElem hj]
    simpa using hg
  · rintro ⟨j, hj, hg⟩
    refine ⟨S[j], List.getElem_mem _, ?_⟩
    unfold groupS at hg
    rw [List.getElem?_eq_getElem hj] at hg
    simpa using hg
/-- a person is possible just where some way says so -/
theorem of_way {I : List IssuedD} {S : List SeenD} {g p : Int} (ho : occB g S = true) (hI : ∀ x ∈ I, 0 ≤ x.person) : p ∈ ofR I S g ↔ ∃ f, Way I S f ∧ ∀ j, j < S.length → groupS S j = g → personI I (f j : Int) = p := by
  rw [of_mem, ext_way]
  constructor
  · rintro ⟨hp, f, h1, h2⟩
    obtain ⟨x, hx, rfl⟩ := (people_mem I p).1 hp
    exact ⟨f, h1, fun j hj hg => h2 j hj (hI x hx) hg⟩
  · rintro ⟨f, h1, h2⟩
    obtain ⟨j, hj, hg⟩ := occ_iff.1 ho
    refine ⟨?_, f, h1, fun j hj _ hg => h2 j hj hg⟩
    rw [← h2 j hj hg]
    exact person_mem (opt_iff.1 (h1.opt j hj)).1
theorem of_any {I : List IssuedD} {S : List SeenD} {g : Int} (ho : occB g S = true) (hI : ∀ x ∈ I, 0 ≤ x.person) : decide (0 < (ofR I S g).length) = (firstR I S 0 (-1) S.length []).isSome := by
  rw [Bool.eq_iff_iff, decide_eq_true_eq, any_way]
  constructor
  · intro h
    cases hl : ofR I S g with
    | nil => rw [hl] at h; simp at h
    | cons p l =>
      have hp : p ∈ ofR I S g := by rw [hl]; simp
      obtain ⟨f, h1, _⟩ := (of_way ho hI).1 hp
      exact ⟨f, h1⟩
  · rintro ⟨f, hf⟩
    obtain ⟨j, hj, hg⟩ := occ_iff.1 ho
    have hp : personI I (f j : Int) ∈ ofR I S g := (of_way ho hI).2 ⟨f, hf, fun i hi hgi => hf.grp i j hi hj (by rw [hgi, hg])⟩
    cases hl : ofR I S g with
    | nil => rw [hl] at hp; cases hp
    | cons p l => simp
end Go.Proofs.YtaopkjgldokahaaDoor
namespace Go.Proofs.YtaopkjgldokahaaDoor
open Go.RowKit

/-! What a coalition concludes, in plain words: ways over sights. -/
def viewS (V : List SightD) : List SeenD := (List.range V.length).map (viewAt V)
theorem viewL_eq (c : List Int) (T : List SightD) : viewL c T = viewS (sightsL31 c T) := rfl
theorem viewS_len (V : List SightD) : (viewS V).length = V.length := by simp [viewS]
theorem viewS_get {V : List SightD} {j : Nat} (h : j < V.length) : (viewS V)[j]? = some (viewAt V j) := by
  unfold viewS
  rw [List.getElem?_map, List.getElem?_range h]
  rfl
theorem groupS_view {V : List SightD} {j : Nat} (h : j < V.length) : groupS (viewS V) j = (cntR (leadOf V) (leadOf V j) : Int) := by
  unfold groupS
  rw [viewS_get h]
  rfl
def optV (I : List IssuedD) (V : List SightD) (j c : Nat) : Bool := match I[c]? with
  | some x => fitsB x (getS V j).seen
  | none => false
theorem opt_view {I : List IssuedD} {V : List SightD} {j c : Nat} (h : j < V.length) : optO I (viewS V) j c = optV I V j c := by
  unfold optO optV
  rw [viewS_get h]
  cases I[c]? with
  | none => rfl
  | some x => rfl
theorem cnt_mono (r : Nat → Nat) {i j : Nat} (h : i ≤ j) : cntR r i ≤ cntR r j := by
  induction h with
  | refl => exact Nat.le_refl _
  | step h ih =>
    rw [cntR_succ]
    split <;> omega
theorem cnt_lt {r : Nat → Nat} {i j : Nat} (h : i < j) (hi : r i = i) : cntR r i < cntR r j := by
  have h1 := cnt_mono r (show i + 1 ≤ j from h)
  rw [cntR_succ, if_pos hi] at h1
  omega
theorem cnt_inj {V : List SightD} {a b : Nat} (h : cntR (leadOf V) (leadOf V a) = cntR (leadOf V) (leadOf V b)) : leadOf V a = leadOf V b := by
  have hl := lead_led V
  rcases Nat.lt_trichotomy (leadOf V a) (leadOf V b) with q | q | q
  · have := cnt_lt q (hl.self a); omega
  · exact q
  · have := cnt_lt q (hl.self b); omega
theorem group_lt {V : List SightD} {k : Nat} (h : k < V.length) : cntR (leadOf V) (leadOf V k) < cntR (leadOf V) V.length := by
  have hl := lead_led V
  exact cnt_lt (by have := hl.le k; omega) (hl.self k)
theorem group_iff {V : List SightD} {a b : Nat} (ha : a < V.length) (hb : b < V.length) : groupS (viewS V) a = groupS (viewS V) b ↔ leadOf V a = leadOf V b := by
  rw [groupS_view ha, groupS_view hb]
  exact ⟨fun h => cnt_inj (by omega), fun h => by rw [h]⟩
/-- each sight gets a copy: distinct ones, of one person in a class -/
structure WayV (I : List IssuedD) (V : List SightD) (f : Nat → Nat) : Prop where
  opt : ∀ j, j < V.length → optV I V j (f j) = true
  inj : ∀ a b, a < V.length → b < V.length → f a = f b → a = b
  grp : ∀ a b, a < V.length → b < V.length → leadOf V a = leadOf V b → personI I (f a : Int) = personI I (f b : Int)
theorem way_view {I : List IssuedD} {V : List SightD} {f : Nat → Nat} : Way I (viewS V) f ↔ WayV I V f := by
  constructor
  · intro h
    exact ⟨fun j hj => by rw [← opt_view hj]; exact h.opt j (by rw [viewS_len]; exact hj), fun a b ha hb => h.inj a b (by rw [viewS_len]; exact ha) (by rw [viewS_len]; exact hb),
      fun a b ha hb q => h.grp a b (by rw [viewS_len]; exact ha) (by rw [viewS_len]; exact hb) ((group_iff ha hb).2 q)⟩
  · intro h
    exact ⟨fun j hj => by rw [viewS_len] at hj; rw [opt_view hj]; exact h.opt j hj, fun a b ha hb => h.inj a b (by rw [viewS_len] at ha; exact ha) (by rw [viewS_len] at hb; exact hb),
      fun a b ha hb q => by rw [viewS_len] at ha hb; exact h.grp a b ha hb ((group_iff ha hb).1 q)⟩
/-- the persons that a sight may be of -/
theorem of_view {I : List IssuedD} {V : List SightD} {k : Nat} {p : Int} (hI : ∀ x ∈ I, 0 ≤ x.person) (hk : k < V.length) :
    p ∈ ofR I (viewS V) (cntR (leadOf V) (leadOf V k) : Int) ↔ ∃ f, WayV I V f ∧ personI I (f k : Int) = p := by
  have ho : occB (cntR (leadOf V) (leadOf V k) : Int) (viewS V) = true := occ_iff.2 ⟨k, by rw [viewS_len]; exact hk, groupS_view hk⟩
  rw [of_way ho hI]
  constructor
  · rintro ⟨f, h1, h2⟩
    exact ⟨f, way_view.1 h1, h2 k (by rw [viewS_len]; exact hk) (groupS_view hk)⟩
  · rintro ⟨f, h1, h2⟩
    refine ⟨f, way_view.2 h1, fun j hj hg => ?_⟩
    rw [viewS_len] at hj
    rw [groupS_view hj] at hg
    rw [← h2]
    exact h1.grp j k hj hk (cnt_inj (by omega))
/-- fewer sights -/
structure Emb (V V' : List SightD) (t : Nat → Nat) : Prop where
  lt : ∀ j, j < V.length → t j < V'.length
  get : ∀ j, j < V.length → getS V' (t j) = getS V j
  inj : ∀ a b, a < V.length → b < V.length → t a = t b → a = b
theorem conn_lt {V : List SightD} {a b : Nat} (h : Conn (adjV V) a b) (ha : a < V.length) : b < V.length := by
  cases h with
  | refl => exact ha
  | step _ hj => exact hj.2.1
theorem Emb.lead {V V' : List SightD} {t : Nat → Nat} (h : Emb V V' t) {a b : Nat} (hab : leadOf V a = leadOf V b) : leadOf V' (t a) = leadOf V' (t b) := by
  have h1 := ((lead_led V).iff a b).1 hab
  refine ((lead_led V').iff _ _).2 ?_
  clear hab
  induction h1 with
  | refl => exact .refl _
  | @step b c h1 hj ih =>
    refine .step ih ?_
    exact ⟨h.lt _ hj.1, h.lt _ hj.2.1, by rw [h.get _ hj.1, h.get _ hj.2.1]; exact hj.2.2⟩
theorem WayV.less {I : List IssuedD} {V V' : List SightD} {t f : Nat → Nat} (h : Emb V V' t) (hw : WayV I V' f) : WayV I V fun j => f (t j) := by
  refine ⟨fun j hj => ?_, fun a b ha hb q => h.inj a b ha hb (hw.inj _ _ (h.lt a ha) (h.lt b hb) q), fun a b ha hb q => hw.grp _ _ (h.lt a ha) (h.lt b hb) (h.lead q)⟩
  have := hw.opt (t j) (h.lt j hj)
  unfold optV at this ⊢
  rw [h.get j hj] at this
  exact this
theorem of_less31 {I : List IssuedD} {V V' : List SightD} {t : Nat → Nat} (h : Emb V V' t) (hI : ∀ x ∈ I, 0 ≤ x.person) {k : Nat} (hk : k < V.length) {p : Int} (hp : p ∈ ofR I (viewS V') (cntR (leadOf V') (leadOf V' (t k)) : Int)) :
    p ∈ ofR I (viewS V) (cntR (leadOf V) (leadOf V k) : Int) := by
  obtain ⟨f, h1, h2⟩ := (of_view hI (h.lt k hk)).1 hp
  exact (of_view hI hk).2 ⟨_, h1.less h, h2⟩
theorem iss_person31 {I : List IssuedD} {S : List SeenD} (h : checkB I S = true) : ∀ x ∈ I, 0 ≤ x.person := fun x hx => by
  unfold checkB at h
  simp only [Bool.and_eq_true, List.all_eq_true] at h
  have := h.2.1 x hx
  unfold issB at this
  simp only [Bool.and_eq_true, decide_eq_true_eq] at this
  omega
/-- a list within a list of the people -/
theorem ofR_sub {I : List IssuedD} {S S' : List SeenD} {g g' : Int} (h : ∀ p, p ∈ ofR I S' g' → p ∈ ofR I S g) : (ofR I S' g').length ≤ (ofR I S g).length := by
  have h1 : (ofR I S' g').Nodup := ((people_sorted I).imp fun h => (by omega : _ ≠ _)).filter _
  exact h1.length_le_of_subset h
end Go.Proofs.YtaopkjgldokahaaDoor
namespace Go.Proofs.YtaopkjgldokahaaDoor
open Go.RowKit

/-! The least set; a further sight. -/
/-- a great region whose front is known -/
theorem DrawP.front {P : Program} {cx : Cx} {ops : Array Oper} {fr : Fr} {H : List Bk} {K : Fr → List Bk → Prop} (n : Nat) (hok : drawOK ops = true) (hn : frontLenA ops = n)
    (h : vopsq P cx ops (ops.toList.take n) fr H fun fr H => vops P cx ops (ops.toList.drop n) fr H K) :
    DrawP ops fun _ => vopsq P cx ops (ops.toList.take (frontLenA ops)) fr H fun fr H => vops P cx ops (ops.toList.drop (frontLenA ops)) fr H K := ⟨hok, by rw [hn]; exact h⟩
theorem leastG_le (n : Int) : ∀ (l : List GroupD) (n : Int), leastG n l ≤ n
  | [], _ => Int.le_refl _
  | g :: l, n => by
    have := leastG_le n l (min n (g.persons.length : Int))
    unfold leastG at this ⊢
    rw [List.foldl_cons]
    omega
theorem leastG_mem : ∀ (l : List GroupD) (n : Int) (g : GroupD), g ∈ l → leastG n l ≤ (g.persons.length : Int)
  | x :: l, n, g, h => by
    have h0 : leastG n (x :: l) = leastG (min n (x.persons.length : Int)) l := rfl
    rw [h0]
    rcases List.mem_cons.1 h with rfl | h
    · have := leastG_le 0 l (min n (g.persons.length : Int))
      omega
    · exact leastG_mem l _ g h
theorem leastG_ge {m : Int} : ∀ (l : List GroupD) (n : Int), m ≤ n → (∀ g ∈ l, m ≤ (g.persons.length : Int)) → m ≤ leastG n l
  | [], _, h, _ => h
  | x :: l, n, h, h2 => by
    have h0 : leastG n (x :: l) = leastG (min n (x.persons.length : Int)) l := rfl
    rw [h0]
    exact leastG_ge l _ (by have := h2 x (by simp); omega) fun g hg => h2 g (by simp [hg])
theorem leastX_le : ∀ (l : List GrpsD) (n : Int), l.foldl (fun n x => leastG n x.l) n ≤ n
  | [], _ => Int.le_refl _
  | x :: l, n => by
    rw [List.foldl_cons]
    have h1 := leastX_le l (leastG n x.l)
    have h2 := leastG_le 0 x.l n
    omega
theorem leastX_mem : ∀ (l : List GrpsD) (n : Int) (x : GrpsD) (g : GroupD), x ∈ l → g ∈ x.l → l.foldl (fun n x => leastG n x.l) n ≤ (g.persons.length : Int)
  | y :: l, n, x, g, hx, hg => by
    rw [List.foldl_cons]
    rcases List.mem_cons.1 hx with rfl | hx
    · have h1 := leastX_le l (leastG n x.l)
      have h2 := leastG_mem x.l n g hg
      omega
    · exact leastX_mem l _ x g hx hg
theorem leastX_ge {m : Int} : ∀ (l : List GrpsD) (n : Int), m ≤ n → (∀ x ∈ l, ∀ g ∈ x.l, m ≤ (g.persons.length : Int)) → m ≤ l.foldl (fun n x => leastG n x.l) n
  | [], _, h, _ => h
  | x :: l, n, h, h2 => by
    rw [List.foldl_cons]
    exact leastX_ge l _ (leastG_ge x.l n h (h2 x (by simp))) fun y hy => h2 y (by simp [hy])
/-- the number of the group of a sight that a coalition sees -/
def numOf (V : List SightD) (k : Nat) : Nat := cntR (leadOf V) (leadOf V k)
theorem view_group {c : List Int} {T : List SightD} {k : Nat} {u : SeenD} (h : (viewL c T)[k]? = some u) : u.group = (numOf (sightsL31 c T) k : Int) ∧ numOf (sightsL31 c T) k < manyL c T := by
  have hk : k < (sightsL31 c T).length := by have := (List.getElem?_eq_some_iff.1 h).1; rw [viewL_eq, viewS_len] at this; exact this
  rw [viewL_eq, viewS_get hk] at h
  cases h
  exact ⟨rfl, group_lt hk⟩
theorem ofA_view {I : List IssuedD} {T : List SightD} {c : List Int} {g : Nat} (h : checkB I (viewsL T) = true) (hg : g < manyL c T) : ofA I (viewL c T) (g : Int) = ofR I (viewS (sightsL31 c T)) (g : Int) := by
  unfold ofA
  rw [view_okOf h hg, if_pos rfl]
  rfl
theorem emb_more (c : List Int) (T : List SightD) (s : SightD) : Emb (sightsL31 c T) (sightsL31 c (T ++ [s])) fun j => j := by
  have e : sightsL31 c (T ++ [s]) = sightsL31 c T ++ sightsL31 c [s] := by
    unfold sightsL31
    rw [List.filter_append]
  refine ⟨fun j hj => by rw [e, List.length_append]; omega, fun j hj => ?_, fun a b _ _ h => h⟩
  unfold getS
  rw [e, List.getElem?_append_left hj]
theorem within_iff {a b : List Int} : withinL a b = true ↔ ∀ p ∈ a, p ∈ b := by
  unfold withinL
  simp
/-- a further sight adds nobody -/
theorem narrow_within {I : List IssuedD} {T : List SightD} {s : SightD} {c : List Int} {k : Nat} (h : checkB I (viewsL T) = true) (h' : checkB I (viewsL (T ++ [s])) = true) (hk : k < (sightsL31 c T).length) :
    withinL (ofA I (viewL c (T ++ [s])) (numOf (sightsL31 c (T ++ [s])) k : Int)) (ofA I (viewL c T) (numOf (sightsL31 c T) k : Int)) = true := by
  have he := emb_more c T s
  have hk' := he.lt k hk
  have g1 : numOf (sightsL31 c T) k < manyL c T := group_lt hk
  have g2 : numOf (sightsL31 c (T ++ [s])) k < manyL c (T ++ [s]) := group_lt hk'
  rw [ofA_view h g1, ofA_view h' g2, within_iff]
  exact fun p hp => of_less31 he (iss_person31 h) hk hp
theorem least_narrow {I : List IssuedD} {T : List SightD} {s : SightD} {C : List CoalD} (h : checkB I (viewsL T) = true) (h' : checkB I (viewsL (T ++ [s])) = true) : leastL (setsL I (T ++ [s]) C) ≤ leastL (setsL I T C) := by
  unfold leastL
  refine leastX_ge _ _ (leastX_le _ _) fun x hx g hg => ?_
  unfold setsL at hx
  obtain ⟨c, hc, rfl⟩ := List.mem_map.1 hx
  unfold grpsOf groupsL at hg
  obtain ⟨n, hn, rfl⟩ := List.mem_map.1 hg
  have hn2 := List.mem_range.1 hn
  obtain ⟨k, h1, h2, h3⟩ := cnt_hit _ _ _ hn2
  have hk : k < (sightsL31 c.l T).length := h1
  have he := emb_more c.l T s
  have hk' := he.lt k hk
  have hnum : n = numOf (sightsL31 c.l T) k := by unfold numOf; rw [h2]; exact h3.symm
  have hle : (ofA I (viewL c.l (T ++ [s])) (numOf (sightsL31 c.l (T ++ [s])) k : Int)).length ≤ (ofA I (viewL c.l T) (n : Int)).length := by
    have g1 : numOf (sightsL31 c.l T) k < manyL c.l T := group_lt hk
    have g2 : numOf (sightsL31 c.l (T ++ [s])) k < manyL c.l (T ++ [s]) := group_lt hk'
    rw [hnum, ofA_view h g1, ofA_view h' g2]
    exact ofR_sub fun p hp => of_less31 he (iss_person31 h) hk hp
  have hmem := leastX_mem (setsL I (T ++ [s]) C) 4096 (grpsOf I (T ++ [s]) c) (groupOf I (viewL c.l (T ++ [s])) (numOf (sightsL31 c.l (T ++ [s])) k)) (List.mem_map.2 ⟨c, hc, rfl⟩) (by
    unfold grpsOf groupsL
    exact List.mem_map.2 ⟨_, List.mem_range.2 (group_lt hk'), rfl⟩)
  have hpl : (groupOf I (viewL c.l (T ++ [s])) (numOf (sightsL31 c.l (T ++ [s])) k)).persons.length = (ofA I (viewL c.l (T ++ [s])) (numOf (sightsL31 c.l (T ++ [s])) k : Int)).length := rfl
  rw [hpl] at hmem
  show _ ≤ ((ofA I (viewL c.l T) (n : Int)).length : Int)
  omega
end Go.Proofs.YtaopkjgldokahaaDoor
namespace Go.Proofs.YtaopkjgldokahaaDoor
open Go.RowKit

/-! A further round. -/
theorem sorted_ext {a b : List Int} (ha : a.Pairwise (· < ·)) (hb : b.Pairwise (· < ·)) (h : ∀ p, p ∈ a ↔ p ∈ b) : a = b := by
  have n1 : a.Nodup := ha.imp fun h => by omega
  have n2 : b.Nodup := hb.imp fun h => by omega
  exact ((List.perm_ext_iff_of_nodup n1 n2).2 h).eq_of_pairwise (fun x y _ _ h1 h2 => by omega) ha hb
theorem ofR_sorted (I : List IssuedD) (S : List SeenD) (g : Int) : (ofR I S g).Pairwise (· < ·) := (people_sorted I).filter _
theorem opt_round {I l : List IssuedD} {V : List SightD} {j c : Nat} (hj : j < V.length) (hr : ∀ y ∈ l, (getS V j).seen.round ≠ y.round) : optV (I ++ l) V j c = true ↔ optV I V j c = true := by
  unfold optV
  by_cases hc : c < I.length
  · rw [List.getElem?_append_left hc]
  · rw [List.getElem?_append_right (by omega), List.getElem?_eq_none (l := I) (by omega)]
    cases h : l[c - I.length]? with
    | none => simp
    | some y =>
      have hne := hr y (List.mem_of_getElem? h)
      simp only [fitsB, Bool.and_eq_true, decide_eq_true_eq]
      constructor
      · intro q
        exact absurd q.1.1.symm hne
      · intro q
        cases q
theorem opt_lt {I : List IssuedD} {V : List SightD} {j c : Nat} (h : optV I V j c = true) : c < I.length := by
  unfold optV at h
  by_cases hc : c < I.length
  · exact hc
  · rw [List.getElem?_eq_none (by omega)] at h
    cases h
theorem person_app {I l : List IssuedD} {c : Nat} (h : c < I.length) : personI (I ++ l) (c : Int) = personI I (c : Int) := by
  unfold personI
  rw [Int.toNat_natCast, List.getElem?_append_left h]
theorem way_round {I l : List IssuedD} {V : List SightD} {f : Nat → Nat} (hr : ∀ j, j < V.length → ∀ y ∈ l, (getS V j).seen.round ≠ y.round) : WayV (I ++ l) V f ↔ WayV I V f := by
  constructor
  · intro h
    have ho : ∀ j, j < V.length → optV I V j (f j) = true := fun j hj => (opt_round hj (hr j hj)).1 (h.opt j hj)
    exact ⟨ho, h.inj, fun a b ha hb q => by have := h.grp a b ha hb q; rwa [person_app (opt_lt (ho a ha)), person_app (opt_lt (ho b hb))] at this⟩
  · intro h
    exact ⟨fun j hj => (opt_round hj (hr j hj)).2 (h.opt j hj), h.inj, fun a b ha hb q => by rw [person_app (opt_lt (h.opt a ha)), person_app (opt_lt (h.opt b hb))]; exact h.grp a b ha hb q⟩
theorem ofA_round {I l : List IssuedD} {T : List SightD} {c : List Int} {g : Nat} (h : checkB I (viewsL T) = true) (h' : checkB (I ++ l) (viewsL T) = true) (hr : ∀ s ∈ T, ∀ y ∈ l, s.seen.round ≠ y.round) (hg : g < manyL c T) :
    ofA (I ++ l) (viewL c T) (g : Int) = ofA I (viewL c T) (g : Int) := by
  rw [ofA_view h hg, ofA_view h' hg]
  refine sorted_ext (ofR_sorted _ _ _) (ofR_sorted _ _ _) fun p => ?_
  obtain ⟨k, h1, h2, h3⟩ := cnt_hit _ _ _ hg
  have hk : k < (sightsL31 c T).length := h1
  have hnum : (g : Int) = (cntR (leadOf (sightsL31 c T)) (leadOf (sightsL31 c T) k) : Int) := by rw [h2, h3]
  have hrV : ∀ j, j < (sightsL31 c T).length → ∀ y ∈ l, (getS (sightsL31 c T) j).seen.round ≠ y.round := fun j hj y hy => by
    have hm : getS (sightsL31 c T) j ∈ sightsL31 c T := by simp [getS, hj]
    exact hr _ (List.mem_filter.1 hm).1 y hy
  rw [hnum, of_view (iss_person31 h) hk, of_view (iss_person31 h') hk]
  constructor
  · rintro ⟨f, q1, q2⟩
    have q3 := (way_round hrV).1 q1
    exact ⟨f, q3, by rw [← q2, person_app (opt_lt (q3.opt k hk))]⟩
  · rintro ⟨f, q1, q2⟩
    exact ⟨f, (way_round hrV).2 q1, by rw [← q2, person_app (opt_lt (q1.opt k hk))]⟩
theorem sets_round {I l : List IssuedD} {T : List SightD} {C : List CoalD} (h : checkB I (viewsL T) = true) (h' : checkB (I ++ l) (viewsL T) = true) (hr : ∀ s ∈ T, ∀ y ∈ l, s.seen.round ≠ y.round) : setsL (I ++ l) T C = setsL I T C := by
  unfold setsL
  refine List.map_congr_left fun c _ => ?_
  have hg : groupsL (I ++ l) T c.l = groupsL I T c.l := by
    unfold groupsL
    refine List.map_congr_left fun n hn => ?_
    unfold groupOf
    rw [ofA_round h h' hr (List.mem_range.1 hn)]
  unfold grpsOf
  rw [hg]
theorem issue_acct {ni : Bool} {I : List IssuedD} {nc : Bool} {C : List CoalD} {T : List SightD} {l : List IssuedD} (h : okT I C T) :
    (issueE (acctT ni I nc C T) l = 0 → checkB (I ++ l) (viewsL T) = true ∧ issueA (acctT ni I nc C T) l = ⟨ni && decide (l.length = 0), I ++ l, nc, C, decide (T.length = 0), T, C.isEmpty, setsL (I ++ l) T C⟩) ∧ (issueE (acctT ni I nc C T) l ≠ 0 → issueA (acctT ni I nc C T) l = zeroA) := by
  have hc := check_acct (ni := ni) (nc := nc) h
  refine ⟨fun he => ⟨?_, ?_⟩, fun he => ?_⟩
  · unfold issueE at he
    rw [if_pos hc] at he
    split at he
    · split at he
      · next q => exact q
      · cases he
    · cases he
  · unfold issueA
    rw [if_pos he]
    rfl
  · unfold issueA
    rw [if_neg he]
theorem issue_fit {ni : Bool} {I : List IssuedD} {nc : Bool} {C : List CoalD} {T : List SightD} {l : List IssuedD} (hk : Kept I C T) (hl : l.length ≤ 12) (hv : ∀ x ∈ l, x.values.length < 9223372036854775807) : (issueA (acctT ni I nc C T) l).big := by
  by_cases he : issueE (acctT ni I nc C T) l = 0
  · rw [((issue_acct hk.ok).1 he).2]
    have h1 := hk.il
    have h2 := hk.tl
    have h3 := hk.cl
    obtain ⟨q1, q2⟩ := sets_lens (I := I ++ l) (L := T) (C := C) (by omega) (by simp; omega) (by omega)
    refine ⟨⟨by simp; omega, fun x hx => ?_⟩, by simp only; omega, fun x hx => by have := hk.cx x hx; omega, by simp only; omega, hk.bt.fields, hk.bt.vals, q1, q2⟩
    rcases List.mem_append.1 hx with q | q
    · exact hk.bi.vals x q
    · exact hv x q
  · rw [(issue_acct hk.ok).2 he]
    exact zeroA_fit.big
theorem issue_check {ni : Bool} {I : List IssuedD} {nc : Bool} {C : List CoalD} {T : List SightD} {l : List IssuedD} (h : okT I C T) (he : issueE (acctT ni I nc C T) l = 0) : checkA (issueA (acctT ni I nc C T) l) = true := by
  obtain ⟨h1, h2⟩ := (issue_acct h).1 he
  obtain ⟨q1, _, q3, _⟩ := h
  rw [h2]
  unfold checkA
  simp only
  rw [q1, h1, q3, setsEq_refl]
  rfl
end Go.Proofs.YtaopkjgldokahaaDoor
namespace Go.Proofs.YtaopkjgldokahaaDoor
open Go.ChangeShapes Go.WideShapes Go.ChangeAt Go.RowKit

/-! A greater coalition. -/
def insM (v : Int) : Bool → List Int → List Int
  | d, [] => if d then [] else [v]
  | d, x :: r => if !d && decide (x > v) then v :: x :: insM v true r else x :: insM v d r
theorem insM_mem (v : Int) : ∀ (d : Bool) (c : List Int) (p : Int), p ∈ insM v d c ↔ p ∈ c ∨ (d = false ∧ p = v)
  | d, [], p => by
    unfold insM
    cases d <;> simp
  | d, x :: r, p => by
    unfold insM
    split
    · next h =>
      simp only [Bool.and_eq_true, Bool.not_eq_true'] at h
      rw [List.mem_cons, List.mem_cons, insM_mem v true r, List.mem_cons]
      simp only [h.1, true_and, Bool.true_eq_false, false_and, or_false]
      constructor
      · rintro (q | q | q)
        · exact .inr q
        · exact .inl (.inl q)
        · exact .inl (.inr q)
      · rintro ((q | q) | q)
        · exact .inr (.inl q)
        · exact .inr (.inr q)
        · exact .inl q
    · rw [List.mem_cons, insM_mem v d r, List.mem_cons, or_assoc]
theorem insM_len (v : Int) : ∀ (d : Bool) (c : List Int), (insM v d c).length ≤ c.length + 1
  | d, [] => by unfold insM; cases d <;> simp
  | d, x :: r => by
    unfold insM
    split
    · have h : ∀ r : List Int, (insM v true r).length = r.length := by
        intro r
        induction r with
        | nil => rfl
        | cons y r ih => unfold insM; simp [ih]
      simp [h]
    · have := insM_len v d r
      simp
      omega
theorem sees_nodup (c : List Int) (T : List SightD) : (seesL c T).Nodup := by
  rw [sees_eq]
  exact List.nodup_range.filter _
theorem sees_mem {c : List Int} {T : List SightD} {j : Nat} : j ∈ seesL c T ↔ j < T.length ∧ (getS T j).verifier ∈ c := by
  rw [sees_eq, List.mem_filter, List.mem_range]
  constructor
  · rintro ⟨h1, h2⟩
    refine ⟨h1, ?_⟩
    simpa [seesP, getS, h1] using h2
  · rintro ⟨h1, h2⟩
    refine ⟨h1, ?_⟩
    simpa [seesP, getS, h1] using h2
def atT (c c' : List Int) (T : List SightD) (i : Nat) : Nat := (seesL c' T).idxOf ((seesL c T).getD i 0)
theorem atT_get {c c' : List Int} {T : List SightD} (hc : ∀ p ∈ c, p ∈ c') {i : Nat} (hi : i < (sightsL31 c T).length) : ∃ j, (seesL c T)[i]? = some j ∧ (seesL c' T)[atT c c' T i]? = some j := by
  rw [← sees_len] at hi
  have h1 : (seesL c T)[i]? = some (seesL c T)[i] := List.getElem?_eq_getElem hi
  refine ⟨_, h1, ?_⟩
  have hm : (seesL c T)[i] ∈ seesL c' T := by
    have := sees_mem.1 (List.getElem_mem (l := seesL c T) hi)
    exact sees_mem.2 ⟨this.1, hc _ this.2⟩
  have hd : (seesL c T).getD i 0 = (seesL c T)[i] := by simp [List.getD, h1]
  unfold atT
  rw [hd]
  have hlt := List.idxOf_lt_length_of_mem hm
  rw [List.getElem?_eq_getElem hlt, List.getElem_idxOf hlt]
theorem emb_coal {c c' : List Int} {T : List SightD} (hc : ∀ p ∈ c, p ∈ c') : Emb (sightsL31 c T) (sightsL31 c' T) (atT c c' T) := by
  refine ⟨fun i hi => ?_, fun i hi => ?_, fun a b ha hb q => ?_⟩
  · obtain ⟨j, _, h2⟩ := atT_get hc hi
    rw [← sees_len]
    exact (List.getElem?_eq_some_iff.1 h2).1
  · obtain ⟨j, h1, h2⟩ := atT_get hc hi
    rw [← (sees_get h1).2, ← (sees_get h2).2]
  · obtain ⟨j, h1, h2⟩ := atT_get hc ha
    obtain ⟨j', h1', h2'⟩ := atT_get hc hb
    rw [q, h2'] at h2
    cases h2
    exact (List.getElem?_inj (by rw [sees_len]; exact ha) (sees_nodup c T)).1 (h1.trans h1'.symm)
theorem atT_uniq {c c' : List Int} {T : List SightD} (hc : ∀ p ∈ c, p ∈ c') {i k j : Nat} (h1 : (seesL c T)[i]? = some j) (h2 : (seesL c' T)[k]? = some j) : atT c c' T i = k := by
  have hi : i < (sightsL31 c T).length := by rw [← sees_len]; exact (List.getElem?_eq_some_iff.1 h1).1
  obtain ⟨j', h3, h4⟩ := atT_get hc hi
  rw [h1] at h3
  cases h3
  exact (List.getElem?_inj (List.getElem?_eq_some_iff.1 h4).1 (sees_nodup c' T)).1 (h4.trans h2.symm)
theorem more_within {I : List IssuedD} {T : List SightD} {c c' : List Int} {i k j : Nat} (hc : ∀ p ∈ c, p ∈ c') (h : checkB I (viewsL T) = true) (h1 : (seesL c T)[i]? = some j) (h2 : (seesL c' T)[k]? = some j) :
    withinL (ofA I (viewL c' T) (numOf (sightsL31 c' T) k : Int)) (ofA I (viewL c T) (numOf (sightsL31 c T) i : Int)) = true := by
  have hi : i < (sightsL31 c T).length := by rw [← sees_len]; exact (List.getElem?_eq_some_iff.1 h1).1
  have hk : k < (sightsL31 c' T).length := by rw [← sees_len]; exact (List.getElem?_eq_some_iff.1 h2).1
  have g1 : numOf (sightsL31 c T) i < manyL c T := group_lt hi
  have g2 : numOf (sightsL31 c' T) k < manyL c' T := group_lt hk
  rw [ofA_view h g1, ofA_view h g2, within_iff]
  intro p hp
  have ht := atT_uniq hc h1 h2
  refine of_less31 (emb_coal hc) (iss_person31 h) hi ?_
  rw [ht]
  exact hp
theorem open_slz {H : Type} {enc : TypeId × Value → H} {P : Program} {w : World} {spare : Nat → Bool} {held : Bool} {v : Value} {d : DataW H} {pl : List MemPlace} {r : Reach} {b0 : Nat} {t : TypeId} {α : Type} {e : TypeId} {n : Nat} {c : α → List D} {ok : Bool × List α → Prop} (ht : P.underlying t = some (.slice e)) (ho : OpD P t (slC n c) ok) (hv : Value.okWide P w r b0 t v) (h : DataW.Trod enc P w 0 spare held t v d pl) :
    ∃ p : Bool × List α, ok p ∧ DRep w (allE w) (.slm n (some (.var p.1)) c p.2) v ∧ ∀ (ts : List TypeId) (ds : List (DataW H)) (j : Nat), (DataW.weightsEach P ts ds).all (· ≤ reachBytes) = true → ts[j]? = some t → ds[j]? = some d → p.2.length * P.bytesOf e ≤ reachBytes := by
  obtain ⟨a, m, k, rfl⟩ := okWide_slice ht hv
  obtain ⟨fuel, hf⟩ := h
  obtain ⟨p, h1, h2, h3⟩ := ho enc w spare held fuel _ _ hf
  have hr : DRep w (allE w) (.slm n (some (.var p.1)) c p.2) (.slice a m k) := h3 0 _ _ rfl rfl
  refine ⟨p, h1, hr, fun ts ds j hs hj hd => ?_⟩
  have hm : p.2.length = m := by
    generalize hdd : D.slm n (some (.var p.1)) c p.2 = dd at hr
    generalize hvv : Value.slice a m k = vv at hr
    cases hr with
    | slm => cases hdd; cases hvv; rfl
    | _ => cases hdd
  rcases Go.Deep.open_slice ht hf with ⟨hc, _⟩ | ⟨a', len, cap, m', k', D, Pl, hc, _, hl, _, hmm, hx, _⟩
  · have h0 : m = 0 := by cases hc; rfl
    rw [hm, h0]
    simp
  · have hml : m = len := by cases hc; rfl
    have hd2 : d = .slice ((List.range len).map D) ((List.range (m' - len)).map fun j => D (len + j)) := by
      have := congrArg Prod.fst hx
      exact this
    rw [hd2] at hd
    have := sized_slice hs hj hd ht
    simp only [List.length_map, List.length_range] at this
    rw [hm, hml]
    exact Nat.le_trans (Nat.mul_le_mul_right _ (by omega)) this
end Go.Proofs.YtaopkjgldokahaaDoor
namespace Go.Proofs.YtaopkjgldokahaaDoor
open Go.RowKit

/-! Sights that are built from copies: two persons of the same lowest byte (collide). -/
def byteP (p : Int) : Int := IntKind.wrap .u8 p
def perU (I : List IssuedD) (U : List Nat) (i : Nat) : Int := match U[i]? with
  | some u => personI I (u : Int)
  | none => 0
def collP (I : List IssuedD) (U : List Nat) (i k : Nat) : Bool := !decide (perU I U i = perU I U k) && decide (byteP (perU I U i) = byteP (perU I U k))
def collB (I : List IssuedD) (U : List Nat) : Bool := (List.range U.length).any fun i => (List.range i).any (collP I U i)
theorem collB_iff {I : List IssuedD} {U : List Nat} : collB I U = true ↔ ∃ i, i < U.length ∧ ∃ k, k < i ∧ collP I U i k = true := by
  unfold collB
  simp only [List.any_eq_true, List.mem_range]
theorem perU_get {I : List IssuedD} {U : List Nat} {i u : Nat} {x : IssuedD} (h : U[i]? = some u) (hx : I[u]? = some x) : perU I U i = x.person := by
  unfold perU personI
  rw [h]
  simp [hx]
set_option maxRecDepth 100000 in
set_option maxHeartbeats 4000000 in
theorem collide_pure (I : List IssuedD) (ni nu : Option BE) (U : List Nat) (hU : ∀ u ∈ U, u < I.length) (hl : U.length < 9223372036854775807) :
    Pure Tryd.prog 17 [.slm 3 ni IssuedD.c I, .slm 1 nu natC U] (boolD (collB I U)) := by
  have hU' : ∀ i u, U[i]? = some u → u < I.length := fun i u h => hU u (List.mem_of_getElem? h)
  obtain ⟨r, hr⟩ : ∃ r, r = collB I U := ⟨_, rfl⟩
  obtain ⟨cp, hcp⟩ : ∃ f, f = collP I U := ⟨_, rfl⟩
  have h1 : ∀ i k, k < i → i < U.length → cp i k = true → r = true := fun i k h1 h2 h3 => by rw [hr]; exact collB_iff.2 ⟨i, h2, k, h1, by rw [← hcp]; exact h3⟩
  have h2 : (∀ i, i < U.length → ∀ k, k < i → cp i k = false) → r = false := fun h => by
    rw [hr, Bool.eq_false_iff]
    intro h2
    obtain ⟨i, h3, k, h4, h5⟩ := collB_iff.1 h2
    rw [← hcp, h i h3 k h4] at h5
    cases h5
  have hc : ∀ i k u v x y, U[i]? = some u → U[k]? = some v → I[u]? = some x → I[v]? = some y → cp i k = (!decide (x.person = y.person) && decide (IntKind.wrap .u8 x.person = IntKind.wrap .u8 y.person)) := fun i k u v x y q1 q2 q3 q4 => by
    rw [hcp]
    unfold collP byteP
    rw [perU_get q1 q3, perU_get q2 q4]
  rw [← hr]
  clear hr hcp hU
  obtain ⟨n, hn⟩ : ∃ n, n = U.length := ⟨_, rfl⟩
  refine Pure.intro (want := [boolD r]) T_ok follows Tryd.func17 rfl (by kernel_rfl) (rs := [.tmp 4]) rfl (by kernel_rfl) ?_
  generalize hP : Tryd.prog = P at *
  have hT : T.ok P := hP ▸ T_ok
  have hm : P.follows .mixedOrders = true := hP ▸ follows
  unfold Tryd.f17
  dsimp only
  cbv
  refine CodeP.loopc hT hm (X := Nat) (fun k => [(5, .int .i64 (.nat k))]) (fun i => i ≤ n ∧ ∀ a, a < i → ∀ k, k < a → cp a k = false) (fun k => n - k) 0 ⟨Nat.zero_le _, fun a h => by omega⟩ (Nat.zero_le _) ?_ rfl ?_
  · (cbv; (repeat' (first | exact SnD.refl _ | exact trivial | exact SnD.nat0 | refine And.intro ?_ ?_)))
  intro i ⟨hi, ha⟩
  cbv
  refine SplitP.mk (fun hs => ?_) (fun hs => ?_)
  rotate_left
  · have hkn : U.length ≤ i := by
      have h5 : decide ((i : Int) < (U.length : Int)) = false := hs
      have := of_decide_eq_false h5
      omega
    clear hs
    have hf : r = false := h2 fun a q => ha a (by omega)
    subst hf
    exact .mk (.cons (.eq (.bool rfl)) .nil) rfl
  have hkn : i < U.length := by
    have h5 : decide ((i : Int) < (U.length : Int)) = true := hs
    have := of_decide_eq_true h5
    omega
  clear hs
  refine CodeP.loopc hT hm (X := Nat) (fun k => [(6, .int .i64 (.nat k))]) (fun k => k ≤ i ∧ ∀ a, a < k → cp i a = false) (fun k => i - k) 0 ⟨Nat.zero_le _, fun a h => by omega⟩ (Nat.zero_le _) ?_ rfl ?_
  · (cbv; (repeat' (first | exact SnD.refl _ | exact trivial | exact SnD.nat0 | refine And.intro ?_ ?_)))
  intro k ⟨hk, hb⟩
  cbv
  refine SplitP.mk (fun hs => ?_) (fun hs => ?_) <;> simp only [BE.lss_t, BE.lss_f, BE.leq_t, BE.leq_f, BE.gtr_t, BE.gtr_f, BE.geq_t, BE.geq_f, BE.eql_t, BE.eql_f, BE.neq_t, BE.neq_f, BE.not_t, BE.not_f, BE.var_d, BE.lit_d, BE.seq_t, BE.seq_f, BE.beq_t, BE.beq_f, IE.var_d, IE.lit_d, IE.nat_d, IE.len_d, IE.sum_d, IE.u8_d, ncast, Int.ofNat_lt, Int.ofNat_le, Int.ofNat_inj] at hs
  rotate_left
  · refine BackP.intro (i + 1) ⟨by omega, fun a q => if q2 : a = i then q2 ▸ fun b q3 => hb b (by omega) else ha a (by omega)⟩ (by show n - (i + 1) < n - i; omega) ⟨?_, HEnt.refl _, rfl⟩
    (cbv; (repeat' (first | exact SnD.refl _ | exact trivial | exact SnD.nat0 | refine And.intro ?_ ?_)))
    exact .inc (by omega)
  refine ElemP.mk (by show (0 : Int) ≤ (i : Int) ∧ (i : Int) < (U.length : Int); omega) (fun u hu => ?_)
  replace hu : U[i]? = some u := hu
  have hu1 := hU' i u hu
  cbv
  refine ElemP.mk (by show (0 : Int) ≤ (u : Int) ∧ (u : Int) < (I.length : Int); omega) (fun x hx => ?_)
  replace hx : I[u]? = some x := hx
  have hcx := fun v y h => hc i k u v x y hu h hx
  obtain ⟨x1, x2, x3, x4⟩ := x
  cbv
  refine ElemP.mk (by show (0 : Int) ≤ (k : Int) ∧ (k : Int) < (U.length : Int); omega) (fun v hv => ?_)
  replace hv : U[k]? = some v := hv
  have hv1 := hU' k v hv
  cbv
  refine ElemP.mk (by show (0 : Int) ≤ (v : Int) ∧ (v : Int) < (I.length : Int); omega) (fun y hy => ?_)
  replace hy : I[v]? = some y := hy
  replace hcx := hcx v y hv hy
  obtain ⟨y1, y2, y3, y4⟩ := y
  simp only at hcx
  cbv
  refine SplitP.mk (fun h3 => ?_) (fun h3 => ?_)
  · replace h3 : x2 ≠ y2 := by simpa only [BE.neq_t, IE.var_d] using h3
    refine SplitP.mk (fun h4 => ?_) (fun h4 => ?_)
    · replace h4 : (IE.conv .u8 (.var x2)).den = (IE.conv .u8 (.var y2)).den := by simpa only [BE.eql_t] using h4
      replace h4 : IntKind.wrap .u8 x2 = IntKind.wrap .u8 y2 := h4
      have hrt : r = true := h1 i k (by omega) (by omega) (by rw [hcx, h4]; simp [h3])
      subst hrt
      exact .mk (.cons (.eq (.bool rfl)) .nil) rfl
    · replace h4 : ¬ (IE.conv .u8 (.var x2)).den = (IE.conv .u8 (.var y2)).den := by simpa only [BE.eql_f] using h4
      replace h4 : ¬ IntKind.wrap .u8 x2 = IntKind.wrap .u8 y2 := h4
      have hcf : cp i k = false := by rw [hcx]; simp [h4]
      refine BackP.intro (k + 1) ⟨by omega, fun a q => if q2 : a = k then q2 ▸ hcf else hb a (by omega)⟩ (by show i - (k + 1) < i - k; omega) ⟨?_, HEnt.refl _, rfl⟩
      (cbv; (repeat' (first | exact SnD.refl _ | exact trivial | exact SnD.nat0 | refine And.intro ?_ ?_)))
      exact .inc (by omega)
  · replace h3 : x2 = y2 := by simpa only [BE.neq_f, IE.var_d, Classical.not_not] using h3
    have hcf : cp i k = false := by rw [hcx]; simp [h3]
    refine BackP.intro (k + 1) ⟨by omega, fun a q => if q2 : a = k then q2 ▸ hcf else hb a (by omega)⟩ (by show i - (k + 1) < i - k; omega) ⟨?_, HEnt.refl _, rfl⟩
    (cbv; (repeat' (first | exact SnD.refl _ | exact trivial | exact SnD.nat0 | refine And.intro ?_ ?_)))
    exact .inc (by omega)
/-- a sight that shows a copy -/
structure OfC (x : IssuedD) (s : SightD) : Prop where
  group : s.seen.group = x.person
  fits : fitsB x s.seen = true
  tok : noTok s.token = true ∨ s.token 0 = byteP x.person
structure Built (I : List IssuedD) (T : List SightD) (U : List Nat) : Prop where
  len : T.length = U.length
  nd : U.Nodup
  ofc : ∀ (j u : Nat) (s : SightD), U[j]? = some u → T[j]? = some s → ∃ x, I[u]? = some x ∧ OfC x s
theorem Built.lt {I : List IssuedD} {T : List SightD} {U : List Nat} (h : Built I T U) : ∀ u ∈ U, u < I.length := fun u hu => by
  obtain ⟨j, hj⟩ := List.mem_iff_getElem?.1 hu
  have hlt := (List.getElem?_eq_some_iff.1 hj).1
  obtain ⟨x, hx, _⟩ := h.ofc j u (T[j]'(by rw [h.len]; exact hlt)) hj (List.getElem?_eq_getElem _)
  exact (List.getElem?_eq_some_iff.1 hx).1
theorem Built.app {I : List IssuedD} {T : List SightD} {U : List Nat} (h : Built I T U) {u : Nat} {x : IssuedD} {s : SightD} (hu : u ∉ U) (hx : I[u]? = some x) (hs : OfC x s) : Built I (T ++ [s]) (U ++ [u]) := by
  refine ⟨by simp [h.len], ?_, fun j u' s' h1 h2 => ?_⟩
  · rw [List.nodup_append]
    exact ⟨h.nd, by simp, fun a ha b hb => by simp only [List.mem_singleton] at hb; subst hb; intro q; subst q; exact hu ha⟩
  · by_cases hj : j < U.length
    · rw [List.getElem?_append_left hj] at h1
      rw [List.getElem?_append_left (by rw [h.len]; exact hj)] at h2
      exact h.ofc j u' s' h1 h2
    · have hl := (List.getElem?_eq_some_iff.1 h1).1
      simp only [List.length_append, List.length_singleton] at hl
      have hj2 : j = U.length := by omega
      subst hj2
      rw [List.getElem?_append_right (Nat.le_refl _)] at h1
      rw [← h.len, List.getElem?_append_right (Nat.le_refl _)] at h2
      simp only [Nat.sub_self, List.getElem?_cons_zero, Option.some.injEq] at h1 h2
      subst h1
      subst h2
      exact ⟨x, hx, hs⟩
/-- two joined sights are of one person -/
theorem joined_person {x y : IssuedD} {s t : SightD} (hs : OfC x s) (ht : OfC y t) (h : joinedB s t = true) : x.person = y.person ∨ byteP x.person = byteP y.person := by
  unfold joinedB at h
  simp only [Bool.or_eq_true, Bool.and_eq_true, decide_eq_true_eq, Bool.not_eq_true'] at h
  rcases h with h | ⟨h1, h2⟩
  · left
    rw [← hs.group, ← ht.group]
    exact h.2
  · right
    have h3 : noTok t.token = false := by
      unfold noTok at h2 ⊢
      rw [← h1]
      exact h2
    have h4 := hs.tok.resolve_left (by rw [h2]; decide)
    have h5 := ht.tok.resolve_left (by rw [h3]; decide)
    rw [← h4, ← h5]
    have h6 := congrArg (fun l : List Int => l[0]?) h1
    simpa [tokL] using h6
def usedAt (c : List Int) (T : List SightD) (U : List Nat) (j : Nat) : Nat := match (seesL c T)[j]? with
  | some k => U.getD k 0
  | none => 0
theorem built_at {I : List IssuedD} {T : List SightD} {U : List Nat} (h : Built I T U) {c : List Int} {j : Nat} (hj : j < (sightsL31 c T).length) :
    ∃ k u x, (seesL c T)[j]? = some k ∧ U[k]? = some u ∧ usedAt c T U j = u ∧ I[u]? = some x ∧ OfC x (getS (sightsL31 c T) j) := by
  have hj' : j < (seesL c T).length := by rw [sees_len]; exact hj
  have h1 : (seesL c T)[j]? = some (seesL c T)[j] := List.getElem?_eq_getElem hj'
  have h2 := sees_mem.1 (List.getElem_mem hj')
  have h3 : (seesL c T)[j] < U.length := by rw [← h.len]; exact h2.1
  have h4 : U[(seesL c T)[j]]? = some (U[(seesL c T)[j]]'h3) := List.getElem?_eq_getElem h3
  obtain ⟨x, h5, h6⟩ := h.ofc _ _ _ h4 (List.getElem?_eq_getElem h2.1)
  refine ⟨_, _, x, h1, h4, ?_, h5, ?_⟩
  · unfold usedAt
    rw [h1]
    simp [List.getD, h4]
  · rw [← (sees_get h1).2]
    unfold getS
    rw [List.getElem?_eq_getElem h2.1]
    exact h6
theorem built_way {I : List IssuedD} {T : List SightD} {U : List Nat} (h : Built I T U) (hc : collB I U = false) (c : List Int) : WayV I (sightsL31 c T) (usedAt c T U) := by
  have hcl : ∀ {j k u v : Nat} {x y : IssuedD}, U[j]? = some u → U[k]? = some v → I[u]? = some x → I[v]? = some y → byteP x.person = byteP y.person → x.person = y.person := by
    intro j k u v x y h1 h2 h3 h4 h5
    refine Classical.byContradiction fun h6 => ?_
    have hj := (List.getElem?_eq_some_iff.1 h1).1
    have hk := (List.getElem?_eq_some_iff.1 h2).1
    have hne : j ≠ k := fun q => by
      subst q
      rw [h1] at h2
      cases h2
      rw [h3] at h4
      cases h4
      exact h6 rfl
    have h7 : collB I U = true := by
      rw [collB_iff]
      rcases Nat.lt_or_gt_of_ne hne with q | q
      · refine ⟨k, hk, j, q, ?_⟩
        unfold collP
        rw [perU_get h1 h3, perU_get h2 h4, h5]
        simp [Ne.symm h6]
      · refine ⟨j, hj, k, q, ?_⟩
        unfold collP
        rw [perU_get h1 h3, perU_get h2 h4, h5]
        simp [h6]
    rw [hc] at h7
    cases h7
  refine ⟨fun j hj => ?_, fun a b ha hb q => ?_, fun a b ha hb q => ?_⟩
  · obtain ⟨k, u, x, h1, h2, h3, h4, h5⟩ := built_at h hj
    unfold optV
    rw [h3, h4]
    exact h5.fits
  · obtain ⟨k, u, x, h1, h2, h3, h4, h5⟩ := built_at h ha
    obtain ⟨k', u', x', h1', h2', h3', h4', h5'⟩ := built_at h hb
    rw [h3, h3'] at q
    subst q
    have h6 := (List.getElem?_inj (List.getElem?_eq_some_iff.1 h2).1 h.nd).1 (h2.trans h2'.symm)
    subst h6
    exact (List.getElem?_inj (by rw [sees_len]; exact ha) (sees_nodup c T)).1 (h1.trans h1'.symm)
  · have h1 := ((lead_led _).iff a b).1 q
    have key : ∀ {b : Nat}, Conn (adjV (sightsL31 c T)) a b → personI I (usedAt c T U a : Int) = personI I (usedAt c T U b : Int) := by
      intro b hb
      induction hb with
      | refl => rfl
      | @step b d hb hj ih =>
        rw [ih]
        obtain ⟨k, u, x, h1, h2, h3, h4, h5⟩ := built_at h hj.1
        obtain ⟨k', u', x', h1', h2', h3', h4', h5'⟩ := built_at h hj.2.1
        rw [h3, h3']
        have e1 : personI I (u : Int) = x.person := by unfold personI; simp [h4]
        have e2 : personI I (u' : Int) = x'.person := by unfold personI; simp [h4']
        rw [e1, e2]
        rcases joined_person h5 h5' hj.2.2 with q | q
        · exact q
        · exact hcl h2 h2' h4 h4' q
    exact key h1
theorem built_of {I : List IssuedD} {T : List SightD} {U : List Nat} (h : Built I T U) (hc : collB I U = false) (hk : checkB I (viewsL T) = true) {c : List Int} {j k u : Nat} {x : IssuedD} (h1 : (seesL c T)[j]? = some k) (h2 : U[k]? = some u) (h3 : I[u]? = some x) :
    x.person ∈ ofA I (viewL c T) (numOf (sightsL31 c T) j : Int) := by
  have hj : j < (sightsL31 c T).length := by rw [← sees_len]; exact (List.getElem?_eq_some_iff.1 h1).1
  have g1 : numOf (sightsL31 c T) j < manyL c T := group_lt hj
  rw [ofA_view hk g1]
  refine (of_view (iss_person31 hk) hj).2 ⟨_, built_way h hc c, ?_⟩
  unfold usedAt personI
  rw [h1]
  simp [List.getD, h2, h3]
end Go.Proofs.YtaopkjgldokahaaDoor
namespace Go.Proofs.YtaopkjgldokahaaDoor
open Go.RowKit

/-! has, at a list of places. -/
set_option maxRecDepth 100000 in
set_option maxHeartbeats 4000000 in
theorem hasN_pure (l : List Nat) (nb : Option BE) (v : Nat) (hl : l.length < 9223372036854775807) : Pure Tryd.prog 15 [.slm 1 nb natC l, .int .i64 (.nat v)] (boolD (decide (v ∈ l))) := by
  obtain ⟨r, hr⟩ : ∃ r, r = decide (v ∈ l) := ⟨_, rfl⟩
  rw [← hr]
  obtain ⟨n, hn⟩ : ∃ n : Nat, n = l.length := ⟨_, rfl⟩
  refine Pure.intro (want := [boolD r]) T_ok follows Tryd.func15 rfl (by kernel_rfl) (rs := [.tmp 4]) rfl (by kernel_rfl) ?_
  generalize hP : Tryd.prog = P
  have hT : T.ok P := hP ▸ T_ok
  have hm : P.follows .mixedOrders = true := hP ▸ follows
  unfold Tryd.f15
  dsimp only
  cbv
  refine CodeP.loopc hT hm (X := Nat) (fun k => [(5, .int .i64 (.nat k))]) (fun k => k ≤ n ∧ r = decide (v ∈ l.drop k)) (fun k => n - k) 0 ⟨by simp, hr⟩ (Nat.zero_le _) ?_ rfl ?_
  · (cbv; (repeat' (first | exact SnD.refl _ | exact trivial | exact SnD.nat0 | refine And.intro ?_ ?_)))
  intro k ⟨hk, hq⟩
  cbv
  refine SplitP.mk (fun hs => ?_) (fun hs => ?_)
  · have hkn : k < l.length := by
      have h5 : decide ((k : Int) < (l.length : Int)) = true := hs
      have := of_decide_eq_true h5
      omega
    clear hs
    refine ElemP.mk (by show (0 : Int) ≤ (k : Int) ∧ (k : Int) < (l.length : Int); omega) (fun x hx => ?_)
    replace hx : l[k]? = some x := hx
    rw [drop_cons hx] at hq
    cbv
    refine SplitP.mk (fun hs => ?_) (fun hs => ?_)
    · have h3 : x = v := Int.ofNat_inj.mp (by simpa using (show ((x : Int) == (v : Int)) = true from hs))
      refine .mk (.cons (.eq (.bool ?_)) .nil) rfl
      show true = r
      rw [hq, h3]
      simp
    · have h3 : ¬ x = v := fun h4 => by
        have h5 : ((x : Int) == (v : Int)) = false := hs
        rw [h4] at h5
        simp at h5
      refine BackP.intro (k + 1) ⟨by omega, ?_⟩ (by show n - (k + 1) < n - k; omega) ⟨?_, HEnt.refl _, rfl⟩
      · rw [hq]
        simp [Ne.symm h3]
      · (cbv; (repeat' (first | exact SnD.refl _ | exact trivial | exact SnD.nat0 | refine And.intro ?_ ?_)))
        exact .inc (by omega)
  · have hkn : l.length ≤ k := by
      have h5 : decide ((k : Int) < (l.length : Int)) = false := hs
      have := of_decide_eq_false h5
      omega
    clear hs
    refine .mk (.cons (.eq (.bool ?_)) .nil) rfl
    show false = r
    rw [hq, List.drop_of_length_le (by omega)]
    rfl
end Go.Proofs.YtaopkjgldokahaaDoor
namespace Go.Proofs.YtaopkjgldokahaaDoor
open Go.RowKit

/-! Drawn regions whose loads touch one block in any order: only what writes is ordered. -/
theorem sAppN_x {P : Program} {T : Tab} {H : List Bk} {ρ : Operand → D} {o : Oper} (hT : T.ok P) {t : Nat} {s x : Operand} (ho : o.op = .call ⟨.builtin .append, #[s, x], #[t, t]⟩) (hs : ρ s = .nils) {K : List Bk → D → Prop} (hk : sAppend T H o t .nils (ρ x) K) : ∃ d nw, OpX P H ρ o d nw ∧ K (H ++ nw) d := by
  have hx : ∀ (ev : Operand → Value) (w : World), (execOp ev o).run P w = (do pure (.value (← Builtin.append_ #[t, t] o.type #[ev s, ev x])) : Sem Next).run P w := fun ev w => by
    obtain ⟨cs, h⟩ := execOp_blt (P := P) (ev := ev) ho
    rw [h w]
    simp [builtin]
  unfold sAppend at hk
  split at hk
  · next e sz by_ z n rx m ht hel =>
    split at hk
    · next te hte =>
      split at hk
      · next hc =>
        obtain ⟨hsz, hn0, hzs⟩ := hc
        obtain ⟨ti, d, g1, g2, _, _, _, g6⟩ := TI.of_spec (Tab.get_ok hT ht)
        obtain ⟨ti', d', f1, f2, f3, f4, f5, f6⟩ := TI.of_spec (Tab.get_ok hT hte)
        have hu : P.underlying t = some (.slice e) := by
          cases d with
          | slice e2 => simp only [TK.of, TK.slice.injEq] at g6; rw [g2, g6]
          | _ => simp [TK.of] at g6
        have hisz : ti'.size = n := f4.trans hsz
        simp only at hk
        obtain ⟨⟨hm, hcell, h63, hby⟩, hk⟩ := ReqQ.get hk (fun hb => by
          simp only [Bool.and_eq_true, decide_eq_true_eq] at hb
          obtain ⟨k1, k2, k3⟩ := litsOK_spec hb.1
          exact ⟨k1, k2, by omega, small_bytes (by omega) hb.2⟩)
        refine ⟨_, [.row e n 1 rx], .value fun B Hx w E ev hev hw hcp hfr => ?_, hk⟩
        have hcp0 : Compat H [] Hx := fun y b hb => hcp y b (by rw [List.append_nil] at hb; rw [List.getElem?_append_left (List.getElem?_eq_some_iff.1 hb).1]; exact hb)
        have hxx : Hx[H.length]? = some (.row e n 1 rx) := hcp.of (by simp) (by simp)
        have hvs := hev s
        rw [hs] at hvs
        generalize hvsv : ev s = vs at hvs
        cases hvs
        obtain ⟨a, c, hvx, hcells⟩ := elemsOf_rep hw (hev x) (elemsOf_mono hcp0 hel) hm
        have hlen : H.length < Hx.length := (List.getElem?_eq_some_iff.1 hxx).1
        obtain ⟨hσ, hκ⟩ := hfr H.length (Nat.le_refl _) (by simp)
        have hset : Hx.set H.length (.row e n 1 rx) = Hx := by
          refine List.ext_getElem? fun y => ?_
          by_cases q : H.length = y
          · subst q; rw [List.getElem?_set_self hlen, hxx]
          · rw [List.getElem?_set_ne q]
        have hout : ∀ (c : Option Nat) (k z y : Nat), (y < H.length ∨ H.length + [Bk.row e n 1 rx].length ≤ y) → (E.upd H.length c k z).σ y = E.σ y ∧ (E.upd H.length c k z).κ y = E.κ y := fun c k z y hy => by
          have : y ≠ H.length := by simp at hy; omega
          simp [Env.upd, this]
        by_cases h0 : rx.den = []
        · obtain ⟨r1, r2, r3⟩ := hw.redo (w' := w) (x := H.length) (k := 1) (z := 0) (c := none) (b' := .row e n 1 rx) hlen (by omega) (fun _ _ _ => rfl) (Nat.le_refl _) hw.bel (fun d hd => by cases hd) rfl (fun _ _ d hd => by cases hd) (fun _ => h0)
          rw [hset] at r1
          have h1 : rx.den.length = 0 := by rw [h0]; rfl
          refine ⟨_, w, _, ?_, r1, r2, r3, hout _ _ _, .osln (by simp [Env.upd]) (by simp [Env.upd]) (by rw [BE.mk2_den]; simp [cmpDen, IE.den]; omega) rfl (by omega)⟩
          rw [hx, hvsv, hvx, h1]
          simp [run_append_zero hu f1 (Nat.le_refl 0)]
        · obtain ⟨b, off, rfl, hcl⟩ := hcells h0
          obtain ⟨news, n1, n2, n3, n4⟩ := flat_cells hcl hcell
          have hpos : 0 < rx.den.length := List.length_pos_iff.2 h0
          have hby' : rx.den.length * te.bytes ≤ 140737488355328 := by
            have : ((rx.den.length * te.bytes : Nat) : Int) ≤ 140737488355328 := by rw [Int.natCast_mul, ← hm]; exact hby
            omega
          have hrun := run_append_nil (P := P) (w := w) t o.type e ti' te.zero hu f1 f3 ⟨b, off, none⟩ rx.den.length c news (by rw [hisz]; exact n1) n2 hpos (by omega) (by rw [f5]; omega)
          generalize hcap : grownCap w rx.den.length 0 e = cap at hrun
          have hge : rx.den.length ≤ cap := by rw [← hcap]; exact grownCap_ge _ _ _ _
          have hcm : cap ≤ maxLen := by rw [← hcap]; exact grownCap_le_maxLen _ _ _ _ (by unfold maxLen; omega)
          generalize hcur : news.toArray ++ Builtin.zeroCells te.zero.cells (cap - rx.den.length) = cur at hrun
          have hcs : cur.size = cap * n := by
            rw [← hcur, Array.size_append, size_zeroCells, hzs, List.size_toArray, n1, ← Nat.add_mul]
            congr 1
            omega
          obtain ⟨r1, r2, r3⟩ := hw.redo (w' := w.drew.alloc (.cells cur e)) (x := H.length) (k := 1) (z := cur.size) (c := some w.heap.size) (b' := .row e n 1 rx) hlen (by omega) (fun j hj _ => alloc_heap w.drew _ j hj) (by simp) (hw.bel.drew.alloc hw.bel.size _)
            (fun d hd => by cases hd; exact ⟨.inr (Nat.le_refl _), by simp⟩) rfl (fun hle hown d hd => by
              cases hd
              refine ⟨cur, e, .inr rfl, heap_alloc_last w.drew _, by simp [Env.upd], by rw [hcs]; exact Nat.mul_le_mul_right _ hge, fun k el hk2 => ?_⟩
              obtain ⟨q1, q2⟩ := hcl k el hk2
              refine ⟨q1, fun j d hd => ?_⟩
              obtain ⟨v, q3, q4⟩ := n4 k el hk2 j d hd
              have hlt := (List.getElem?_eq_some_iff.1 q3).1
              exact ⟨v, by rw [← hcur, Array.getElem?_append_left (by simpa using hlt)]; simpa using q3, q4.move hle.data Env.own.data⟩) (fun h => by cases h)
          rw [hset] at r1
          have hd := DRep.oslc (w := w.drew.alloc (.cells cur e)) (E := E.upd H.length (some w.heap.size) 1 cur.size) (n := n) (b := H.length) (ver := 1) (nb := BE.mk2 .eql m (.lit 0)) (lo := .lit 0) (len := m) (c := w.heap.size) (m := rx.den.length) (cap := cap) (by simp [Env.upd]) (by simp [Env.upd]) (by rw [BE.mk2_den]; simp [cmpDen, IE.den]; omega) (Int.le_refl _) hm hge hcm (by simp [IE.den, Env.upd, hcs])
          refine ⟨_, _, _, ?_, r1, r2, r3, hout _ _ _, hd⟩
          rw [hx, hvsv, hvx]
          simp [hrun, IE.den]
      · cases hk
    · cases hk
  · cases hk
def nilApp (fr : Fr) (o : Oper) : Bool := match o.op with
  | .call ⟨.builtin .append, ⟨[s, _]⟩, ⟨[t, t']⟩⟩ => (match fr.ev s with
    | .nils => decide (t = t')
    | _ => false)
  | _ => false
def vopN (cx : Cx) (o : Oper) (fr : Fr) (H : List Bk) (K : Fr → List Bk → Prop) : Prop := match o.op, o.dst with
  | .call ⟨.builtin .append, ⟨[_, x]⟩, ⟨[t, _]⟩⟩, some d0 => if d0 < cx.nt then sAppend cx.T H o t .nils (fr.ev x) fun H' d => K (fr.set d0 d) H' else StuckP o []
  | _, _ => StuckP o []
theorem vopN_trace {P : Program} {cx : Cx} (hT : cx.T.ok P) {o : Oper} {fr : Fr} {H : List Bk} {K : Fr → List Bk → Prop} (hn : nilApp fr o = true) (hk : vopN cx o fr H K) : ∃ t d nw, o.dst = some t ∧ t < cx.nt ∧ OpX P H (res o fr.ev) o d nw ∧ K (fr.set t d) (H ++ nw) := by
  unfold vopN at hk
  split at hk
  · next x' s' x t t' d0 ho hd =>
    split at hk
    · next hlt =>
      unfold nilApp at hn
      rw [ho] at hn
      simp only at hn
      split at hn
      · next hs =>
        have e0 := of_decide_eq_true hn
        subst e0
        have e1 : res o fr.ev s' = .nils := by rw [res_in (by rw [ho]; simp [Op.operands, Call.operands]), hs]
        have e2 : res o fr.ev x = fr.ev x := res_in (by rw [ho]; simp [Op.operands, Call.operands])
        obtain ⟨d, nw, h1, h2⟩ := sAppN_x (ρ := res o fr.ev) hT ho e1 (by rw [e2]; exact hk)
        exact ⟨_, d, nw, hd, hlt, h1, h2⟩
      · cases hn
    · cases hk
  · cases hk
def readB : Op → Bool
  | .load .. => true
  | .fieldAddr .. => true
  | _ => false
def vfootW (P : Program) (cx : Cx) (ops : Array Oper) (mods : List (Nat × List Nat)) : Nat → List Oper → Fr → List Bk → (Fr → List Bk → Prop) → Prop
  | _, [], fr, H, K => K fr H
  | i, o :: os, fr, H, K => match o.guard with
    | some _ => StuckP o []
    | none => match touch mods i with
      | [] => if nilApp fr o then vopN cx o fr (maskH (allM mods) [] 0 H) fun fr' Hm => (if freshOK ops mods i H.length Hm.length then vfootW P cx ops mods (i + 1) os fr' (H ++ Hm.drop H.length) K else StuckP o [])
        else vopq P cx (baseB ops o) o fr (maskH (allM mods) [] 0 H) fun fr' Hm => if freshOK ops mods i H.length Hm.length then vfootW P cx ops mods (i + 1) os fr' (H ++ Hm.drop H.length) K else StuckP o []
      | x :: xs => if readB o.op then vopq P cx (baseB ops o) o fr (maskH (allM mods) (x :: xs) 0 H) fun fr' Hm => if freshOK ops mods i H.length Hm.length then vfootW P cx ops mods (i + 1) os fr' (H ++ Hm.drop H.length) K else StuckP o []
        else if dstB cx.nt o.dst then vopm P cx o fr (maskH (allM mods) (x :: xs) 0 H) (x :: xs) fun d md => vfootW P cx ops mods (i + 1) os (fr.put o.dst d) (setL H md) K else StuckP o []
def twr (ops : Array Oper) (mods : List (Nat × List Nat)) (i : Nat) : List Nat := match ops[i]? with
  | some o => if readB o.op then [] else touch mods i
  | none => []
theorem twr_sub {ops : Array Oper} {mods : List (Nat × List Nat)} {i x : Nat} (h : x ∈ twr ops mods i) : x ∈ touch mods i := by
  unfold twr at h
  split at h
  · split at h
    · cases h
    · exact h
  · cases h
theorem twr_of {ops : Array Oper} {mods : List (Nat × List Nat)} {i x : Nat} {o : Oper} (ho : ops[i]? = some o) (hl : readB o.op = false) (h : x ∈ touch mods i) : x ∈ twr ops mods i := by
  unfold twr
  rw [ho]
  simp only [hl]
  exact h
def ordW (ops : Array Oper) (mods : List (Nat × List Nat)) : Bool := (List.range ops.size).all fun i => (List.range ops.size).all fun j => if i < j then (if meets (twr ops mods i) (touch mods j) then reach ops 6 i j else (if meets (touch mods i) (twr ops mods j) then reach ops 6 i j else true)) else true
def footOK2 (ops : Array Oper) (mods : List (Nat × List Nat)) : Bool := tailWB .any ops ops.size && readsF ops && dstF ops && ordW ops mods
inductive YW (P : Program) (cx : Cx) (ops : Array Oper) (mods : List (Nat × List Nat)) : Nat → List Oper → Fr → List Bk → List YS → Fr → List Bk → Prop
  | nil {i fr H} : YW P cx ops mods i [] fr H [] fr H
  | cons {i o os fr H d nw md tr fr' H'} (hg : o.guard = none) (hd : dstB cx.nt o.dst = true) (hop : OpZ P (maskH (allM mods) (touch mods i) 0 H) (res o fr.ev) o d nw md) (hmd : ∀ p ∈ md, readB o.op = false ∧ p.1 ∈ touch mods i ∧ p.1 < H.length)
      (hnw : ∀ x, H.length ≤ x → x < H.length + nw.length → ∀ j, j < ops.size → x ∈ touch mods j → reach ops 6 i j = true) (rest : YW P cx ops mods (i + 1) os (fr.put o.dst d) (setL (H ++ nw) md) tr fr' H') : YW P cx ops mods i (o :: os) fr H (⟨fr, H, d, nw, md⟩ :: tr) fr' H'
section
variable {P : Program} {cx : Cx} {ops : Array Oper} {mods : List (Nat × List Nat)}
theorem vfoot_yw (hT : cx.T.ok P) : ∀ (os : List Oper) {i : Nat} {fr : Fr} {H : List Bk} {K : Fr → List Bk → Prop}, vfootW P cx ops mods i os fr H K → ∃ tr fr' H', YW P cx ops mods i os fr H tr fr' H' ∧ K fr' H'
  | [], i, fr, H, K, hk => ⟨[], fr, H, .nil, hk⟩
  | o :: os, i, fr, H, K, hk => by
    unfold vfootW at hk
    split at hk
    · cases hk
    · next hg =>
      split at hk
      · next ht =>
        have hk2 : ∃ t d nw, o.dst = some t ∧ t < cx.nt ∧ OpX P (maskH (allM mods) [] 0 H) (res o fr.ev) o d nw ∧ (if freshOK ops mods i H.length (maskH (allM mods) [] 0 H ++ nw).length then vfootW P cx ops mods (i + 1) os (fr.set t d) (H ++ (maskH (allM mods) [] 0 H ++ nw).drop H.length) K else StuckP o []) := by
          split at hk
          · next hn => exact vopN_trace hT hn hk
          · exact vopq_trace hT hk
        obtain ⟨t, d, nw, h1, h2, h3, h4⟩ := hk2
        simp only [List.length_append, maskH_len] at h4
        split at h4
        · next hf =>
          rw [← maskH_len (allM mods) [] 0 H, List.drop_left] at h4
          obtain ⟨tr, fr', H', h5, h6⟩ := vfoot_yw hT os h4
          refine ⟨_, fr', H', .cons hg (by rw [h1]; simpa [dstB] using h2) (by rw [ht]; exact h3.z) (fun p hp => by cases hp) (fun x hx1 hx2 j hj hxj => ?_) (by rw [h1]; exact h5), h6⟩
          unfold freshOK at hf
          have := List.all_eq_true.1 hf j (List.mem_range.2 hj)
          rwa [if_pos (within_spec hxj hx1 hx2)] at this
        · cases h4
      · next x xs ht =>
        split at hk
        · obtain ⟨t, d, nw, h1, h2, h3, h4⟩ := vopq_trace hT hk
          simp only [List.length_append, maskH_len] at h4
          split at h4
          · next hf =>
            rw [← maskH_len (allM mods) (x :: xs) 0 H, List.drop_left] at h4
            obtain ⟨tr, fr', H', h5, h6⟩ := vfoot_yw hT os h4
            refine ⟨_, fr', H', .cons hg (by rw [h1]; simpa [dstB] using h2) (by rw [ht]; exact h3.z) (fun p hp => by cases hp) (fun x hx1 hx2 j hj hxj => ?_) (by rw [h1]; exact h5), h6⟩
            unfold freshOK at hf
            have := List.all_eq_true.1 hf j (List.mem_range.2 hj)
            rwa [if_pos (within_spec hxj hx1 hx2)] at this
          · cases h4
        next hld =>
        split at hk
        · next hd =>
          obtain ⟨d, md, h1, h2, h3⟩ := vopm_z hT hk
          obtain ⟨tr, fr', H', h5, h6⟩ := vfoot_yw hT os h3
          refine ⟨_, fr', H', .cons (nw := []) hg hd (by rw [ht]; exact h1) (fun p hp => by have := h2 p hp; rw [maskH_len] at this; rw [ht]; exact ⟨by simpa using hld, this⟩) (fun x hx1 hx2 => by simp at hx2; omega) (by rw [List.append_nil]; exact h5), h6⟩
        · cases hk
theorem YW.get {i0 : Nat} {os : List Oper} {fr fr' : Fr} {H H' : List Bk} {tr : List YS} (h : YW P cx ops mods i0 os fr H tr fr' H') : (∀ (a b : Nat) oa ob t, os[a]? = some oa → os[b]? = some ob → oa.dst = some t → ob.dst = some t → a = b) →
    tr.length = os.length ∧
    (∀ (k : Nat) s, tr[k]? = some s → ∃ o, os[k]? = some o ∧ o.guard = none ∧ dstB cx.nt o.dst = true ∧ OpZ P (maskH (allM mods) (touch mods (i0 + k)) 0 s.H) (res o s.fr.ev) o s.d s.nw s.md ∧ (∀ p ∈ s.md, readB o.op = false ∧ p.1 ∈ touch mods (i0 + k) ∧ p.1 < s.H.length) ∧
      (∀ x, s.H.length ≤ x → x < s.H.length + s.nw.length → ∀ j, j < ops.size → x ∈ touch mods j → reach ops 6 (i0 + k) j = true) ∧ (∃ p, setL (H ++ nwsOf tr) (mdsOf (tr.take k)) = s.H ++ s.nw ++ p) ∧ (H.length ≤ s.H.length) ∧
      (∀ (j : Nat) s', j < k → tr[j]? = some s' → s'.H.length + s'.nw.length ≤ s.H.length) ∧
      (∀ t, (∀ (j : Nat) o', j < k → os[j]? = some o' → o'.dst ≠ some t) → s.fr.get t = fr.get t) ∧ (∀ t (j : Nat) s' o', j < k → tr[j]? = some s' → os[j]? = some o' → o'.dst = some t → s.fr.get t = s'.d)) ∧
    H' = setL (H ++ nwsOf tr) (mdsOf tr) ∧ (∀ t, (∀ (j : Nat) o', os[j]? = some o' → o'.dst ≠ some t) → fr'.get t = fr.get t) ∧ (∀ t (j : Nat) s' o', tr[j]? = some s' → os[j]? = some o' → o'.dst = some t → fr'.get t = s'.d) := by
  induction h with
  | nil => exact fun _ => ⟨rfl, fun k s hs => by simp at hs, by simp [nwsOf, mdsOf, setL], fun _ _ => rfl, fun t j s' o' hs => by simp at hs⟩
  | @cons i o os fr H d nw md tr fr' H' hg hd hop hmd hnw rest ih =>
    intro hu
    obtain ⟨h1, h2, h3, h4, h5⟩ := ih fun a b oa ob t q1 q2 q3 q4 => by
      have := hu (a + 1) (b + 1) oa ob t (by simpa using q1) (by simpa using q2) q3 q4
      omega
    have hput : ∀ t, o.dst ≠ some t → (fr.put o.dst d).get t = fr.get t := fun t ht => by
      unfold Fr.put
      split
      · next t' e => rw [Fr.get_set, if_neg fun q => ht (by rw [e, q])]
      · rfl
    have hput2 : ∀ t, o.dst = some t → (fr.put o.dst d).get t = d := fun t ht => by
      rw [ht]; simp [Fr.put, Fr.get_set]
    have hbase : setL (H ++ nwsOf (⟨fr, H, d, nw, md⟩ :: tr)) md = setL (H ++ nw) md ++ nwsOf tr := by
      rw [← setL_app md fun p hp => by have := (hmd p hp).2.2; simp; omega]
      simp [nwsOf]
    have hnot : ∀ t, o.dst = some t → ∀ (j : Nat) o', os[j]? = some o' → o'.dst ≠ some t := fun t ht j o' ho' e => by
      have := hu 0 (j + 1) o o' t rfl (by simpa using ho') ht e
      omega
    refine ⟨by simp [h1], fun k s hs => ?_, ?_, fun t ht => ?_, fun t j s' o' hs ho' hd' => ?_⟩
    · cases k with
      | zero =>
        simp only [List.getElem?_cons_zero, Option.some.injEq] at hs
        subst hs
        exact ⟨o, rfl, hg, hd, hop, hmd, hnw, ⟨nwsOf tr, by simp [mdsOf, setL, nwsOf]⟩, Nat.le_refl _, fun j s' hj => by omega, fun t _ => rfl, fun t j s' o' hj => by omega⟩
      | succ k =>
        simp only [List.getElem?_cons_succ] at hs
        obtain ⟨o1, g1, g2, g3, g4, g5, g6, ⟨p, g7⟩, g8, g9, g10, g11⟩ := h2 k s hs
        have e0 : i + 1 + k = i + (k + 1) := by omega
        rw [setL_len, List.length_append] at g8
        refine ⟨o1, by simpa using g1, g2, g3, by rw [← e0]; exact g4, by rw [← e0]; exact g5, by rw [← e0]; exact g6, ⟨p, ?_⟩, by omega, fun j s' hj hs' => ?_, fun t ht => ?_, fun t j s' o' hj hs' ho' hd' => ?_⟩
        · rw [← g7]
          simp only [List.take_succ_cons, mdsOf, List.map_cons, List.flatten_cons, setL_cat]
          rw [hbase]
        · cases j with
          | zero =>
            simp only [List.getElem?_cons_zero, Option.some.injEq] at hs'
            subst hs'
            exact g8
          | succ j => exact g9 j s' (by omega) (by simpa using hs')
        · rw [g10 t fun j o' hj ho' => ht (j + 1) o' (by omega) (by simpa using ho')]
          exact hput t (ht 0 o (by omega) rfl)
        · cases j with
          | zero =>
            simp only [List.getElem?_cons_zero, Option.some.injEq] at hs' ho'
            subst hs' ho'
            rw [g10 t fun j o' _ ho' => hnot t hd' j o' ho']
            exact hput2 t hd'
          | succ j => exact g11 t j s' o' (by omega) (by simpa using hs') (by simpa using ho') hd'
    · rw [h3]
      simp only [mdsOf, List.map_cons, List.flatten_cons, setL_cat]
      rw [hbase]
    · rw [h4 t fun j o' ho' => ht (j + 1) o' (by simpa using ho')]
      exact hput t (ht 0 o rfl)
    · cases j with
      | zero =>
        simp only [List.getElem?_cons_zero, Option.some.injEq] at hs ho'
        subst hs ho'
        rw [h4 t fun j o' ho' => hnot t hd' j o' ho']
        exact hput2 t hd'
      | succ j => exact h5 t j s' o' (by simpa using hs) (by simpa using ho') hd'
theorem FootP.intro2 {fr : Fr} {H : List Bk} {K : Fr → List Bk → Prop} (hT : cx.T.ok P) (hm : P.follows .mixedOrders = true) (mods : List (Nat × List Nat)) (hok : footOK2 ops mods = true) (h : vfootW P cx ops mods 0 ops.toList fr H K) : FootP P cx ops fr H K := by
  refine ⟨fun B E a w hnt hh0 hr Q hQ id => ?_⟩
  obtain ⟨tr, fr', H', ht, hK⟩ := vfoot_yw hT _ h
  unfold footOK2 at hok
  simp only [Bool.and_eq_true] at hok
  obtain ⟨⟨⟨ok1, ok2⟩, ok3⟩, ok4⟩ := hok
  have T := tailWB_spec ok1
  obtain ⟨n, hn⟩ : ∃ n, n = ops.size := ⟨_, rfl⟩
  have hlt : ∀ {j : Nat} {o : Oper}, ops[j]? = some o → j < n := fun ho => by rw [hn]; exact (Array.getElem?_eq_some_iff.1 ho).1
  have uniq : ∀ (a b : Nat) oa ob t, ops[a]? = some oa → ops[b]? = some ob → oa.dst = some t → ob.dst = some t → a = b := fun a b oa ob t q1 q2 q3 q4 => by
    unfold dstF at ok3
    have k1 := List.all_eq_true.1 (List.all_eq_true.1 ok3 a (List.mem_range.2 (by rw [← hn]; exact hlt q1))) b (List.mem_range.2 (by rw [← hn]; exact hlt q2))
    by_cases e : a = b
    · exact e
    · rw [if_neg e, q1, q2] at k1
      simp only [Option.bind_some, q3, q4, if_true] at k1
      cases k1
  have reads : ∀ {i j : Nat} {o oj : Oper} {t : Nat}, ops[i]? = some o → ops[j]? = some oj → oj.dst = some t →   .tmp t ∈ o.op.operands → reach ops 6 j i = true ∨ reach ops 6 i j = true := fun {i j o oj t} q1 q2 q3 q4 => by
    unfold readsF at ok2
    have k1 := List.all_eq_true.1 ok2 i (List.mem_range.2 (by rw [← hn]; exact hlt q1))
    rw [q1] at k1
    have k2 := List.all_eq_true.1 k1 j (List.mem_range.2 (by rw [← hn]; exact hlt q2))
    rw [q2] at k2
    simp only [Option.bind_some, q3] at k2
    rw [if_pos (Array.any_eq_true'.2 ⟨.tmp t, q4, by simp [isT]⟩)] at k2
    split at k2
    · next h => exact .inl h
    · exact .inr k2
  have ord : ∀ {i j x : Nat}, i < j → j < n → x ∈ twr ops mods i → x ∈ touch mods j → reach ops 6 i j = true := fun {i j x} q1 q2 q3 q4 => by
    unfold ordW at ok4
    have k1 := List.all_eq_true.1 (List.all_eq_true.1 ok4 i (List.mem_range.2 (by omega))) j (List.mem_range.2 (by omega))
    rwa [if_pos q1, if_pos (meets_spec q3 q4)] at k1
  have ord' : ∀ {i j x : Nat}, i < j → j < n → x ∈ touch mods i → x ∈ twr ops mods j → reach ops 6 i j = true := fun {i j x} q1 q2 q3 q4 => by
    unfold ordW at ok4
    have k1 := List.all_eq_true.1 (List.all_eq_true.1 ok4 i (List.mem_range.2 (by omega))) j (List.mem_range.2 (by omega))
    rw [if_pos q1] at k1
    split at k1
    · exact k1
    · rwa [if_pos (meets_spec q3 q4)] at k1
  obtain ⟨g1, g2, g3, g4, g5⟩ := ht.get fun a b oa ob t q1 q2 => uniq a b oa ob t (by simpa using q1) (by simpa using q2)
  simp only [Nat.zero_add, Array.getElem?_toList] at g2 g4 g5
  replace g2 := fun (k : Nat) (s : YS) (hs : tr[k]? = some s) => (g2 k s hs).imp fun o ⟨a1, a2, a3, a4, a5, a6⟩ => (⟨a1, a2, a3, a4, fun p hp => ⟨twr_of a1 (a5 p hp).1 (a5 p hp).2.1, (a5 p hp).2.2⟩, a6⟩ : _ ∧ _ ∧ _ ∧ _ ∧ (∀ p ∈ s.md, p.1 ∈ twr ops mods k ∧ p.1 < s.H.length) ∧ _)
  have htl : tr.length = n := by rw [g1, hn]; simp
  obtain ⟨Hb, hHb⟩ : ∃ Hb, Hb = H ++ nwsOf tr := ⟨_, rfl⟩
  rw [← hHb] at g2 g3
  have hget : ∀ {i : Nat} {o : Oper}, ops[i]? = some o → ∃ s, tr[i]? = some s := fun ho => ⟨_, List.getElem?_eq_getElem (by rw [htl]; exact hlt ho)⟩
  -- what the blocks hold behind k operations, in the order of the text
  have mdM : ∀ {k : Nat} {x : Nat}, (∀ j, j < k → x ∉ twr ops mods j) → ∀ b, (x, b) ∉ mdsOf (tr.take k) := fun {k x} hx b hb => by
    unfold mdsOf at hb
    simp only [List.mem_flatten, List.mem_map] at hb
    obtain ⟨_, ⟨s, hs, rfl⟩, hb⟩ := hb
    obtain ⟨j, hj⟩ := List.getElem?_of_mem hs
    have hjk : j < k := by have := (List.getElem?_eq_some_iff.1 hj).1; simp at this; omega
    rw [List.getElem?_take, if_pos hjk] at hj
    obtain ⟨_, _, _, _, _, k5, _⟩ := g2 j s hj
    exact hx j hjk (k5 _ hb).1
  have stab : ∀ (d : Nat) {a x : Nat}, a + d ≤ n → (∀ j, a ≤ j → j < a + d → x ∉ twr ops mods j) → (setL Hb (mdsOf (tr.take (a + d))))[x]? = (setL Hb (mdsOf (tr.take a)))[x]? := by
    intro d
    induction d with
    | zero => exact fun _ _ => rfl
    | succ d ih =>
      intro a x had hx
      obtain ⟨s, hs⟩ : ∃ s, tr[a + d]? = some s := ⟨_, List.getElem?_eq_getElem (by omega)⟩
      rw [show a + (d + 1) = (a + d) + 1 by omega, mdsOf_take_succ hs, setL_cat, setL_out _ _ _ fun b hb => ?_]
      · exact ih (by omega) fun j h1 h2 => hx j h1 (by omega)
      · obtain ⟨_, _, _, _, _, k5, _⟩ := g2 _ s hs
        exact hx (a + d) (by omega) (by omega) (k5 _ hb).1
  let J : List Nat → Act → World → Prop := fun U a' w' => ∃ E' Hx, WRel B Hx E' w' ∧ Hx.length = Hb.length ∧ (∀ x, x ∉ allM mods → Hx[x]? = Hb[x]?) ∧
    (∀ x, x ∈ allM mods → ∀ k, k ≤ n → (∀ j, j < k → x ∈ twr ops mods j → j ∉ U) → (∀ j, k ≤ j → j < n → x ∈ twr ops mods j → j ∈ U) → Hx[x]? = (setL Hb (mdsOf (tr.take k)))[x]?) ∧ a'.tmps.size = B.nt ∧ a'.defers = B.df ∧
    (∀ t, (∀ (j : Nat) (o : Oper), j ∉ U → ops[j]? = some o → o.dst ≠ some t) → DRep w' E' (fr.get t) (a'.tmps.getD t undef)) ∧ (∀ (j : Nat) (s : YS) (o : Oper) (t : Nat), j ∉ U → tr[j]? = some s → ops[j]? = some o → o.dst = some t → DRep w' E' s.d (a'.tmps.getD t undef)) ∧
    (∀ (j : Nat) (s : YS), j ∈ U → tr[j]? = some s → Fresh E' s.H.length (s.H.length + s.nw.length)) ∧ (∀ (j : Nat) (o : Oper), j ∉ U → ops[j]? = some o → ∀ e ∈ o.after, Region.binds .any e = true → e.on ∉ U)
  refine wp_region_any hm ?_
  rw [show wpAny P .any ops Q ops.size = wpAny P .any ops Q (n + 0) by rw [hn]; rfl]
  rw [← hn] at T
  refine wpAny_joint T J ?_ ?_ n (List.range n) _ a w.drew (by simp) List.nodup_range (by simp) (fun t => ?_) (fun t ht => by simpa using ht) (fun j o' hj hjn => absurd (List.mem_range.2 hj) hjn) ?_
  · intro U i o hUnd hiU hin ho hwait a' w' ⟨E', Hx, q1, q2, q3, q4, q5, q6, q7, q8, q9, q10⟩
    obtain ⟨s, hs⟩ := hget ho
    obtain ⟨o1, k1, k2, k3, k4, k5, k6, ⟨p, k7⟩, k8, k9, k10, k11⟩ := g2 i s hs
    rw [ho] at k1
    cases k1
    have hS : ∀ (j : Nat) (o : Oper), (j ∉ U) → ops[j]? = some o → ∀ e ∈ o.after, Region.binds .any e = true → e.on ∉ U := q10
    have rdy : ∀ {j}, reach ops 6 j i = true → j ∉ U := fun hr => reach_ready (S := fun j => j ∉ U) hS hr ho hwait
    have rch : ∀ {j}, reach ops 6 i j = true → j ∈ U := fun {j} hr => Classical.byContradiction fun q => reach_spec (S := fun j => j ∉ U) hS 6 i j hr q hiU
    have rlt : ∀ {f i j}, reach ops f i j = true → i < j := fun {f i j} hr => reach_lt (by rw [← hn]; exact T) f i j hr
    have cur : ∀ x, x ∈ touch mods i → Hx[x]? = (setL Hb (mdsOf (tr.take i)))[x]? := fun x hx => q4 x (touch_allM hx) i (by omega) (fun j hj hxj => rdy (ord hj hin hxj hx)) (fun j hj hjn hxj => by
      rcases Nat.lt_or_ge i j with q | q
      · exact rch (ord' q hjn hx hxj)
      · rw [show j = i by omega]; exact hiU)
    have free : ∀ x, x ∉ allM mods → Hx[x]? = (setL Hb (mdsOf (tr.take i)))[x]? := fun x hx => by
      rw [q3 x hx, setL_out _ _ _ (mdM fun j _ q => hx (touch_allM (twr_sub q)))]
    have hbl : (s.H ++ s.nw).length ≤ Hx.length := by
      have := congrArg List.length k7
      rw [setL_len] at this
      simp at this ⊢
      omega
    unfold wpOp
    rw [ho]
    simp only
    rw [show Region.wanted o (yielded ops a'.tmps) = true by unfold Region.wanted; rw [k2], if_pos rfl]
    refine .inl (k4 B Hx w' E' a' (fun x => ?_) q1 (by rw [List.length_append, maskH_len, ← List.length_append]; exact hbl) (fun x b hx => ?_) (by rw [maskH_len]; exact q9 i s hiU hs) _ Q fun v w2 E2 m1 m2 m3 m4 m5 => ?_)
    · unfold res
      split
      · next hx =>
        cases x with
        | tmp t =>
          show DRep w' E' (s.fr.get t) (a'.tmps.getD t undef)
          by_cases q : ∃ (j : Nat) (oj : Oper), ops[j]? = some oj ∧ oj.dst = some t
          · obtain ⟨j, oj, hj, hd⟩ := q
            obtain ⟨sj, hsj⟩ := hget hj
            rcases reads ho hj hd hx with hrj | hrj
            · rw [k11 t j sj oj (rlt hrj) hsj hj hd]
              exact q8 j sj oj t (rdy hrj) hsj hj hd
            · have hij := rlt hrj
              rw [k10 t fun j' o' hj' ho' hd' => by
                have := uniq j' j o' oj t ho' hj hd' hd
                omega]
              exact q7 t fun j' o' hj' ho' hd' => hj' (by rw [uniq j' j o' oj t ho' hj hd' hd]; exact rch hrj)
          · rw [k10 t fun j o' _ ho' hd => q ⟨j, o', ho', hd⟩]
            exact q7 t fun j o' _ ho' hd => q ⟨j, o', ho', hd⟩
        | const v => exact D.ofV_rep v
        | global g => exact (q1.laid.get _).undata q1.wf
        | func f => exact .fn rfl rfl (fun i d v h => by simp at h) (fun i d v h => by simp at h)
      · exact .junk
    · rcases Nat.lt_or_ge x s.H.length with q | q
      · rw [List.getElem?_append_left (by rw [maskH_len]; exact q)] at hx
        rcases maskH_get hx with hx | ⟨hx, hM⟩
        · exact .inl hx
        · refine .inr ?_
          rw [Nat.zero_add] at hM
          have e1 : (setL Hb (mdsOf (tr.take i)))[x]? = some b := by rw [k7, List.append_assoc, List.getElem?_append_left q, hx]
          by_cases q2 : x ∈ allM mods
          · rw [cur x (hM q2), e1]
          · rw [free x q2, e1]
      · rw [List.getElem?_append_right (by rw [maskH_len]; exact q), maskH_len] at hx
        have hlt2 : x - s.H.length < s.nw.length := (List.getElem?_eq_some_iff.1 hx).1
        have e1 : (setL Hb (mdsOf (tr.take i)))[x]? = some b := by rw [k7, List.append_assoc, List.getElem?_append_right q, List.getElem?_append_left hlt2, hx]
        refine .inr ?_
        rw [← e1]
        by_cases q2 : x ∈ allM mods
        · refine q4 x q2 i (by omega) (fun j hj hxj => ?_) fun j hj hjn hxj => ?_
          · have := rlt (k6 x q (by omega) j (by omega) (twr_sub hxj))
            omega
          · exact rch (k6 x q (by omega) j (by omega) (twr_sub hxj))
        · exact free x q2
    · rw [maskH_len] at m4
      have hne : ∀ {j}, j ∉ U.erase i → j = i ∨ j ∉ U := fun {j} hj => by
        by_cases e : j = i
        · exact .inl e
        · exact .inr fun q => hj ((hUnd.mem_erase_iff).2 ⟨e, q⟩)
      refine ⟨E2, setL Hx s.md, m1, by rw [setL_len, q2], fun x hx => ?_, fun x hx k hk c1 c2 => ?_, put_size.trans q5, put_defers'.trans q6, fun t ht => ?_, fun j s' o' t hj hs' ho' hd' => ?_, fun j s' hj hs' => ?_, fun j o' hj ho' e he hb => ?_⟩
      · rw [setL_out _ _ _ fun b hb => hx (touch_allM (twr_sub (k5 _ hb).1)), q3 x hx]
      · by_cases hxi : x ∈ twr ops mods i
        · have hik : i < k := by
            rcases Nat.lt_or_ge i k with q | q
            · exact q
            · have := c2 i q hin hxi
              exact absurd rfl ((hUnd.mem_erase_iff).1 this).1
          have e1 := stab (k - (i + 1)) (a := i + 1) (x := x) (by omega) fun j h1 h2 h3 => by
            rcases hne (c1 j (by omega) h3) with q | q
            · omega
            · exact q (rch (ord (by omega) (by omega) hxi (twr_sub h3)))
          rw [show i + 1 + (k - (i + 1)) = k by omega] at e1
          rw [e1, mdsOf_take_succ hs, setL_cat]
          exact setL_congr s.md (by rw [setL_len, q2]) (cur x (twr_sub hxi))
        · rw [setL_out _ _ _ fun b hb => hxi (k5 _ hb).1]
          refine q4 x hx k hk (fun j hj hxj => ?_) fun j hj hjn hxj => ((hUnd.mem_erase_iff).1 (c2 j hj hjn hxj)).2
          rcases hne (c1 j hj hxj) with q | q
          · exact absurd (q ▸ hxj) hxi
          · exact q
      · have e1 : (a'.put o.dst v).tmps.getD t undef = a'.tmps.getD t undef := by
          cases hd : o.dst with
          | none => rfl
          | some t' => exact eval_put_ne fun e => ht i o (fun q => absurd rfl ((hUnd.mem_erase_iff).1 q).1) ho (by rw [hd, e])
        rw [e1]
        exact (q7 t fun j o' hj ho' => ht j o' (fun q => hj ((hUnd.mem_erase_iff).1 q).2) ho').move m2 m3
      · by_cases e : j = i
        · subst e
          rw [hs] at hs'
          cases hs'
          rw [ho] at ho'
          cases ho'
          rw [hd']
          have htn : t < a'.tmps.size := by rw [q5, ← hnt]; rw [hd'] at k3; simpa [dstB] using k3
          rw [show (a'.put (some t) v).tmps.getD t undef = v from eval_put_same htn]
          exact m5
        · have e1 : (a'.put o.dst v).tmps.getD t undef = a'.tmps.getD t undef := by
            cases hd : o.dst with
            | none => rfl
            | some t' => exact eval_put_ne fun q => e (uniq j i o' o t ho' ho hd' (by rw [hd, q]))
          rw [e1]
          exact (q8 j s' o' t ((hne hj).resolve_left e) hs' ho' hd').move m2 m3
      · obtain ⟨e1, e2⟩ := (hUnd.mem_erase_iff).1 hj
        obtain ⟨oj, j1, _, _, _, _, j6, _, _, j9, _⟩ := g2 j s' hs'
        intro x hx1 hx2
        have hout : x < s.H.length ∨ s.H.length + s.nw.length ≤ x := by
          rcases Nat.lt_or_ge j i with q | q
          · have := k9 j s' q hs'
            omega
          · have := j9 i s (by omega) hs
            omega
        obtain ⟨f1, f2⟩ := m4 x hout fun b hb => rdy (j6 x hx1 hx2 i (by omega) (twr_sub (k5 _ hb).1)) e2
        obtain ⟨f3, f4⟩ := q9 j s' e2 hs' x hx1 hx2
        exact ⟨f1.trans f3, f2.trans f4⟩
      · intro q
        have q := (hUnd.mem_erase_iff).1 q
        rcases hne hj with rfl | hj
        · rw [ho] at ho'
          cases ho'
          exact hwait e he hb q.2
        · exact q10 j o' hj ho' e he hb q.2
  · intro listed a' w' hs hu ⟨E', Hx, q1, q2, q3, q4, q5, q6, q7, q8, q9, q10⟩
    refine wpAny_tail T [] n listed a' w' (Nat.le_refl _) (fun j => by simp [hn]) hs hu ?_
    have hHx : Hx = H' := by
      have e0 : tr.take n = tr := List.take_of_length_le (by omega)
      refine List.ext_getElem? fun x => ?_
      rw [g3]
      by_cases q : x ∈ allM mods
      · rw [q4 x q n (Nat.le_refl _) (fun _ _ _ => by simp) (fun j h1 h2 => by omega), e0]
      · rw [q3 x q, ← e0, setL_out _ _ _ (mdM fun j _ q2 => q (touch_allM (twr_sub q2)))]
    subst hHx
    refine hQ fr' Hx E' a' w' hK ⟨q5, q6, fun t => ?_, q1⟩
    by_cases q : ∃ (j : Nat) (oj : Oper), ops[j]? = some oj ∧ oj.dst = some t
    · obtain ⟨j, oj, hj, hd⟩ := q
      obtain ⟨sj, hsj⟩ := hget hj
      show DRep w' E' (fr'.get t) _
      rw [g5 t j sj oj hsj hj hd]
      exact q8 j sj oj t (by simp) hsj hj hd
    · show DRep w' E' (fr'.get t) _
      rw [g4 t fun j o' ho' hd => q ⟨j, o', ho', hd⟩]
      exact q7 t fun j o' _ ho' hd => q ⟨j, o', ho', hd⟩
  · simp only [List.mem_range]
    rcases Nat.lt_or_ge t ops.size with q | q
    · simp [q]; omega
    · simp [show ¬ t < ops.size by omega]; omega
  · obtain ⟨d1, d2⟩ := (hr.wr.ext (nwsOf tr)).drew
    refine ⟨E, Hb, by rw [hHb]; exact d1, rfl, fun _ _ => rfl, fun x hx k hk c1 c2 => ?_, hr.sz, hr.df, fun t _ => (hr.fr t).move d2 (Env.own.refl _), fun j s o t hj hs ho => absurd (List.mem_range.2 (hlt ho)) hj, fun j s hj hs x hx1 _ => ?_, fun j o hj ho => absurd (List.mem_range.2 (hlt ho)) hj⟩
    · rw [setL_out _ _ _ (mdM fun j hj q => ?_)]
      exact absurd (c1 j hj q) (by simp; omega)
    · obtain ⟨_, _, _, _, _, _, _, _, k8, _⟩ := g2 j s hs
      exact hr.wr.out x (by show H.length ≤ x; omega)
end
theorem CodeP.foot {P : Program} {cx : Cx} {id : Nat} {ops : Array Oper} {fr : Fr} {H : List Bk} {K : Exit → Fr → List Bk → Prop} (h : FootP P cx ops fr H (K .normal)) : CodeP P cx (.region id ops true) fr H K :=
  ⟨fun B E a w hnt hr => h.run B E a w hnt.1 hnt.2 hr _ (fun fr' H' E' _ _ hk hr' => ⟨fr', H', E', hk, hr'⟩) id⟩
theorem CodeP.condE {P : Program} {cx : Cx} {x : Operand} {c d : Code} {fr : Fr} {H : List Bk} {K : Exit → Fr → List Bk → Prop} (e : BE) (he : fr.ev x = .bool e) (h1 : e.den = true → CodeP P cx c fr H K) (h2 : e.den = false → CodeP P cx d fr H K) : CodeP P cx (.cond x c d) fr H K := by
  refine ⟨fun B E a w hnt h => ?_⟩
  have hx := h.ev x
  rw [he] at hx
  generalize hv : a.eval x = v at hx
  cases hx
  exact wp_cond_split hv (fun q => (h1 q).run B E a w hnt h) (fun q => (h2 q).run B E a w hnt h)
theorem CodeP.to {P : Program} {cx : Cx} {c : Code} {fr : Fr} {H : List Bk} {K : Exit → Fr → List Bk → Prop} (fr1 : Fr) (H1 : List Bk) (he : EntP fr H fr1 H1) (hh : cx.h0 ≤ H1.length) (h : CodeP P cx c fr1 H1 K) : CodeP P cx c fr H K :=
  ⟨fun B E a w hnt hr => h.run B _ a w hnt (EntP.rel (Nat.le_trans hnt.2 hh) he hr)⟩
end Go.Proofs.YtaopkjgldokahaaDoor
