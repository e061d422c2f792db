/- Part 3 of the walks and laws that these claims rest on. No condition. -/
import Derived.Shelf.Sort.Plain
import Derived.RangeFuncNested
import Derived.RangeFuncLeaves
import Derived.RangeFuncBound
import Derived.Shelf.Abstract
import Derived.OwnWalkIn
import Derived.TacticsInMore
import Derived.LoopNIn
import Derived.LoopIn
import Derived.BigGuardIn
import Derived.Test.YtbmcepkccenoaaaPart2
set_option linter.all false
set_option linter.unusedSimpArgs false
set_option linter.unusedVariables false
set_option linter.unnecessarySimpa false
namespace Go.Proofs.Ytbmcepkccenoaaa
open Go.RowKit

/-! Lists that are collected: indices, column. -/
theorem row_app {H H' : List Bk} {α : Type} {ty n ver : Nat} {c : α → List D} {cur cur' : List α} {e : List D} (z : α) (hc : cur' = cur ++ [z]) (he : DsEq e (c z)) : BkEq H H' (.row ty n ver (.app (.map c cur) e)) (.row ty n ver (.map c cur')) := by
  subst hc
  refine .rowe (by simp [RE.den]) fun i a b h1 h2 => ?_
  simp only [RE.den, List.map_append, List.map_cons, List.map_nil] at h1 h2
  rcases Nat.lt_or_ge i cur.length with q | q
  · rw [List.getElem?_append_left (by simpa using q)] at h1 h2
    rw [h1] at h2
    cases h2
    exact ⟨rfl, fun j d d' h3 h4 => by rw [h3] at h4; cases h4; exact .refl _⟩
  · rw [List.getElem?_append_right (by simpa using q)] at h1 h2
    have hi : i - (cur.map c).length = 0 := by
      have := (List.getElem?_eq_some_iff.1 h1).1
      simpa using this
    rw [hi] at h1 h2
    simp at h1 h2
    subst h1 h2
    exact he.get
theorem osl_step {H H' : List Bk} {n b v : Nat} (k : Nat) : SnD H H' (.osl n b v (.lit false) (.lit 0) (.sum (.nat k) (.lit 1))) (.osl n b v (.cmp .eql (.nat (k + 1)) (.lit 0)) (.lit 0) (.nat (k + 1))) := by
  refine .eq (.osl ?_ rfl ?_)
  · show false = (((k + 1 : Nat) : Int) == 0)
    exact (beq_eq_false_iff_ne.2 (by omega)).symm
  · show (k : Int) + 1 = ((k + 1 : Nat) : Int)
    omega
theorem osl_start {H H' : List Bk} {n b v : Nat} : SnD H H' (.osl n b v (.lit true) (.lit 0) (.lit 0)) (.osl n b v (.cmp .eql (.nat 0) (.lit 0)) (.lit 0) (.nat 0)) := .eq (.osl rfl rfl rfl)
theorem map_cells {α : Type} {c : α → List D} {cur : List α} (h : ∀ a, (c a).all D.cellB = true) : ∀ e ∈ (RE.map c cur).den, e.all D.cellB = true := fun e he => by
  simp only [RE.den, List.mem_map] at he
  obtain ⟨a, _, rfl⟩ := he
  exact h a
theorem app_ok {α : Type} {c : α → List D} {cur : List α} {k : Nat} {e : List D} {by_ : Nat} (hk : cur.length = k) (hk2 : k ≤ 1000000) (hc : ∀ a, (c a).all D.cellB = true) (he : e.all D.cellB = true) (hby : by_ ≤ 10000000) :
    (IE.lit 1).den = (RE.lits [e]).den.length ∧ (IE.nat k).den = (RE.map c cur).den.length ∧ (∀ e' ∈ (RE.lits [e]).den, e'.all D.cellB = true) ∧ (∀ e' ∈ (RE.map c cur).den, e'.all D.cellB = true) ∧ (IE.nat k).den + (IE.lit 1).den ≤ 9223372036854775807 ∧ ((IE.nat k).den + (IE.lit 1).den) * (by_ : Int) ≤ 140737488355328 := by
  refine ⟨rfl, ?_, fun e' he' => ?_, map_cells hc, ?_, ?_⟩
  · simp [IE.den, RE.den, hk]
  · simp [RE.den] at he'
    subst he'
    exact he
  · simp only [IE.den]; omega
  · simp only [IE.den]
    exact small_bytes (by omega) (by omega)
theorem conv8 (i : Int) : BitVec.ofInt 8 i = BitVec.ofInt 8 (IE.conv .u8 (.var i)).den := by
  show _ = BitVec.ofInt 8 (IntKind.u8.wrap i)
  apply BitVec.eq_of_toNat_eq
  simp only [BitVec.toNat_ofInt, IntKind.wrap, IntKind.signed, IntKind.bits]
  simp
  try omega
def idxL (l : List ShareD) : List (BitVec 8) := l.map fun s => BitVec.ofInt 8 s.index
set_option maxRecDepth 100000 in
set_option maxHeartbeats 4000000 in
theorem indices_pure (l : List ShareD) (nb : Option BE) (hl : l.length ≤ 100000) : Pure Try.prog 43 [.slm 5 nb ShareD.c l] (.slm 1 none u8C (idxL l)) := by
  obtain ⟨res, hres⟩ : ∃ res, res = idxL l := ⟨_, rfl⟩
  rw [← hres]
  obtain ⟨n, hn⟩ : ∃ n : Nat, n = l.length := ⟨_, rfl⟩
  refine Pure.intro (want := [.slm 1 none u8C res]) T_ok follows Try.func43 rfl (by kernel_rfl) (rs := [.tmp 2]) rfl (by kernel_rfl) ?_
  generalize hP : Try.prog = P
  have hT : T.ok P := hP ▸ T_ok
  have hm : P.follows .mixedOrders = true := hP ▸ follows
  unfold Try.f43
  dsimp only
  cbv
  refine (CallP.inl hT hm (hP ▸ Try.func55) rfl (by kernel_rfl) (rs := [.tmp 4]) rfl (by kernel_rfl) ?_)
  unfold Try.f55
  dsimp only
  cbv
  refine CodeP.virt 4 5 1 rfl ?_
  refine CodeP.loopm hT hm (X := Nat × List (BitVec 8)) (fun x => [(7, .int .i64 (.nat x.1)), (4, .osl 1 1 (x.1 + 1) (.cmp .eql (.nat x.1) (.lit 0)) (.lit 0) (.nat x.1))]) (fun x => [.cells [.slm 5 nb ShareD.c l], .row 5 1 (x.1 + 1) (.map u8C x.2)]) (fun x => x.1 ≤ n ∧ x.2 = idxL (l.take x.1)) (fun x => n - x.1) (0, []) ⟨by simp, rfl⟩ (fun _ => by simp) ⟨?_, ?_, rfl⟩ ?_
  · (cbv; (repeat' (first | exact SnD.refl _ | exact trivial | exact SnD.nat0 | refine And.intro ?_ ?_)))
    exact osl_start
  · (cbv; (repeat' (first | exact trivial | exact BkEq.refl _ | exact SnD.refl _ | exact SnDs.nil | refine BkEq.cells ?_ | refine SnDs.cons ?_ ?_ | refine And.intro ?_ ?_)))
    exact .row rfl
  intro ⟨k, cur⟩ ⟨hk, hc⟩
  replace hk : k ≤ n := hk
  replace hc : cur = idxL (l.take k) := hc
  cbv
  have hcl : cur.length = k := by rw [hc]; simp [idxL]; omega
  refine SplitP.mk (fun hs => ?_) (fun hs => ?_)
  · have hkn : k < l.length := by
      have h5 : decide ((k : Int) < (l.length : Int)) = true := hs
      have := of_decide_eq_true h5
      omega
    clear hs
    refine (CallP.inl hT hm (hP ▸ Try.func65) rfl (by kernel_rfl) (rs := [.tmp 3]) rfl (by kernel_rfl) ?_)
    unfold Try.f65
    dsimp only
    cbv
    refine ElemP.mk (by show (0 : Int) ≤ (k : Int) ∧ (k : Int) < (l.length : Int); omega) (fun s hx => ?_)
    replace hx : l[k]? = some s := hx
    obtain ⟨e, i, t, m, nl, d⟩ := s
    cbv
    refine ReqP.mk (app_ok hcl (by omega) (fun _ => rfl) rfl (by decide)) (fun _ => ?_)
    cbv
    obtain ⟨cur', hcur'⟩ : ∃ cur', cur' = cur ++ [BitVec.ofInt 8 i] := ⟨_, rfl⟩
    refine BackP.intro (k + 1, cur') ⟨by show k + 1 ≤ n; omega, ?_⟩ (by show n - (k + 1) < n - k; omega) ⟨?_, ?_, rfl⟩
    · show cur' = idxL (l.take (k + 1))
      rw [hcur', hc, List.take_add_one, hx]
      simp [idxL]
    · (cbv; (repeat' (first | exact SnD.refl _ | exact trivial | exact SnD.nat0 | refine And.intro ?_ ?_)))
      · exact .inc (by omega)
      · exact osl_step k
    · (cbv; (repeat' (first | exact trivial | exact BkEq.refl _ | exact SnD.refl _ | exact SnDs.nil | refine BkEq.cells ?_ | refine SnDs.cons ?_ ?_ | refine And.intro ?_ ?_)))
      exact row_app (BitVec.ofInt 8 i) hcur' (.cons (.byte (conv8 i)) .nil)
  · have hkn : l.length ≤ k := by
      have h5 : decide ((k : Int) < (l.length : Int)) = false := hs
      have := of_decide_eq_false h5
      omega
    clear hs
    have hk2 : k = l.length := by omega
    refine .mk (.cons (.slm rfl (.inl ⟨_, _, rfl, ?_⟩) rfl ?_ (fun e h => by cases h)) .nil) rfl
    · show cur.map u8C = res.map u8C
      rw [hc, hk2, List.take_length, hres]
    · show (k : Int) = (res.length : Int)
      rw [hres, ← hcl, hc, hk2, List.take_length]
def colL (l : List ShareD) (p : Nat) : List (BitVec 8) := l.map fun s => s.data.getD p 0
set_option maxRecDepth 100000 in
set_option maxHeartbeats 4000000 in
theorem column_pure (l : List ShareD) (nb : Option BE) (p : Nat) (hl : l.length ≤ 100000) (hp : ∀ s ∈ l, p < s.data.length) : Pure Try.prog 44 [.slm 5 nb ShareD.c l, .int .i64 (.nat p)] (.slm 1 none u8C (colL l p)) := by
  obtain ⟨res, hres⟩ : ∃ res, res = colL l p := ⟨_, rfl⟩
  rw [← hres]
  obtain ⟨n, hn⟩ : ∃ n : Nat, n = l.length := ⟨_, rfl⟩
  refine Pure.intro (want := [.slm 1 none u8C res]) T_ok follows Try.func44 rfl (by kernel_rfl) (rs := [.tmp 4]) rfl (by kernel_rfl) ?_
  generalize hP : Try.prog = P
  have hT : T.ok P := hP ▸ T_ok
  have hm : P.follows .mixedOrders = true := hP ▸ follows
  unfold Try.f44
  dsimp only
  cbv
  refine (CallP.inl hT hm (hP ▸ Try.func55) rfl (by kernel_rfl) (rs := [.tmp 4]) rfl (by kernel_rfl) ?_)
  unfold Try.f55
  dsimp only
  cbv
  refine CodeP.virt 4 5 1 rfl ?_
  refine CodeP.loopm hT hm (X := Nat × List (BitVec 8)) (fun x => [(7, .int .i64 (.nat x.1)), (4, .osl 1 2 (x.1 + 1) (.cmp .eql (.nat x.1) (.lit 0)) (.lit 0) (.nat x.1))]) (fun x => [.cells [.slm 5 nb ShareD.c l], .cells [.int .i64 (.nat p)], .row 5 1 (x.1 + 1) (.map u8C x.2)]) (fun x => x.1 ≤ n ∧ x.2 = colL (l.take x.1) p) (fun x => n - x.1) (0, []) ⟨by simp, rfl⟩ (fun _ => by simp) ⟨?_, ?_, rfl⟩ ?_
  · (cbv; (repeat' (first | exact SnD.refl _ | exact trivial | exact SnD.nat0 | refine And.intro ?_ ?_)))
    exact osl_start
  · (cbv; (repeat' (first | exact trivial | exact BkEq.refl _ | exact SnD.refl _ | exact SnDs.nil | refine BkEq.cells ?_ | refine SnDs.cons ?_ ?_ | refine And.intro ?_ ?_)))
    exact .row rfl
  intro ⟨k, cur⟩ ⟨hk, hc⟩
  replace hk : k ≤ n := hk
  replace hc : cur = colL (l.take k) p := hc
  cbv
  have hcl : cur.length = k := by rw [hc]; simp [colL]; omega
  refine SplitP.mk (fun hs => ?_) (fun hs => ?_)
  · have hkn : k < l.length := by
      have h5 : decide ((k : Int) < (l.length : Int)) = true := hs
      have := of_decide_eq_true h5
      omega
    clear hs
    refine (CallP.inl hT hm (hP ▸ Try.func66) rfl (by kernel_rfl) (rs := [.tmp 4]) rfl (by kernel_rfl) ?_)
    unfold Try.f66
    dsimp only
    cbv
    refine ElemP.mk (by show (0 : Int) ≤ (k : Int) ∧ (k : Int) < (l.length : Int); omega) (fun s hx => ?_)
    replace hx : l[k]? = some s := hx
    have hps := hp s (List.mem_of_getElem? hx)
    obtain ⟨e, i, t, m, nl, d⟩ := s
    simp only at hps
    cbv
    refine ElemP.mk (by show (0 : Int) ≤ (p : Int) ∧ (p : Int) < (d.length : Int); omega) (fun z hz => ?_)
    replace hz : d[p]? = some z := hz
    cbv
    refine ReqP.mk (app_ok hcl (by omega) (fun _ => rfl) rfl (by decide)) (fun _ => ?_)
    cbv
    obtain ⟨cur', hcur'⟩ : ∃ cur', cur' = cur ++ [z] := ⟨_, rfl⟩
    refine BackP.intro (k + 1, cur') ⟨by show k + 1 ≤ n; omega, ?_⟩ (by show n - (k + 1) < n - k; omega) ⟨?_, ?_, rfl⟩
    · show cur' = colL (l.take (k + 1)) p
      rw [hcur', hc, List.take_add_one, hx]
      simp [colL, hz]
    · (cbv; (repeat' (first | exact SnD.refl _ | exact trivial | exact SnD.nat0 | refine And.intro ?_ ?_)))
      · exact .inc (by omega)
      · exact osl_step k
    · (cbv; (repeat' (first | exact trivial | exact BkEq.refl _ | exact SnD.refl _ | exact SnDs.nil | refine BkEq.cells ?_ | refine SnDs.cons ?_ ?_ | refine And.intro ?_ ?_)))
      exact row_app z hcur' (.cons (.refl _) .nil)
  · have hkn : l.length ≤ k := by
      have h5 : decide ((k : Int) < (l.length : Int)) = false := hs
      have := of_decide_eq_false h5
      omega
    clear hs
    have hk2 : k = l.length := by omega
    refine .mk (.cons (.slm rfl (.inl ⟨_, _, rfl, ?_⟩) rfl ?_ (fun e h => by cases h)) .nil) rfl
    · show cur.map u8C = res.map u8C
      rw [hc, hk2, List.take_length, hres]
    · show (k : Int) = (res.length : Int)
      rw [hres, ← hcl, hc, hk2, List.take_length]
end Go.Proofs.Ytbmcepkccenoaaa
namespace Go.Proofs.Ytbmcepkccenoaaa
open Go.RowKit

/-! Lists of devices: Index, Contains, Is, Same, Few, valid. -/
def ixFrom (v : Int) : List Int → Nat → Int
  | [], _ => -1
  | x :: r, k => if v = x then k else ixFrom v r (k + 1)
theorem ixFrom_ge (v : Int) : ∀ (l : List Int) (k : Nat), decide (ixFrom v l k ≥ 0) = decide (v ∈ l)
  | [], k => rfl
  | x :: r, k => by
    unfold ixFrom
    by_cases h : v = x
    · rw [if_pos h, decide_eq_true (show (k : Int) ≥ 0 by omega), decide_eq_true (show v ∈ x :: r by simp [h])]
    · rw [if_neg h, ixFrom_ge v r (k + 1)]
      simp [h]
set_option maxRecDepth 100000 in
set_option maxHeartbeats 4000000 in
theorem Index_pure (l : List Int) (nb : Option BE) (v : Int) (hl : l.length < 9223372036854775807) : Pure Try.prog 49 [.slm 1 nb intC l, i64 v] (i64 (ixFrom v l 0)) := by
  obtain ⟨r, hr⟩ : ∃ r, r = ixFrom v l 0 := ⟨_, rfl⟩
  rw [← hr]
  obtain ⟨n, hn⟩ : ∃ n : Nat, n = l.length := ⟨_, rfl⟩
  refine Pure.intro (want := [i64 r]) T_ok follows Try.func49 rfl (by kernel_rfl) (rs := [.tmp 4]) rfl (by kernel_rfl) ?_
  generalize hP : Try.prog = P
  have hT : T.ok P := hP ▸ T_ok
  have hm : P.follows .mixedOrders = true := hP ▸ follows
  unfold Try.f49
  dsimp only
  cbv
  refine CodeP.loopc hT hm (X := Nat) (fun k => [(8, .int .i64 (.nat k))]) (fun k => k ≤ l.length ∧ r = ixFrom v (l.drop k) k) (fun k => n - k) 0 ⟨by simp, hr⟩ (Nat.zero_le _) ?_ rfl ?_
  · (cbv; (repeat' (first | exact SnD.refl _ | exact trivial | exact SnD.nat0 | refine And.intro ?_ ?_)))
  intro k ⟨hk, hq⟩
  cbv
  refine SplitP.mk (fun hs => ?_) (fun hs => ?_)
  · have hkn : k < l.length := by
      have h5 : decide ((k : Int) < (l.length : Int)) = true := hs
      have := of_decide_eq_true h5
      omega
    clear hs
    refine ElemP.mk (by show (0 : Int) ≤ (k : Int) ∧ (k : Int) < (l.length : Int); omega) (fun x hx => ?_)
    replace hx : l[k]? = some x := hx
    rw [drop_cons hx] at hq
    simp only [ixFrom] at hq
    cbv
    refine SplitP.mk (fun hs => ?_) (fun hs => ?_) <;> simp only [BE.eql_t, BE.eql_f, IE.var_d] at hs
    · refine .mk (.cons (.eq (.int ?_)) .nil) rfl
      rw [hq, if_pos hs] 
      rfl
    · rw [if_neg hs] at hq
      refine BackP.intro (k + 1) ⟨by omega, hq⟩ (by show n - (k + 1) < n - k; omega) ⟨?_, HEnt.refl _, rfl⟩
      (cbv; (repeat' (first | exact SnD.refl _ | exact trivial | exact SnD.nat0 | refine And.intro ?_ ?_)))
      exact .inc (by omega)
  · have hkn : l.length ≤ k := by
      have h5 : decide ((k : Int) < (l.length : Int)) = false := hs
      have := of_decide_eq_false h5
      omega
    clear hs
    refine .mk (.cons (.eq (.int ?_)) .nil) rfl
    rw [IE.lit_d, IE.var_d, hq, List.drop_of_length_le (by omega)]
    rfl
set_option maxRecDepth 100000 in
set_option maxHeartbeats 4000000 in
theorem Contains_pure (l : List Int) (nb : Option BE) (v : Int) (hl : l.length < 9223372036854775807) : Pure Try.prog 35 [.slm 1 nb intC l, i64 v] (boolD (decide (v ∈ l))) := by
  have hI := Index_pure l nb v hl
  have hge := ixFrom_ge v l 0
  obtain ⟨x, hx⟩ : ∃ x, x = ixFrom v l 0 := ⟨_, rfl⟩
  rw [← hx] at hI hge
  rw [← hge]
  obtain ⟨r, hr⟩ : ∃ r, r = decide (x ≥ 0) := ⟨_, rfl⟩
  rw [← hr]
  refine Pure.intro (want := [boolD r]) T_ok follows Try.func35 rfl (by kernel_rfl) (rs := [.tmp 4]) rfl (by kernel_rfl) ?_
  generalize hP : Try.prog = P at *
  have hT : T.ok P := hP ▸ T_ok
  have hm : P.follows .mixedOrders = true := hP ▸ follows
  unfold Try.f35
  dsimp only
  cbv
  refine CallP.pure _ hI rfl ?_
  cbv
  exact .mk (.cons (.eq (.bool hr.symm)) .nil) rfl
set_option maxRecDepth 100000 in
set_option maxHeartbeats 4000000 in
theorem Is_pure (f : FenceD) (v : Int) (hl : f.devices.length < 9223372036854775807) : Pure Try.prog 14 [f.d, i64 v] (boolD (decide (v ∈ f.devices))) := by
  obtain ⟨no, nl, dv⟩ := f
  have hC := Contains_pure dv (some (.var nl)) v hl
  simp only
  obtain ⟨r, hr⟩ : ∃ r, r = decide (v ∈ dv) := ⟨_, rfl⟩
  rw [← hr] at hC ⊢
  refine Pure.intro (want := [boolD r]) T_ok follows Try.func14 rfl (by kernel_rfl) (rs := [.tmp 4]) rfl (by kernel_rfl) ?_
  generalize hP : Try.prog = P at *
  have hT : T.ok P := hP ▸ T_ok
  have hm : P.follows .mixedOrders = true := hP ▸ follows
  unfold Try.f14
  dsimp only
  cbv
  refine CallP.pure _ hC rfl ?_
  cbv
  exact .mk (.cons (.eq (.refl _)) .nil) rfl
set_option maxRecDepth 100000 in
set_option maxHeartbeats 4000000 in
theorem RIs_pure (f : FenceD) (v : Int) (hl : f.devices.length < 9223372036854775807) : Pure Try.prog 15 [f.d, i64 v] (boolD (decide (v ∈ f.devices))) := by
  obtain ⟨no, nl, l⟩ := f
  simp only at hl
  simp only
  obtain ⟨r, hr⟩ : ∃ r, r = decide (v ∈ l) := ⟨_, rfl⟩
  rw [← hr]
  obtain ⟨n, hn⟩ : ∃ n : Nat, n = l.length := ⟨_, rfl⟩
  refine Pure.intro (want := [boolD r]) T_ok follows Try.func15 rfl (by kernel_rfl) (rs := [.tmp 4]) rfl (by kernel_rfl) ?_
  generalize hP : Try.prog = P
  have hT : T.ok P := hP ▸ T_ok
  have hm : P.follows .mixedOrders = true := hP ▸ follows
  unfold Try.f15
  dsimp only
  cbv
  refine CodeP.loopc hT hm (X := Nat) (fun k => [(5, .int .i64 (.nat k))]) (fun k => k ≤ l.length ∧ r = decide (v ∈ l.drop k)) (fun k => n - k) 0 ⟨by simp, hr⟩ (Nat.zero_le _) ?_ rfl ?_
  · (cbv; (repeat' (first | exact SnD.refl _ | exact trivial | exact SnD.nat0 | refine And.intro ?_ ?_)))
  intro k ⟨hk, hq⟩
  cbv
  refine SplitP.mk (fun hs => ?_) (fun hs => ?_)
  · have hkn : k < l.length := by
      have h5 : decide ((k : Int) < (l.length : Int)) = true := hs
      have := of_decide_eq_true h5
      omega
    clear hs
    refine ElemP.mk (by show (0 : Int) ≤ (k : Int) ∧ (k : Int) < (l.length : Int); omega) (fun x hx => ?_)
    replace hx : l[k]? = some x := hx
    rw [drop_cons hx] at hq
    cbv
    refine SplitP.mk (fun hs => ?_) (fun hs => ?_) <;> simp only [BE.eql_t, BE.eql_f, IE.var_d] at hs
    · refine .mk (.cons (.eq (.bool ?_)) .nil) rfl
      rw [BE.lit_d, BE.var_d]
      rw [hq, hs]; exact (decide_eq_true (by simp)).symm
    · refine BackP.intro (k + 1) ⟨by omega, ?_⟩ (by show n - (k + 1) < n - k; omega) ⟨?_, HEnt.refl _, rfl⟩
      · rw [hq]
        have : ¬ v = x := fun e => hs e.symm
        simp [this]
      · (cbv; (repeat' (first | exact SnD.refl _ | exact trivial | exact SnD.nat0 | refine And.intro ?_ ?_)))
        exact .inc (by omega)
  · have hkn : l.length ≤ k := by
      have h5 : decide ((k : Int) < (l.length : Int)) = false := hs
      have := of_decide_eq_false h5
      omega
    clear hs
    refine .mk (.cons (.eq (.bool ?_)) .nil) rfl
    rw [BE.lit_d, BE.var_d]
    rw [hq, List.drop_of_length_le (by omega)]; rfl
set_option maxRecDepth 100000 in
set_option maxHeartbeats 4000000 in
theorem FFew_pure (f : FenceD) (vs : List VoteD) (nb : Option BE) : Pure Try.prog 10 [f.d, .slm 3 nb VoteD.c vs] (boolD (decide (f.devices.length ≤ 10 ∧ vs.length ≤ 10))) := by
  obtain ⟨no, nl, l⟩ := f
  simp only
  obtain ⟨r, hr⟩ : ∃ r, r = decide (l.length ≤ 10 ∧ vs.length ≤ 10) := ⟨_, rfl⟩
  rw [← hr]
  refine Pure.intro (want := [boolD r]) T_ok follows Try.func10 rfl (by kernel_rfl) (rs := [.tmp 4]) rfl (by kernel_rfl) ?_
  generalize hP : Try.prog = P
  have hT : T.ok P := hP ▸ T_ok
  have hm : P.follows .mixedOrders = true := hP ▸ follows
  unfold Try.f10
  dsimp only
  cbv
  refine SplitP.mk (fun hs => ?_) (fun hs => ?_)
  · have h1 := of_decide_eq_true (show decide ((l.length : Int) ≤ 10) = true from hs)
    refine .mk (.cons (.eq (.bool ?_)) .nil) rfl
    show decide ((vs.length : Int) ≤ 10) = r
    rw [hr]
    exact decide_eq_decide.2 ⟨fun h => ⟨by omega, by omega⟩, fun h => by omega⟩
  · have h1 := of_decide_eq_false (show decide ((l.length : Int) ≤ 10) = false from hs)
    refine .mk (.cons (.eq (.bool ?_)) .nil) rfl
    rw [BE.lit_d, BE.var_d]
    rw [hr]; exact (decide_eq_false (by omega)).symm
def sameB (a b : FenceD) : Bool := decide (a.no = b.no ∧ a.devices = b.devices)
set_option maxRecDepth 100000 in
set_option maxHeartbeats 4000000 in
theorem FSame_pure (a b : FenceD) (hl : a.devices.length < 9223372036854775807) : Pure Try.prog 13 [a.d, b.d] (boolD (sameB a b)) := by
  obtain ⟨no, nl, l⟩ := a
  obtain ⟨no', nl', m⟩ := b
  simp only at hl
  simp only [sameB]
  obtain ⟨r, hr⟩ : ∃ r, r = decide (no = no' ∧ l = m) := ⟨_, rfl⟩
  rw [← hr]
  obtain ⟨n, hn⟩ : ∃ n : Nat, n = l.length := ⟨_, rfl⟩
  refine Pure.intro (want := [boolD r]) T_ok follows Try.func13 rfl (by kernel_rfl) (rs := [.tmp 4]) rfl (by kernel_rfl) ?_
  generalize hP : Try.prog = P
  have hT : T.ok P := hP ▸ T_ok
  have hm : P.follows .mixedOrders = true := hP ▸ follows
  unfold Try.f13
  dsimp only
  cbv
  refine SplitP.mk (fun hs => ?_) (fun hs => ?_) <;> simp only [BE.neq_t, BE.neq_f, IE.var_d] at hs
  · refine .mk (.cons (.eq (.bool ?_)) .nil) rfl
    rw [BE.lit_d, BE.var_d]
    rw [hr]; exact (decide_eq_false fun e => hs e.1).symm
  refine SplitP.mk (fun h2 => ?_) (fun h2 => ?_)
  · have h3 : ((l.length : Int) != (m.length : Int)) = true := h2
    refine .mk (.cons (.eq (.bool ?_)) .nil) rfl
    rw [BE.lit_d, BE.var_d]
    rw [hr]; exact (decide_eq_false fun e => by rw [e.2] at h3; simp at h3).symm
  have h3 : l.length = m.length := by
    have h3 : ((l.length : Int) != (m.length : Int)) = false := h2
    simp at h3
    omega
  have hr' : r = decide (l = m) := by rw [hr]; exact decide_eq_decide.2 ⟨fun h => h.2, fun h => ⟨hs, h⟩⟩
  clear hr h2
  refine CodeP.loopc hT hm (X := Nat) (fun k => [(5, .int .i64 (.nat k))]) (fun k => k ≤ l.length ∧ r = decide (l.drop k = m.drop k)) (fun k => n - k) 0 ⟨by simp, hr'⟩ (Nat.zero_le _) ?_ rfl ?_
  · (cbv; (repeat' (first | exact SnD.refl _ | exact trivial | exact SnD.nat0 | refine And.intro ?_ ?_)))
  intro k ⟨hk, hq⟩
  cbv
  refine SplitP.mk (fun hs => ?_) (fun hs => ?_)
  · have hkn : k < l.length := by
      have h5 : decide ((k : Int) < (l.length : Int)) = true := hs
      have := of_decide_eq_true h5
      omega
    clear hs
    refine ElemP.mk (by show (0 : Int) ≤ (k : Int) ∧ (k : Int) < (l.length : Int); omega) (fun x hx => ?_)
    replace hx : l[k]? = some x := hx
    cbv
    refine ElemP.mk (by show (0 : Int) ≤ (k : Int) ∧ (k : Int) < (m.length : Int); omega) (fun y hy => ?_)
    replace hy : m[k]? = some y := hy
    rw [drop_cons hx, drop_cons hy] at hq
    cbv
    refine SplitP.mk (fun hs => ?_) (fun hs => ?_) <;> simp only [BE.neq_t, BE.neq_f, IE.var_d] at hs
    · refine .mk (.cons (.eq (.bool ?_)) .nil) rfl
      rw [BE.lit_d, BE.var_d]
      rw [hq]; exact (decide_eq_false fun e => hs (by injection e)).symm
    · refine BackP.intro (k + 1) ⟨by omega, ?_⟩ (by show n - (k + 1) < n - k; omega) ⟨?_, HEnt.refl _, rfl⟩
      · rw [hq, hs]
        exact decide_eq_decide.2 ⟨fun h => by injection h, fun h => by rw [h]⟩
      · (cbv; (repeat' (first | exact SnD.refl _ | exact trivial | exact SnD.nat0 | refine And.intro ?_ ?_)))
        exact .inc (by omega)
  · have hkn : l.length ≤ k := by
      have h5 : decide ((k : Int) < (l.length : Int)) = false := hs
      have := of_decide_eq_false h5
      omega
    clear hs
    refine .mk (.cons (.eq (.bool ?_)) .nil) rfl
    rw [BE.lit_d, BE.var_d]
    rw [hq, List.drop_of_length_le (by omega), List.drop_of_length_le (by omega)]; rfl
end Go.Proofs.Ytbmcepkccenoaaa
namespace Go.Proofs.Ytbmcepkccenoaaa
open Go.RowKit

/-! valid fences, in the code and in the reference. -/
def incFrom (dv last : Int) : List Int → Bool
  | [] => true
  | d :: r => decide (last < d ∧ d < dv) && incFrom dv d r
def fvalidB (f : FenceD) (dv : Int) : Bool := decide (1 ≤ dv ∧ dv ≤ 4 ∧ 0 ≤ f.no ∧ f.no ≤ 1048576) && incFrom dv (-1) f.devices
set_option maxRecDepth 100000 in
set_option maxHeartbeats 4000000 in
theorem valid_pure (f : FenceD) (dv : Int) (hl : f.devices.length < 9223372036854775807) : Pure Try.prog 27 [f.d, i64 dv] (boolD (fvalidB f dv)) := by
  obtain ⟨no, nl, l⟩ := f
  simp only at hl
  simp only [fvalidB]
  obtain ⟨r, hr⟩ : ∃ r, r = (decide (1 ≤ dv ∧ dv ≤ 4 ∧ 0 ≤ no ∧ no ≤ 1048576) && incFrom dv (-1) l) := ⟨_, rfl⟩
  rw [← hr]
  obtain ⟨n, hn⟩ : ∃ n : Nat, n = l.length := ⟨_, rfl⟩
  have bad : ¬ (1 ≤ dv ∧ dv ≤ 4 ∧ 0 ≤ no ∧ no ≤ 1048576) → r = false := fun h => by rw [hr, decide_eq_false h]; rfl
  refine Pure.intro (want := [boolD r]) T_ok follows Try.func27 rfl (by kernel_rfl) (rs := [.tmp 4]) rfl (by kernel_rfl) ?_
  generalize hP : Try.prog = P
  have hT : T.ok P := hP ▸ T_ok
  have hm : P.follows .mixedOrders = true := hP ▸ follows
  unfold Try.f27
  dsimp only
  cbv
  refine SplitP.mk (fun hs => ?_) (fun hs => ?_) <;> simp only [BE.lss_t, BE.lss_f, BE.leq_t, BE.leq_f, BE.gtr_t, BE.gtr_f, BE.geq_t, BE.geq_f, BE.eql_t, BE.eql_f, BE.neq_t, BE.neq_f, BE.not_t, BE.not_f, BE.var_d, BE.lit_d, BE.seq_t, BE.seq_f, BE.beq_t, BE.beq_f, IE.var_d, IE.lit_d, IE.nat_d, IE.len_d, IE.sum_d, IE.u8_d, ncast, Int.ofNat_lt, Int.ofNat_le, Int.ofNat_inj] at hs
  · refine .mk (.cons (.eq (.bool ?_)) .nil) rfl
    rw [BE.lit_d, BE.var_d]
    rw [bad (by omega)]
  refine SplitP.mk (fun hs => ?_) (fun hs => ?_) <;> simp only [BE.lss_t, BE.lss_f, BE.leq_t, BE.leq_f, BE.gtr_t, BE.gtr_f, BE.geq_t, BE.geq_f, BE.eql_t, BE.eql_f, BE.neq_t, BE.neq_f, BE.not_t, BE.not_f, BE.var_d, BE.lit_d, BE.seq_t, BE.seq_f, BE.beq_t, BE.beq_f, IE.var_d, IE.lit_d, IE.nat_d, IE.len_d, IE.sum_d, IE.u8_d, ncast, Int.ofNat_lt, Int.ofNat_le, Int.ofNat_inj] at hs
  · refine .mk (.cons (.eq (.bool ?_)) .nil) rfl
    rw [BE.lit_d, BE.var_d]
    rw [bad (by omega)]
  refine SplitP.mk (fun hs => ?_) (fun hs => ?_) <;> simp only [BE.lss_t, BE.lss_f, BE.leq_t, BE.leq_f, BE.gtr_t, BE.gtr_f, BE.geq_t, BE.geq_f, BE.eql_t, BE.eql_f, BE.neq_t, BE.neq_f, BE.not_t, BE.not_f, BE.var_d, BE.lit_d, BE.seq_t, BE.seq_f, BE.beq_t, BE.beq_f, IE.var_d, IE.lit_d, IE.nat_d, IE.len_d, IE.sum_d, IE.u8_d, ncast, Int.ofNat_lt, Int.ofNat_le, Int.ofNat_inj] at hs
  · refine .mk (.cons (.eq (.bool ?_)) .nil) rfl
    rw [BE.lit_d, BE.var_d]
    rw [bad (by omega)]
  refine SplitP.mk (fun hs => ?_) (fun hs => ?_) <;> simp only [BE.lss_t, BE.lss_f, BE.leq_t, BE.leq_f, BE.gtr_t, BE.gtr_f, BE.geq_t, BE.geq_f, BE.eql_t, BE.eql_f, BE.neq_t, BE.neq_f, BE.not_t, BE.not_f, BE.var_d, BE.lit_d, BE.seq_t, BE.seq_f, BE.beq_t, BE.beq_f, IE.var_d, IE.lit_d, IE.nat_d, IE.len_d, IE.sum_d, IE.u8_d, ncast, Int.ofNat_lt, Int.ofNat_le, Int.ofNat_inj] at hs
  · refine .mk (.cons (.eq (.bool ?_)) .nil) rfl
    rw [BE.lit_d, BE.var_d]
    rw [bad (by omega)]
  have hq0 : r = incFrom dv (-1) l := by rw [hr, decide_eq_true (by omega), Bool.true_and]
  clear bad hr
  refine CodeP.loopc hT hm (X := Nat × Int) (fun x => [(27, .int .i64 (.nat x.1)), (5, i64 x.2)]) (fun x => x.1 ≤ n ∧ r = incFrom dv x.2 (l.drop x.1)) (fun x => n - x.1) (0, -1) ⟨by simp, hq0⟩ (Nat.zero_le _) ?_ rfl ?_
  · (cbv; (repeat' (first | exact SnD.refl _ | exact trivial | exact SnD.nat0 | refine And.intro ?_ ?_)))
    exact .eq (.int rfl)
  intro ⟨k, last⟩ ⟨hk, hq⟩
  replace hk : k ≤ n := hk
  replace hq : r = incFrom dv last (l.drop k) := hq
  cbv
  refine SplitP.mk (fun hs => ?_) (fun hs => ?_)
  · have hkn : k < l.length := by
      have h5 : decide ((k : Int) < (l.length : Int)) = true := hs
      have := of_decide_eq_true h5
      omega
    clear hs
    refine ElemP.mk (by show (0 : Int) ≤ (k : Int) ∧ (k : Int) < (l.length : Int); omega) (fun x hx => ?_)
    replace hx : l[k]? = some x := hx
    rw [drop_cons hx] at hq
    simp only [incFrom] at hq
    cbv
    refine SplitP.mk (fun hs => ?_) (fun hs => ?_) <;> simp only [BE.lss_t, BE.lss_f, BE.leq_t, BE.leq_f, BE.gtr_t, BE.gtr_f, BE.geq_t, BE.geq_f, BE.eql_t, BE.eql_f, BE.neq_t, BE.neq_f, BE.not_t, BE.not_f, BE.var_d, BE.lit_d, BE.seq_t, BE.seq_f, BE.beq_t, BE.beq_f, IE.var_d, IE.lit_d, IE.nat_d, IE.len_d, IE.sum_d, IE.u8_d, ncast, Int.ofNat_lt, Int.ofNat_le, Int.ofNat_inj] at hs
    · refine .mk (.cons (.eq (.bool ?_)) .nil) rfl
      rw [BE.lit_d, BE.var_d]
      rw [hq, decide_eq_false (by omega)]; rfl
    refine SplitP.mk (fun hs => ?_) (fun hs => ?_) <;> simp only [BE.lss_t, BE.lss_f, BE.leq_t, BE.leq_f, BE.gtr_t, BE.gtr_f, BE.geq_t, BE.geq_f, BE.eql_t, BE.eql_f, BE.neq_t, BE.neq_f, BE.not_t, BE.not_f, BE.var_d, BE.lit_d, BE.seq_t, BE.seq_f, BE.beq_t, BE.beq_f, IE.var_d, IE.lit_d, IE.nat_d, IE.len_d, IE.sum_d, IE.u8_d, ncast, Int.ofNat_lt, Int.ofNat_le, Int.ofNat_inj] at hs
    · refine .mk (.cons (.eq (.bool ?_)) .nil) rfl
      rw [BE.lit_d, BE.var_d]
      rw [hq, decide_eq_false (by omega)]; rfl
    refine BackP.intro (k + 1, x) ⟨by show k + 1 ≤ n; omega, ?_⟩ (by show n - (k + 1) < n - k; omega) ⟨?_, HEnt.refl _, rfl⟩
    · show r = incFrom dv x (l.drop (k + 1))
      rw [hq, decide_eq_true (by omega), Bool.true_and]
    · (cbv; (repeat' (first | exact SnD.refl _ | exact trivial | exact SnD.nat0 | refine And.intro ?_ ?_)))
      exact .inc (by omega)
  · have hkn : l.length ≤ k := by
      have h5 : decide ((k : Int) < (l.length : Int)) = false := hs
      have := of_decide_eq_false h5
      omega
    clear hs
    refine .mk (.cons (.eq (.bool ?_)) .nil) rfl
    rw [BE.lit_d, BE.var_d]
    rw [hq, List.drop_of_length_le (by omega)]; rfl
set_option maxRecDepth 100000 in
set_option maxHeartbeats 4000000 in
theorem RValid_pure (f : FenceD) (dv : Int) (hl : f.devices.length < 9223372036854775807) : Pure Try.prog 32 [f.d, i64 dv] (boolD (fvalidB f dv)) := by
  obtain ⟨no, nl, l⟩ := f
  simp only at hl
  simp only [fvalidB]
  obtain ⟨r, hr⟩ : ∃ r, r = (decide (1 ≤ dv ∧ dv ≤ 4 ∧ 0 ≤ no ∧ no ≤ 1048576) && incFrom dv (-1) l) := ⟨_, rfl⟩
  rw [← hr]
  obtain ⟨n, hn⟩ : ∃ n : Nat, n = l.length := ⟨_, rfl⟩
  have bad : ¬ (1 ≤ dv ∧ dv ≤ 4 ∧ 0 ≤ no ∧ no ≤ 1048576) → r = false := fun h => by rw [hr, decide_eq_false h]; rfl
  refine Pure.intro (want := [boolD r]) T_ok follows Try.func32 rfl (by kernel_rfl) (rs := [.tmp 4]) rfl (by kernel_rfl) ?_
  generalize hP : Try.prog = P
  have hT : T.ok P := hP ▸ T_ok
  have hm : P.follows .mixedOrders = true := hP ▸ follows
  unfold Try.f32
  dsimp only
  cbv
  refine SplitP.mk (fun hs => ?_) (fun hs => ?_) <;> simp only [BE.lss_t, BE.lss_f, BE.leq_t, BE.leq_f, BE.gtr_t, BE.gtr_f, BE.geq_t, BE.geq_f, BE.eql_t, BE.eql_f, BE.neq_t, BE.neq_f, BE.not_t, BE.not_f, BE.var_d, BE.lit_d, BE.seq_t, BE.seq_f, BE.beq_t, BE.beq_f, IE.var_d, IE.lit_d, IE.nat_d, IE.len_d, IE.sum_d, IE.u8_d, ncast, Int.ofNat_lt, Int.ofNat_le, Int.ofNat_inj] at hs
  · refine .mk (.cons (.eq (.bool ?_)) .nil) rfl
    rw [BE.lit_d, BE.var_d]
    rw [bad (by omega)]
  refine SplitP.mk (fun hs => ?_) (fun hs => ?_) <;> simp only [BE.lss_t, BE.lss_f, BE.leq_t, BE.leq_f, BE.gtr_t, BE.gtr_f, BE.geq_t, BE.geq_f, BE.eql_t, BE.eql_f, BE.neq_t, BE.neq_f, BE.not_t, BE.not_f, BE.var_d, BE.lit_d, BE.seq_t, BE.seq_f, BE.beq_t, BE.beq_f, IE.var_d, IE.lit_d, IE.nat_d, IE.len_d, IE.sum_d, IE.u8_d, ncast, Int.ofNat_lt, Int.ofNat_le, Int.ofNat_inj] at hs
  · refine .mk (.cons (.eq (.bool ?_)) .nil) rfl
    rw [BE.lit_d, BE.var_d]
    rw [bad (by omega)]
  refine SplitP.mk (fun hs => ?_) (fun hs => ?_) <;> simp only [BE.lss_t, BE.lss_f, BE.leq_t, BE.leq_f, BE.gtr_t, BE.gtr_f, BE.geq_t, BE.geq_f, BE.eql_t, BE.eql_f, BE.neq_t, BE.neq_f, BE.not_t, BE.not_f, BE.var_d, BE.lit_d, BE.seq_t, BE.seq_f, BE.beq_t, BE.beq_f, IE.var_d, IE.lit_d, IE.nat_d, IE.len_d, IE.sum_d, IE.u8_d, ncast, Int.ofNat_lt, Int.ofNat_le, Int.ofNat_inj] at hs
  · refine .mk (.cons (.eq (.bool ?_)) .nil) rfl
    rw [BE.lit_d, BE.var_d]
    rw [bad (by omega)]
  refine SplitP.mk (fun hs => ?_) (fun hs => ?_) <;> simp only [BE.lss_t, BE.lss_f, BE.leq_t, BE.leq_f, BE.gtr_t, BE.gtr_f, BE.geq_t, BE.geq_f, BE.eql_t, BE.eql_f, BE.neq_t, BE.neq_f, BE.not_t, BE.not_f, BE.var_d, BE.lit_d, BE.seq_t, BE.seq_f, BE.beq_t, BE.beq_f, IE.var_d, IE.lit_d, IE.nat_d, IE.len_d, IE.sum_d, IE.u8_d, ncast, Int.ofNat_lt, Int.ofNat_le, Int.ofNat_inj] at hs
  · refine .mk (.cons (.eq (.bool ?_)) .nil) rfl
    rw [BE.lit_d, BE.var_d]
    rw [bad (by omega)]
  have hq0 : r = incFrom dv (-1) l := by rw [hr, decide_eq_true (by omega), Bool.true_and]
  clear bad hr
  refine CodeP.loopc hT hm (X := Nat × Int) (fun x => [(5, .int .i64 (.nat x.1))]) (fun x => x.1 ≤ n ∧ r = incFrom dv x.2 (l.drop x.1) ∧ (x.1 = 0 → x.2 = -1) ∧ (0 < x.1 → l[x.1 - 1]? = some x.2 ∧ 0 ≤ x.2)) (fun x => n - x.1) (0, -1) ⟨by simp, hq0, fun _ => rfl, fun h => absurd h (by simp)⟩ (Nat.zero_le _) ?_ rfl ?_
  · (cbv; (repeat' (first | exact SnD.refl _ | exact trivial | exact SnD.nat0 | refine And.intro ?_ ?_)))
  intro ⟨k, last⟩ ⟨hk, hq, hz, hpv⟩
  replace hk : k ≤ n := hk
  replace hq : r = incFrom dv last (l.drop k) := hq
  replace hz : k = 0 → last = -1 := hz
  replace hpv : 0 < k → l[k - 1]? = some last ∧ 0 ≤ last := hpv
  have hlast : -1 ≤ last := by
    rcases Nat.eq_zero_or_pos k with q | q
    · rw [hz q]; omega
    · have := (hpv q).2; omega
  cbv
  refine SplitP.mk (fun hs => ?_) (fun hs => ?_)
  · have hkn : k < l.length := by
      have h5 : decide ((k : Int) < (l.length : Int)) = true := hs
      have := of_decide_eq_true h5
      omega
    clear hs
    refine ⟨by kernel_rfl, ?_⟩
    cbv
    refine ElemP.mk (by show (0 : Int) ≤ (k : Int) ∧ (k : Int) < (l.length : Int); omega) (fun x hx => ?_)
    replace hx : l[k]? = some x := hx
    rw [drop_cons hx] at hq
    simp only [incFrom] at hq
    cbv
    refine SplitP.mk (fun hs => ?_) (fun hs => ?_) <;> simp only [BE.lss_t, BE.lss_f, BE.leq_t, BE.leq_f, BE.gtr_t, BE.gtr_f, BE.geq_t, BE.geq_f, BE.eql_t, BE.eql_f, BE.neq_t, BE.neq_f, BE.not_t, BE.not_f, BE.var_d, BE.lit_d, BE.seq_t, BE.seq_f, BE.beq_t, BE.beq_f, IE.var_d, IE.lit_d, IE.nat_d, IE.len_d, IE.sum_d, IE.u8_d, ncast, Int.ofNat_lt, Int.ofNat_le, Int.ofNat_inj] at hs
    · refine .mk (.cons (.eq (.bool ?_)) .nil) rfl
      rw [BE.lit_d, BE.var_d]
      rw [hq, decide_eq_false (by omega)]; rfl
    refine ElemP.mk (by show (0 : Int) ≤ (k : Int) ∧ (k : Int) < (l.length : Int); omega) (fun x' hx' => ?_)
    replace hx' : l[k]? = some x' := hx'
    rw [hx] at hx'
    simp only [Option.some.injEq] at hx'
    subst hx'
    cbv
    refine SplitP.mk (fun hs => ?_) (fun hs => ?_) <;> simp only [BE.lss_t, BE.lss_f, BE.leq_t, BE.leq_f, BE.gtr_t, BE.gtr_f, BE.geq_t, BE.geq_f, BE.eql_t, BE.eql_f, BE.neq_t, BE.neq_f, BE.not_t, BE.not_f, BE.var_d, BE.lit_d, BE.seq_t, BE.seq_f, BE.beq_t, BE.beq_f, IE.var_d, IE.lit_d, IE.nat_d, IE.len_d, IE.sum_d, IE.u8_d, ncast, Int.ofNat_lt, Int.ofNat_le, Int.ofNat_inj] at hs
    · refine .mk (.cons (.eq (.bool ?_)) .nil) rfl
      rw [BE.lit_d, BE.var_d]
      rw [hq, decide_eq_false (by omega)]; rfl
    refine SplitP.mk (fun h10 => ?_) (fun h10 => ?_)
    · have hk0 : 0 < k := by
        have h11 : decide ((k : Int) > 0) = true := h10
        have := of_decide_eq_true h11
        omega
      obtain ⟨hp1, hp2⟩ := hpv hk0
      have ek : binDen .sub .i64 (k : Int) 1 = ((k - 1 : Nat) : Int) := by rw [sub64 (by omega) (by omega)]; omega
      refine ElemP.mk (by show (0 : Int) ≤ (k : Int) ∧ (k : Int) < (l.length : Int); omega) (fun x'' hx'' => ?_)
      replace hx'' : l[k]? = some x'' := hx''
      rw [hx] at hx''
      simp only [Option.some.injEq] at hx''
      subst hx''
      cbv
      refine ElemP.mk (by show (0 : Int) ≤ binDen .sub .i64 (k : Int) 1 ∧ binDen .sub .i64 (k : Int) 1 < (l.length : Int); rw [ek]; ((try simp only [ncast] at *); omega)) (fun p' hp' => ?_)
      replace hp' : l[(binDen .sub .i64 (k : Int) 1).toNat]? = some p' := hp'
      rw [ek, Int.toNat_natCast, hp1] at hp'
      simp only [Option.some.injEq] at hp'
      subst hp'
      clear h10
      cbv
      refine SplitP.mk (fun hs => ?_) (fun hs => ?_) <;> simp only [BE.lss_t, BE.lss_f, BE.leq_t, BE.leq_f, BE.gtr_t, BE.gtr_f, BE.geq_t, BE.geq_f, BE.eql_t, BE.eql_f, BE.neq_t, BE.neq_f, BE.not_t, BE.not_f, BE.var_d, BE.lit_d, BE.seq_t, BE.seq_f, BE.beq_t, BE.beq_f, IE.var_d, IE.lit_d, IE.nat_d, IE.len_d, IE.sum_d, IE.u8_d, ncast, Int.ofNat_lt, Int.ofNat_le, Int.ofNat_inj] at hs
      · refine .mk (.cons (.eq (.bool ?_)) .nil) rfl
        rw [BE.lit_d, BE.var_d]
        rw [hq, decide_eq_false (by omega)]; rfl
      refine BackP.intro (k + 1, x) ⟨by show k + 1 ≤ n; omega, ?_, fun h => absurd h (by simp), fun _ => ⟨hx, by show 0 ≤ x; omega⟩⟩ (by show n - (k + 1) < n - k; omega) ⟨?_, HEnt.refl _, rfl⟩
      · show r = incFrom dv x (l.drop (k + 1))
        rw [hq, decide_eq_true (by omega), Bool.true_and]
      · (cbv; (repeat' (first | exact SnD.refl _ | exact trivial | exact SnD.nat0 | refine And.intro ?_ ?_)))
        exact .inc (by omega)
    · have hk0 : k = 0 := by
        have h11 : decide ((k : Int) > 0) = false := h10
        have := of_decide_eq_false h11
        omega
      have hl0 := hz hk0
      clear h10
      refine BackP.intro (k + 1, x) ⟨by show k + 1 ≤ n; omega, ?_, fun h => absurd h (by simp), fun _ => ⟨hx, by show 0 ≤ x; omega⟩⟩ (by show n - (k + 1) < n - k; omega) ⟨?_, HEnt.refl _, rfl⟩
      · show r = incFrom dv x (l.drop (k + 1))
        rw [hq, decide_eq_true (by omega), Bool.true_and]
      · (cbv; (repeat' (first | exact SnD.refl _ | exact trivial | exact SnD.nat0 | refine And.intro ?_ ?_)))
        exact .inc (by omega)
  · have hkn : l.length ≤ k := by
      have h5 : decide ((k : Int) < (l.length : Int)) = false := hs
      have := of_decide_eq_false h5
      omega
    clear hs
    refine .mk (.cons (.eq (.bool ?_)) .nil) rfl
    rw [BE.lit_d, BE.var_d]
    rw [hq, List.drop_of_length_le (by omega)]; rfl
def freeB (f : FenceD) (dv d : Int) : Bool := decide (0 ≤ d ∧ d < dv ∧ ¬ d ∈ f.devices)
set_option maxRecDepth 100000 in
set_option maxHeartbeats 4000000 in
theorem Free_pure (f : FenceD) (dv d : Int) (hl : f.devices.length < 9223372036854775807) : Pure Try.prog 33 [f.d, i64 dv, i64 d] (boolD (freeB f dv d)) := by
  have hI := RIs_pure f d hl
  obtain ⟨no, nl, l⟩ := f
  simp only at hl hI
  simp only [freeB]
  obtain ⟨m, hmm⟩ : ∃ m, m = decide (d ∈ l) := ⟨_, rfl⟩
  rw [← hmm] at hI
  obtain ⟨r, hr⟩ : ∃ r, r = decide (0 ≤ d ∧ d < dv ∧ ¬ d ∈ l) := ⟨_, rfl⟩
  rw [← hr]
  refine Pure.intro (want := [boolD r]) T_ok follows Try.func33 rfl (by kernel_rfl) (rs := [.tmp 6]) rfl (by kernel_rfl) ?_
  generalize hP : Try.prog = P at *
  have hT : T.ok P := hP ▸ T_ok
  have hm : P.follows .mixedOrders = true := hP ▸ follows
  unfold Try.f33
  dsimp only
  cbv
  refine SplitP.mk (fun hs => ?_) (fun hs => ?_) <;> simp only [BE.lss_t, BE.lss_f, BE.leq_t, BE.leq_f, BE.gtr_t, BE.gtr_f, BE.geq_t, BE.geq_f, BE.eql_t, BE.eql_f, BE.neq_t, BE.neq_f, BE.not_t, BE.not_f, BE.var_d, BE.lit_d, BE.seq_t, BE.seq_f, BE.beq_t, BE.beq_f, IE.var_d, IE.lit_d, IE.nat_d, IE.len_d, IE.sum_d, IE.u8_d, ncast, Int.ofNat_lt, Int.ofNat_le, Int.ofNat_inj] at hs
  · refine SplitP.mk (fun hs => ?_) (fun hs => ?_) <;> simp only [BE.lss_t, BE.lss_f, BE.leq_t, BE.leq_f, BE.gtr_t, BE.gtr_f, BE.geq_t, BE.geq_f, BE.eql_t, BE.eql_f, BE.neq_t, BE.neq_f, BE.not_t, BE.not_f, BE.var_d, BE.lit_d, BE.seq_t, BE.seq_f, BE.beq_t, BE.beq_f, IE.var_d, IE.lit_d, IE.nat_d, IE.len_d, IE.sum_d, IE.u8_d, ncast, Int.ofNat_lt, Int.ofNat_le, Int.ofNat_inj] at hs
    · refine CallP.pure _ hI rfl ?_
      cbv
      refine .mk (.cons (.eq (.bool ?_)) .nil) rfl
      show (!m) = r
      rw [hr, hmm]
      by_cases q : d ∈ l
      · rw [decide_eq_true q, decide_eq_false (fun h => h.2.2 q)]; rfl
      · rw [decide_eq_false q, decide_eq_true ⟨by omega, by omega, q⟩]; rfl
    · refine .mk (.cons (.eq (.bool ?_)) .nil) rfl
      rw [BE.lit_d, BE.var_d]
      rw [hr]; exact (decide_eq_false (by omega)).symm
  · refine .mk (.cons (.eq (.bool ?_)) .nil) rfl
    rw [BE.lit_d, BE.var_d]
    rw [hr]; exact (decide_eq_false (by omega)).symm
end Go.Proofs.Ytbmcepkccenoaaa
namespace Go.Proofs.Ytbmcepkccenoaaa
open Go.RowKit

/-! The votes that count, in the reference. -/
def inc64 (x : Int) : Int := IntKind.i64.wrap (x + 1)
def goodB (f : FenceD) (dv : Int) (v : VoteD) : Bool := !decide (v.by_ = v.device) && (freeB f dv v.by_ && (freeB f dv v.device && decide (v.no = inc64 f.no)))
def stepS (f : FenceD) (dv : Int) (S : List Int) (v : VoteD) : List Int := if (goodB f dv v && !decide (v.by_ ∈ S)) = true then v.by_ :: S else S
def seenK (f : FenceD) (dv : Int) (vs : List VoteD) (k : Nat) : List Int := (vs.take k).foldl (stepS f dv) []
def countsB (f : FenceD) (dv : Int) (vs : List VoteD) (k : Nat) : Bool := match vs[k]? with
  | none => false
  | some v => goodB f dv v && !decide (v.by_ ∈ seenK f dv vs k)
theorem countsB_eq {f : FenceD} {dv : Int} {vs : List VoteD} {k : Nat} {v : VoteD} (h : vs[k]? = some v) : countsB f dv vs k = (goodB f dv v && !decide (v.by_ ∈ seenK f dv vs k)) := by simp [countsB, h]
theorem seenK_succ {f : FenceD} {dv : Int} {vs : List VoteD} {k : Nat} {v : VoteD} (h : vs[k]? = some v) : seenK f dv vs (k + 1) = stepS f dv (seenK f dv vs k) v := by
  unfold seenK
  rw [List.take_add_one, h, List.foldl_append]
  rfl
theorem mem_seenK (f : FenceD) (dv : Int) (vs : List VoteD) (b : Int) : ∀ k, k ≤ vs.length → (b ∈ seenK f dv vs k ↔ ∃ j u, j < k ∧ vs[j]? = some u ∧ u.by_ = b ∧ countsB f dv vs j = true)
  | 0, _ => by simp [seenK]
  | k + 1, hk => by
    have ih := mem_seenK f dv vs b k (by omega)
    obtain ⟨v, hv⟩ : ∃ v, vs[k]? = some v := ⟨_, List.getElem?_eq_getElem (by omega)⟩
    rw [seenK_succ hv]
    unfold stepS
    constructor
    · intro hm
      by_cases hg : (goodB f dv v && !decide (v.by_ ∈ seenK f dv vs k)) = true
      · rw [if_pos hg] at hm
        rcases List.mem_cons.1 hm with q | q
        · exact ⟨k, v, by omega, hv, q.symm, by rw [countsB_eq hv]; exact hg⟩
        · obtain ⟨j, u, h1, h2⟩ := ih.1 q
          exact ⟨j, u, by omega, h2⟩
      · rw [if_neg hg] at hm
        obtain ⟨j, u, h1, h2⟩ := ih.1 hm
        exact ⟨j, u, by omega, h2⟩
    · rintro ⟨j, u, h1, h2, h3, h4⟩
      by_cases hj : j = k
      · subst hj
        rw [hv] at h2
        cases h2
        rw [countsB_eq hv] at h4
        rw [if_pos h4, h3]
        simp
      · have := ih.2 ⟨j, u, by omega, h2, h3, h4⟩
        split
        · exact List.mem_cons_of_mem _ this
        · exact this
set_option maxRecDepth 100000 in
set_option maxHeartbeats 4000000 in
theorem Counts_pure (f : FenceD) (vs : List VoteD) (nb : Option BE) (dv : Int) (hl : f.devices.length < 9223372036854775807) (hv : vs.length < 9223372036854775807) : ∀ (k : Nat) (hk : k < vs.length), Pure Try.prog 48 [f.d, .slm 3 nb VoteD.c vs, i64 dv, .int .i64 (.nat k)] (boolD (countsB f dv vs k)) := by
  intro k
  induction k using Nat.strongRecOn with
  | _ k ih =>
  intro hk
  obtain ⟨v, hx⟩ : ∃ v, vs[k]? = some v := ⟨_, List.getElem?_eq_getElem hk⟩
  have hc := countsB_eq (f := f) (dv := dv) hx
  have hms := mem_seenK f dv vs v.by_ k (by omega)
  obtain ⟨cb, hcb⟩ : ∃ cb, cb = countsB f dv vs := ⟨_, rfl⟩
  rw [← hcb] at hc ih hms ⊢
  obtain ⟨r, hr⟩ : ∃ r, r = cb k := ⟨_, rfl⟩
  rw [← hr] at hc ⊢
  obtain ⟨vb, vd, vn⟩ := v
  have hF1 := Free_pure f dv vb hl
  have hF2 := Free_pure f dv vd hl
  obtain ⟨b1, hb1⟩ : ∃ b, b = freeB f dv vb := ⟨_, rfl⟩
  obtain ⟨b2, hb2⟩ : ∃ b, b = freeB f dv vd := ⟨_, rfl⟩
  rw [← hb1] at hF1
  rw [← hb2] at hF2
  obtain ⟨sn, hsn⟩ : ∃ s, s = decide (vb ∈ seenK f dv vs k) := ⟨_, rfl⟩
  simp only [goodB] at hc hms
  rw [← hb1, ← hb2, ← hsn] at hc
  have hsn' : sn = true ↔ ∃ j u, j < k ∧ vs[j]? = some u ∧ u.by_ = vb ∧ cb j = true := by rw [hsn, decide_eq_true_iff]; exact hms
  clear hms hsn hb1 hb2 hcb hr
  have hno : inc64 f.no = IntKind.i64.wrap (f.no + 1) := rfl
  obtain ⟨no, nl, l⟩ := f
  simp only at hl hno hc
  rw [hno] at hc
  clear hno
  refine Pure.intro (want := [boolD r]) T_ok follows Try.func48 rfl (by kernel_rfl) (rs := [.tmp 8]) rfl (by kernel_rfl) ?_
  generalize hP : Try.prog = P at *
  have hT : T.ok P := hP ▸ T_ok
  have hm : P.follows .mixedOrders = true := hP ▸ follows
  unfold Try.f48
  dsimp only
  cbv
  refine ElemP.mk (by show (0 : Int) ≤ (k : Int) ∧ (k : Int) < (vs.length : Int); omega) (fun v' hx' => ?_)
  replace hx' : vs[k]? = some v' := hx'
  rw [hx] at hx'
  simp only [Option.some.injEq] at hx'
  subst hx'
  cbv
  refine SplitP.mk (fun hs => ?_) (fun hs => ?_) <;> simp only [BE.eql_t, BE.eql_f, IE.var_d] at hs
  · refine .mk (.cons (.eq (.bool ?_)) .nil) rfl
    rw [BE.lit_d, BE.var_d]
    rw [hc, decide_eq_true hs]; rfl
  rw [decide_eq_false hs, Bool.not_false, Bool.true_and] at hc
  refine CallP.pure _ hF1 rfl ?_
  cbv
  refine SplitP.mk (fun hs1 => ?_) (fun hs1 => ?_) <;> simp only [BE.not_t, BE.not_f, BE.var_d] at hs1
  · refine .mk (.cons (.eq (.bool ?_)) .nil) rfl
    rw [BE.lit_d, BE.var_d]
    rw [hc, hs1]; rfl
  rw [hs1, Bool.true_and] at hc
  refine CallP.pure _ hF2 rfl ?_
  cbv
  refine SplitP.mk (fun hs2 => ?_) (fun hs2 => ?_) <;> simp only [BE.not_t, BE.not_f, BE.var_d] at hs2
  · refine .mk (.cons (.eq (.bool ?_)) .nil) rfl
    rw [BE.lit_d, BE.var_d]
    rw [hc, hs2]; rfl
  rw [hs2, Bool.true_and] at hc
  refine SplitP.mk (fun hs3 => ?_) (fun hs3 => ?_)
  · have h3 : (vn != IntKind.i64.wrap (no + 1)) = true := hs3
    refine .mk (.cons (.eq (.bool ?_)) .nil) rfl
    rw [BE.lit_d, BE.var_d]
    rw [hc, decide_eq_false (by simpa using h3)]; rfl
  have h3 : (vn != IntKind.i64.wrap (no + 1)) = false := hs3
  rw [decide_eq_true (by simpa using h3), Bool.true_and] at hc
  clear h3 hs3
  refine CodeP.loopc hT hm (X := Nat) (fun i => [(10, .int .i64 (.nat i))]) (fun i => i ≤ k ∧ ∀ j u, j < i → vs[j]? = some u → ¬ (u.by_ = vb ∧ cb j = true)) (fun i => k - i) 0 ⟨by simp, fun j u h => by omega⟩ (Nat.zero_le _) ?_ rfl ?_
  · (cbv; (repeat' (first | exact SnD.refl _ | exact trivial | exact SnD.nat0 | refine And.intro ?_ ?_)))
  intro i ⟨hi, hq⟩
  cbv
  refine SplitP.mk (fun hs => ?_) (fun hs => ?_)
  · have hik : i < k := by
      have h5 : decide ((i : Int) < (k : Int)) = true := hs
      have := of_decide_eq_true h5
      omega
    clear hs
    refine ElemP.mk (by show (0 : Int) ≤ (i : Int) ∧ (i : Int) < (vs.length : Int); omega) (fun u hu => ?_)
    replace hu : vs[i]? = some u := hu
    obtain ⟨ub, ud, un⟩ := u
    cbv
    refine SplitP.mk (fun hs4 => ?_) (fun hs4 => ?_) <;> simp only [BE.eql_t, BE.eql_f, IE.var_d] at hs4
    · refine PureP.mk _ (ih i hik (by omega)) rfl ?_
      cbv
      refine SplitP.mk (fun hs5 => ?_) (fun hs5 => ?_)
      · replace hs5 : cb i = true := hs5
        refine .mk (.cons (.eq (.bool ?_)) .nil) rfl
        rw [BE.lit_d, BE.var_d]
        rw [hc, hsn'.2 ⟨i, _, hik, hu, hs4, hs5⟩]; rfl
      · replace hs5 : cb i = false := hs5
        refine BackP.intro (i + 1) ⟨by omega, fun j u h1 h2 h3 => ?_⟩ (by show k - (i + 1) < k - i; omega) ⟨?_, HEnt.refl _, rfl⟩
        · by_cases e : j = i
          · subst e; rw [hs5] at h3; cases h3.2
          · exact hq j u (by omega) h2 h3
        · (cbv; (repeat' (first | exact SnD.refl _ | exact trivial | exact SnD.nat0 | refine And.intro ?_ ?_)))
          exact .inc (by omega)
    · refine BackP.intro (i + 1) ⟨by omega, fun j u h1 h2 h3 => ?_⟩ (by show k - (i + 1) < k - i; omega) ⟨?_, HEnt.refl _, rfl⟩
      · by_cases e : j = i
        · subst e; rw [hu] at h2; cases h2; exact hs4 h3.1
        · exact hq j u (by omega) h2 h3
      · (cbv; (repeat' (first | exact SnD.refl _ | exact trivial | exact SnD.nat0 | refine And.intro ?_ ?_)))
        exact .inc (by omega)
  · have hik : k ≤ i := by
      have h5 : decide ((i : Int) < (k : Int)) = false := hs
      have := of_decide_eq_false h5
      omega
    have : sn = false := by
      cases h : sn
      · rfl
      · obtain ⟨j, u, h1, h2, h3⟩ := hsn'.1 h
        exact absurd h3 (hq j u (by omega) h2)
    refine .mk (.cons (.eq (.bool ?_)) .nil) rfl
    rw [BE.lit_d, BE.var_d]
    rw [hc, this]; rfl
end Go.Proofs.Ytbmcepkccenoaaa
namespace Go.Proofs.Ytbmcepkccenoaaa
open Go.RowKit

/-! The votes that count, in the code. -/
def freeC (f : FenceD) (dv d : Int) : Bool := decide (0 ≤ d ∧ d < min dv 4 ∧ ¬ d ∈ f.devices)
set_option maxRecDepth 100000 in
set_option maxHeartbeats 4000000 in
theorem FreeC_pure (f : FenceD) (dv d : Int) (hl : f.devices.length < 9223372036854775807) : Pure Try.prog 28 [i64 d, .dp [i64 dv] 0, .dp [i64 f.no, .slm 1 (some (.var f.nil)) intC f.devices] 0] (boolD (freeC f dv d)) := by
  have hI := Is_pure f d hl
  obtain ⟨no, nl, l⟩ := f
  simp only at hl hI
  simp only [freeC]
  obtain ⟨m, hmm⟩ : ∃ m, m = decide (d ∈ l) := ⟨_, rfl⟩
  rw [← hmm] at hI
  obtain ⟨r, hr⟩ : ∃ r, r = decide (0 ≤ d ∧ d < min dv 4 ∧ ¬ d ∈ l) := ⟨_, rfl⟩
  rw [← hr]
  refine Pure.intro (want := [boolD r]) T_ok follows Try.func28 rfl (by kernel_rfl) (rs := [.tmp 4]) rfl (by kernel_rfl) ?_
  generalize hP : Try.prog = P at *
  have hT : T.ok P := hP ▸ T_ok
  have hm : P.follows .mixedOrders = true := hP ▸ follows
  unfold Try.f28
  dsimp only
  cbv
  refine SplitP.mk (fun h1 => ?_) (fun h1 => ?_) <;> simp only [BE.lss_t, BE.lss_f, BE.leq_t, BE.leq_f, BE.gtr_t, BE.gtr_f, BE.geq_t, BE.geq_f, BE.eql_t, BE.eql_f, BE.neq_t, BE.neq_f, BE.not_t, BE.not_f, BE.var_d, BE.lit_d, BE.seq_t, BE.seq_f, BE.beq_t, BE.beq_f, IE.var_d, IE.lit_d, IE.nat_d, IE.len_d, IE.sum_d, IE.u8_d, ncast, Int.ofNat_lt, Int.ofNat_le, Int.ofNat_inj] at h1
  · refine SplitP.mk (fun h2 => ?_) (fun h2 => ?_)
    · have h3 : decide (d < min dv 4) = true := h2
      have h4 := of_decide_eq_true h3
      refine CallP.pure _ hI rfl ?_
      cbv
      refine .mk (.cons (.eq (.bool ?_)) .nil) rfl
      show (!m) = r
      rw [hr, hmm]
      by_cases q : d ∈ l
      · rw [decide_eq_true q, decide_eq_false (fun h => h.2.2 q)]; rfl
      · rw [decide_eq_false q, decide_eq_true ⟨by omega, by omega, q⟩]; rfl
    · have h3 : decide (d < min dv 4) = false := h2
      have h4 := of_decide_eq_false h3
      refine .mk (.cons (.eq (.bool ?_)) .nil) rfl
      rw [BE.lit_d, BE.var_d]
      rw [hr]; exact (decide_eq_false (fun h => h4 h.2.1)).symm
  · refine .mk (.cons (.eq (.bool ?_)) .nil) rfl
    rw [BE.lit_d, BE.var_d]
    rw [hr]; exact (decide_eq_false (by omega)).symm
def goodC (f : FenceD) (dv : Int) (v : VoteD) : Bool := decide (v.no = inc64 f.no) && (!decide (v.by_ = v.device) && (freeC f dv v.by_ && freeC f dv v.device))
def pickL (g : VoteD → Bool) : List Int → List VoteD → List VoteD
  | _, [] => []
  | S, v :: r => if (g v && !decide (v.by_ ∈ S)) = true then v :: pickL g (v.by_ :: S) r else pickL g S r
abbrev boolC (b : Bool) : List D := [.bool (.lit b)]
abbrev freeFn (f : FenceD) (dv : Int) : D := .fn (.func 28) [] [.dp [i64 dv] 0, .dp [i64 f.no, .slm 1 (some (.var f.nil)) intC f.devices] 0]
theorem row_upd {H H' : List Bk} {ty n ver : Nat} {i : IE} {vl vl' : List Bool} {k : Nat} (hi : i.den = (k : Int)) (hv : vl' = vl.set k true) : BkEq H H' (.row ty n ver (.upd (.map boolC vl) i 0 [.bool (.lit true)])) (.row ty n ver (.map boolC vl')) := by
  subst hv
  refine .row ?_
  simp only [RE.den, hi, Int.toNat_natCast]
  refine List.ext_getElem? fun j => ?_
  rw [List.getElem?_modify, List.getElem?_map, List.getElem?_map, List.getElem?_set]
  by_cases q : k = j
  · subst q
    rw [if_pos rfl]
    cases h : vl[k]? with
    | none =>
      have := List.getElem?_eq_none_iff.1 h
      rw [if_neg (by omega)]
      simp
    | some b =>
      rw [if_pos (List.getElem?_eq_some_iff.1 h).1]
      simp [over]
  · rw [if_neg q]
    cases h : vl[j]? with
    | none => rfl
    | some b => simp [q]
set_option maxRecDepth 100000 in
set_option maxHeartbeats 4000000 in
theorem Counted_pure (f : FenceD) (dv : Int) (vs : List VoteD) (nb : Option BE) (hl : f.devices.length < 9223372036854775807) (hv : vs.length ≤ 100000) : Pure Try.prog 29 [f.d, .slm 3 nb VoteD.c vs, freeFn f dv] (.slm 3 none VoteD.c (pickL (goodC f dv) [] vs)) := by
  have hF := fun d => FreeC_pure f dv d hl
  have hrg : ∀ d, freeC f dv d = true → 0 ≤ d ∧ d < 4 := fun d h => by
    have := of_decide_eq_true h
    omega
  have hgd : ∀ v, goodC f dv v = (decide (v.no = inc64 f.no) && (!decide (v.by_ = v.device) && (freeC f dv v.by_ && freeC f dv v.device))) := fun v => rfl
  obtain ⟨fr, hfr⟩ : ∃ fr, fr = freeC f dv := ⟨_, rfl⟩
  rw [← hfr] at hF hrg hgd
  obtain ⟨g, hg⟩ : ∃ g, g = goodC f dv := ⟨_, rfl⟩
  rw [← hg] at hgd ⊢
  obtain ⟨n, hn⟩ : ∃ n : Nat, n = vs.length := ⟨_, rfl⟩
  obtain ⟨r, hr⟩ : ∃ r, r = pickL g [] vs := ⟨_, rfl⟩
  rw [← hr]
  clear hfr hg
  obtain ⟨no, nl, fl⟩ := f
  simp only [inc64] at hgd
  refine Pure.intro (want := [.slm 3 none VoteD.c r]) T_ok follows Try.func29 rfl (by kernel_rfl) (rs := [.tmp 6]) rfl (by kernel_rfl) ?_
  generalize hP : Try.prog = P at *
  have hT : T.ok P := hP ▸ T_ok
  have hm : P.follows .mixedOrders = true := hP ▸ follows
  unfold Try.f29
  dsimp only
  cbv
  refine CodeP.virt 6 52 3 rfl ?_
  refine CodeP.loopm hT hm (X := Nat × Nat × List VoteD × List Bool × List Int) (fun x => [(12, .int .i64 (.nat x.1)), (6, .osl 3 2 (x.2.1 + 1) (.cmp .eql (.nat x.2.1) (.lit 0)) (.lit 0) (.nat x.2.1))])
    (fun x => [.cells [i64 no, .slm 1 (some (.var nl)) intC fl], .row 1000000 1 1 (.map boolC x.2.2.2.1), .row 52 3 (x.2.1 + 1) (.map VoteD.c x.2.2.1)])
    (fun x => x.1 ≤ n ∧ x.2.1 ≤ x.1 ∧ x.2.2.1.length = x.2.1 ∧ r = x.2.2.1 ++ pickL g x.2.2.2.2 (vs.drop x.1) ∧ x.2.2.2.1.length = 4 ∧ ∀ (j : Nat) b, x.2.2.2.1[j]? = some b → b = decide ((j : Int) ∈ x.2.2.2.2)) (fun x => n - x.1) (0, 0, [], [false, false, false, false], []) ⟨by simp, by simp, rfl, hr, rfl, fun j b h => ?_⟩ (fun _ => by simp) ⟨?_, ?_, rfl⟩ ?_
  · match j, h with
    | 0, h => cases h; rfl
    | 1, h => cases h; rfl
    | 2, h => cases h; rfl
    | 3, h => cases h; rfl
  · (cbv; (repeat' (first | exact SnD.refl _ | exact trivial | exact SnD.nat0 | refine And.intro ?_ ?_)))
    exact osl_start
  · (cbv; (repeat' (first | exact trivial | exact BkEq.refl _ | exact SnD.refl _ | exact SnDs.nil | refine BkEq.cells ?_ | refine SnDs.cons ?_ ?_ | refine And.intro ?_ ?_)))
    · refine .arr rfl fun e he => ?_
      obtain ⟨b, _, rfl⟩ := List.mem_map.1 he
      exact ⟨rfl, rfl⟩
    · exact .row rfl
  intro ⟨k, m, acc, vl, S⟩ ⟨hk, hak, hm0, hq, hv4, hvl⟩
  replace hk : k ≤ n := hk
  replace hak : m ≤ k := hak
  replace hm0 : acc.length = m := hm0
  replace hq : r = acc ++ pickL g S (vs.drop k) := hq
  replace hv4 : vl.length = 4 := hv4
  replace hvl : ∀ (j : Nat) b, vl[j]? = some b → b = decide ((j : Int) ∈ S) := hvl
  cbv
  refine SplitP.mk (fun hs => ?_) (fun hs => ?_)
  · have hkn : k < vs.length := by
      have h5 : decide ((k : Int) < (vs.length : Int)) = true := hs
      have := of_decide_eq_true h5
      omega
    clear hs
    refine ElemP.mk (by show (0 : Int) ≤ (k : Int) ∧ (k : Int) < (vs.length : Int); omega) (fun x hx => ?_)
    replace hx : vs[k]? = some x := hx
    rw [drop_cons hx] at hq
    simp only [pickL] at hq
    have hgx := hgd x
    obtain ⟨xb, xd, xn⟩ := x
    have hF1 := hF xb
    have hF2 := hF xd
    have hr1 := hrg xb
    clear hF hrg hgd
    simp only at hgx hq
    obtain ⟨gx, hgx0⟩ : ∃ gx, gx = g ⟨xb, xd, xn⟩ := ⟨_, rfl⟩
    obtain ⟨f1, hf1⟩ : ∃ y, y = fr xb := ⟨_, rfl⟩
    obtain ⟨f2, hf2⟩ : ∃ y, y = fr xd := ⟨_, rfl⟩
    rw [← hgx0] at hgx hq
    rw [← hf1] at hgx hF1 hr1
    rw [← hf2] at hgx hF2
    clear hgx0 hf1 hf2
    replace hgx : gx = (decide (xn = IntKind.i64.wrap (no + 1)) && (!decide (xb = xd) && (f1 && f2))) := hgx
    have back : gx = false ∨ xb ∈ S → r = acc ++ pickL g S (vs.drop (k + 1)) := fun h => by
      rw [hq]
      rcases h with h | h
      · rw [h]; rfl
      · rw [decide_eq_true h]; simp
    have fore : gx = true → ¬ xb ∈ S → r = (acc ++ [⟨xb, xd, xn⟩]) ++ pickL g (xb :: S) (vs.drop (k + 1)) := fun h h2 => by
      rw [hq, h, decide_eq_false h2]
      simp
    clear hq
    cbv
    refine SplitP.mk (fun h1 => ?_) (fun h1 => ?_)
    · have h1' : decide (xn = IntKind.i64.wrap (no + 1)) = true := h1
      refine SplitP.mk (fun h2 => ?_) (fun h2 => ?_)
      · have h2' : (!decide (xb = xd)) = true := h2
        refine CallP.pure _ hF1 rfl ?_
        cbv
        refine SplitP.mk (fun h3 => ?_) (fun h3 => ?_) <;> simp only [BE.var_d] at h3
        · refine CallP.pure _ hF2 rfl ?_
          cbv
          refine SplitP.mk (fun h4 => ?_) (fun h4 => ?_) <;> simp only [BE.var_d] at h4
          · have hgt : gx = true := by rw [hgx, h1', h2', h3, h4]; rfl
            obtain ⟨b1, b2⟩ := hr1 h3
            obtain ⟨xk, rfl⟩ : ∃ xk : Nat, xb = (xk : Int) := ⟨xb.toNat, by omega⟩
            have hxk : xk < 4 := by omega
            refine ReqP.mk ⟨b1, b2⟩ (fun _ => ?_)
            refine ElemP.mk (by show (0 : Int) ≤ (xk : Int) ∧ (xk : Int) < (vl.length : Int); rw [hv4]; exact ⟨b1, b2⟩) (fun y hy => ?_)
            replace hy : vl[xk]? = some y := hy
            have hyS := hvl xk y hy
            cases y with
            | true =>
              have hS : (xk : Int) ∈ S := of_decide_eq_true hyS.symm
              cbv
              refine BackP.intro (k + 1, m, acc, vl, S) ⟨by show k + 1 ≤ n; omega, by show m ≤ k + 1; omega, hm0, back (.inr hS), hv4, hvl⟩ (by show n - (k + 1) < n - k; omega) ⟨?_, ?_, rfl⟩
              · (cbv; (repeat' (first | exact SnD.refl _ | exact trivial | exact SnD.nat0 | refine And.intro ?_ ?_)))
                exact .inc (by omega)
              · (cbv; (repeat' (first | exact trivial | exact BkEq.refl _ | exact SnD.refl _ | exact SnDs.nil | refine BkEq.cells ?_ | refine SnDs.cons ?_ ?_ | refine And.intro ?_ ?_)))
            | false =>
              have hS : ¬ (xk : Int) ∈ S := of_decide_eq_false hyS.symm
              cbv
              refine ReqP.mk ⟨b1, b2⟩ (fun _ => ?_)
              refine ReqP.mk (by show xk < (vl.map boolC).length; rw [List.length_map, hv4]; exact hxk) (fun _ => ?_)
              refine ReqP.mk (app_ok hm0 (by omega) (fun _ => rfl) rfl (by decide)) (fun _ => ?_)
              cbv
              obtain ⟨acc', hacc'⟩ : ∃ a, a = acc ++ [⟨xk, xd, xn⟩] := ⟨_, rfl⟩
              obtain ⟨vl', hvl'⟩ : ∃ a, a = vl.set xk true := ⟨_, rfl⟩
              refine BackP.intro (k + 1, m + 1, acc', vl', (xk : Int) :: S) ⟨by show k + 1 ≤ n; omega, by show m + 1 ≤ k + 1; omega, by show acc'.length = m + 1; rw [hacc']; simp [hm0], ?_, by show vl'.length = 4; rw [hvl']; simp [hv4], fun j b hj => ?_⟩ (by show n - (k + 1) < n - k; omega) ⟨?_, ?_, rfl⟩
              · show r = acc' ++ pickL g ((xk : Int) :: S) (vs.drop (k + 1))
                rw [hacc']; exact fore hgt hS
              · show b = decide ((j : Int) ∈ (xk : Int) :: S)
                replace hj : vl'[j]? = some b := hj
                rw [hvl', List.getElem?_set] at hj
                by_cases q : xk = j
                · rw [if_pos q, if_pos (by rw [hv4]; exact q ▸ hxk)] at hj
                  cases hj
                  rw [q]; simp
                · rw [if_neg q] at hj
                  rw [hvl j b hj]
                  refine decide_eq_decide.2 ?_
                  simp only [List.mem_cons]
                  constructor
                  · exact .inr
                  · rintro (h | h)
                    · omega
                    · exact h
              · (cbv; (repeat' (first | exact SnD.refl _ | exact trivial | exact SnD.nat0 | refine And.intro ?_ ?_)))
                · exact .inc (by omega)
                · exact osl_step m
              · (cbv; (repeat' (first | exact trivial | exact BkEq.refl _ | exact SnD.refl _ | exact SnDs.nil | refine BkEq.cells ?_ | refine SnDs.cons ?_ ?_ | refine And.intro ?_ ?_)))
                · exact row_upd rfl hvl'
                · exact row_app ⟨xk, xd, xn⟩ hacc' (.cons (.refl _) (.cons (.refl _) (.cons (.refl _) .nil)))
          · have hgt : gx = false := by rw [hgx, h4]; simp
            refine BackP.intro (k + 1, m, acc, vl, S) ⟨by show k + 1 ≤ n; omega, by show m ≤ k + 1; omega, hm0, back (.inl hgt), hv4, hvl⟩ (by show n - (k + 1) < n - k; omega) ⟨?_, ?_, rfl⟩
            · (cbv; (repeat' (first | exact SnD.refl _ | exact trivial | exact SnD.nat0 | refine And.intro ?_ ?_)))
              exact .inc (by omega)
            · (cbv; (repeat' (first | exact trivial | exact BkEq.refl _ | exact SnD.refl _ | exact SnDs.nil | refine BkEq.cells ?_ | refine SnDs.cons ?_ ?_ | refine And.intro ?_ ?_)))
        · have hgt : gx = false := by rw [hgx, h3]; simp
          refine BackP.intro (k + 1, m, acc, vl, S) ⟨by show k + 1 ≤ n; omega, by show m ≤ k + 1; omega, hm0, back (.inl hgt), hv4, hvl⟩ (by show n - (k + 1) < n - k; omega) ⟨?_, ?_, rfl⟩
          · (cbv; (repeat' (first | exact SnD.refl _ | exact trivial | exact SnD.nat0 | refine And.intro ?_ ?_)))
            exact .inc (by omega)
          · (cbv; (repeat' (first | exact trivial | exact BkEq.refl _ | exact SnD.refl _ | exact SnDs.nil | refine BkEq.cells ?_ | refine SnDs.cons ?_ ?_ | refine And.intro ?_ ?_)))
      · have h2' : (!decide (xb = xd)) = false := h2
        have hgt : gx = false := by rw [hgx, h2']; simp
        refine BackP.intro (k + 1, m, acc, vl, S) ⟨by show k + 1 ≤ n; omega, by show m ≤ k + 1; omega, hm0, back (.inl hgt), hv4, hvl⟩ (by show n - (k + 1) < n - k; omega) ⟨?_, ?_, rfl⟩
        · (cbv; (repeat' (first | exact SnD.refl _ | exact trivial | exact SnD.nat0 | refine And.intro ?_ ?_)))
          exact .inc (by omega)
        · (cbv; (repeat' (first | exact trivial | exact BkEq.refl _ | exact SnD.refl _ | exact SnDs.nil | refine BkEq.cells ?_ | refine SnDs.cons ?_ ?_ | refine And.intro ?_ ?_)))
    · have h1' : decide (xn = IntKind.i64.wrap (no + 1)) = false := h1
      have hgt : gx = false := by rw [hgx, h1']; simp
      refine BackP.intro (k + 1, m, acc, vl, S) ⟨by show k + 1 ≤ n; omega, by show m ≤ k + 1; omega, hm0, back (.inl hgt), hv4, hvl⟩ (by show n - (k + 1) < n - k; omega) ⟨?_, ?_, rfl⟩
      · (cbv; (repeat' (first | exact SnD.refl _ | exact trivial | exact SnD.nat0 | refine And.intro ?_ ?_)))
        exact .inc (by omega)
      · (cbv; (repeat' (first | exact trivial | exact BkEq.refl _ | exact SnD.refl _ | exact SnDs.nil | refine BkEq.cells ?_ | refine SnDs.cons ?_ ?_ | refine And.intro ?_ ?_)))
  · have hkn : vs.length ≤ k := by
      have h5 : decide ((k : Int) < (vs.length : Int)) = false := hs
      have := of_decide_eq_false h5
      omega
    clear hs
    have hk2 : k = n := by omega
    have hq2 : r = acc := by rw [hq, List.drop_of_length_le (by omega)]; simp [pickL]
    subst hq2
    refine .mk (.cons (.slm rfl (.inl ⟨_, _, rfl, rfl⟩) rfl ?_ (fun e h => by cases h)) .nil) rfl
    show (m : Int) = (r.length : Int)
    omega
end Go.Proofs.Ytbmcepkccenoaaa
namespace Go.Proofs.Ytbmcepkccenoaaa
open Go.RowKit

/-! The votes against a device, and Vote, in the reference. -/
def agB (f : FenceD) (dv : Int) (vs : List VoteD) (d : Int) (k : Nat) : Bool := match vs[k]? with
  | none => false
  | some v => decide (v.device = d) && countsB f dv vs k
def agK (f : FenceD) (dv : Int) (vs : List VoteD) (d : Int) : Nat → Nat
  | 0 => 0
  | k + 1 => agK f dv vs d k + (if agB f dv vs d k = true then 1 else 0)
theorem agK_le (f : FenceD) (dv : Int) (vs : List VoteD) (d : Int) : ∀ k, agK f dv vs d k ≤ k
  | 0 => Nat.le_refl _
  | k + 1 => by have := agK_le f dv vs d k; simp only [agK]; split <;> omega
set_option maxRecDepth 100000 in
set_option maxHeartbeats 4000000 in
theorem Against_pure (f : FenceD) (vs : List VoteD) (nb : Option BE) (dv d : Int) (hl : f.devices.length < 9223372036854775807) (hv : vs.length ≤ 100000) : Pure Try.prog 34 [f.d, .slm 3 nb VoteD.c vs, i64 dv, i64 d] (.int .i64 (.nat (agK f dv vs d vs.length))) := by
  have hC := Counts_pure f vs nb dv hl (by omega)
  obtain ⟨n, hn⟩ : ∃ n : Nat, n = vs.length := ⟨_, rfl⟩
  have hstep : ∀ (k : Nat) v, vs[k]? = some v → agK f dv vs d (k + 1) = agK f dv vs d k + (if (decide (v.device = d) && countsB f dv vs k) = true then 1 else 0) := fun k v h => by simp only [agK, agB, h]
  have hle := agK_le f dv vs d
  have h0 : agK f dv vs d 0 = 0 := rfl
  obtain ⟨ak, hak⟩ : ∃ ak, ak = agK f dv vs d := ⟨_, rfl⟩
  obtain ⟨cb, hcb⟩ : ∃ cb, cb = countsB f dv vs := ⟨_, rfl⟩
  rw [← hak, ← hcb] at hstep
  rw [← hak] at hle h0 ⊢
  rw [← hcb] at hC
  rw [← hn]
  obtain ⟨r, hr⟩ : ∃ r, r = ak n := ⟨_, rfl⟩
  rw [← hr]
  clear hak hcb
  obtain ⟨no, nl, fl⟩ := f
  refine Pure.intro (want := [.int .i64 (.nat r)]) T_ok follows Try.func34 rfl (by kernel_rfl) (rs := [.tmp 8]) rfl (by kernel_rfl) ?_
  generalize hP : Try.prog = P at *
  have hT : T.ok P := hP ▸ T_ok
  have hm : P.follows .mixedOrders = true := hP ▸ follows
  unfold Try.f34
  dsimp only
  cbv
  refine CodeP.loopc hT hm (X := Nat × Nat) (fun x => [(10, .int .i64 (.nat x.1)), (9, .int .i64 (.nat x.2))]) (fun x => x.1 ≤ n ∧ x.2 = ak x.1) (fun x => n - x.1) (0, 0) ⟨by simp, h0.symm⟩ (by simp) ?_ rfl ?_
  · (cbv; (repeat' (first | exact SnD.refl _ | exact trivial | exact SnD.nat0 | refine And.intro ?_ ?_)))
  intro ⟨k, m⟩ ⟨hk, hm0⟩
  replace hk : k ≤ n := hk
  replace hm0 : m = ak k := hm0
  have hmk := hle k
  cbv
  refine SplitP.mk (fun hs => ?_) (fun hs => ?_)
  · have hkn : k < vs.length := by
      have h5 : decide ((k : Int) < (vs.length : Int)) = true := hs
      have := of_decide_eq_true h5
      omega
    clear hs
    refine ElemP.mk (by show (0 : Int) ≤ (k : Int) ∧ (k : Int) < (vs.length : Int); omega) (fun x hx => ?_)
    replace hx : vs[k]? = some x := hx
    have hst := hstep k x hx
    have hCk := hC k hkn
    obtain ⟨c, hc⟩ : ∃ c, c = cb k := ⟨_, rfl⟩
    rw [← hc] at hCk hst
    obtain ⟨xb, xd, xn⟩ := x
    simp only at hst
    cbv
    refine SplitP.mk (fun h1 => ?_) (fun h1 => ?_) <;> simp only [BE.eql_t, BE.eql_f, IE.var_d] at h1
    · rw [decide_eq_true h1, Bool.true_and] at hst
      refine CallP.pure _ hCk rfl ?_
      cbv
      refine SplitP.mk (fun h2 => ?_) (fun h2 => ?_) <;> simp only [BE.var_d] at h2
      · rw [if_pos h2] at hst
        refine BackP.intro (k + 1, m + 1) ⟨by show k + 1 ≤ n; omega, by show m + 1 = ak (k + 1); omega⟩ (by show n - (k + 1) < n - k; omega) ⟨?_, HEnt.refl _, rfl⟩
        (cbv; (repeat' (first | exact SnD.refl _ | exact trivial | exact SnD.nat0 | refine And.intro ?_ ?_)))
        · exact .inc (by omega)
        · exact .inc (by omega)
      · rw [if_neg (by simp [h2])] at hst
        refine BackP.intro (k + 1, m) ⟨by show k + 1 ≤ n; omega, by show m = ak (k + 1); omega⟩ (by show n - (k + 1) < n - k; omega) ⟨?_, HEnt.refl _, rfl⟩
        (cbv; (repeat' (first | exact SnD.refl _ | exact trivial | exact SnD.nat0 | refine And.intro ?_ ?_)))
        exact .inc (by omega)
    · rw [decide_eq_false h1] at hst
      simp only [Bool.false_and, Bool.false_eq_true, if_false] at hst
      refine BackP.intro (k + 1, m) ⟨by show k + 1 ≤ n; omega, by show m = ak (k + 1); omega⟩ (by show n - (k + 1) < n - k; omega) ⟨?_, HEnt.refl _, rfl⟩
      (cbv; (repeat' (first | exact SnD.refl _ | exact trivial | exact SnD.nat0 | refine And.intro ?_ ?_)))
      exact .inc (by omega)
  · have hkn : vs.length ≤ k := by
      have h5 : decide ((k : Int) < (vs.length : Int)) = false := hs
      have := of_decide_eq_false h5
      omega
    clear hs
    have hk2 : k = n := by omega
    subst hk2
    exact .mk (.cons (.eq (.int (by rw [IE.nat_d, IE.nat_d, hr, hm0]))) .nil) rfl
def zeroF : FenceD := ⟨0, true, []⟩
def outsR (f : FenceD) (dv : Int) (vs : List VoteD) : Nat → List Int
  | 0 => []
  | k + 1 => outsR f dv vs k ++ (if (freeB f dv (k : Int) && decide (dv - f.devices.length - 1 < 2 * (agK f dv vs (k : Int) vs.length : Int))) = true then [(k : Int)] else [])
def joinR (f : FenceD) (out : Int) : Nat → List Int
  | 0 => []
  | k + 1 => joinR f out k ++ (if (decide ((k : Int) = out) || decide ((k : Int) ∈ f.devices)) = true then [(k : Int)] else [])
def rvoteP (f : FenceD) (vs : List VoteD) (dv : Int) : FenceD × Int :=
  if fvalidB f dv = false ∨ f.no = 1048576 then (zeroF, 1) else if (outsR f dv vs dv.toNat).length ≠ 1 then (zeroF, 440) else
  (⟨f.no + 1, (joinR f ((outsR f dv vs dv.toNat).getLastD (-1)) dv.toNat).isEmpty, joinR f ((outsR f dv vs dv.toNat).getLastD (-1)) dv.toNat⟩, 0)
theorem outsR_le (f : FenceD) (dv : Int) (vs : List VoteD) : ∀ k, (outsR f dv vs k).length ≤ k
  | 0 => Nat.le_refl _
  | k + 1 => by have := outsR_le f dv vs k; simp only [outsR]; split <;> simp <;> omega
theorem joinR_le (f : FenceD) (out : Int) : ∀ k, (joinR f out k).length ≤ k
  | 0 => Nat.le_refl _
  | k + 1 => by have := joinR_le f out k; simp only [joinR]; split <;> simp <;> omega
theorem zeroF_ret {H : List Bk} {ie : IE} {re : Int} {rs : FenceD} (h : rs = zeroF ∧ re = ie.den) : RetP H [.agg [.int .i64 (.lit 0), .nils], .int .i64 ie] [rs.d, i64 re] := by
  obtain ⟨rfl, rfl⟩ := h
  exact .mk (.cons (.aggs (.cons (.eq (.int rfl)) (.cons (.eq (.nilv rfl rfl)) .nil))) (.cons (.eq (.int rfl)) .nil)) rfl
set_option maxRecDepth 100000 in
set_option maxHeartbeats 4000000 in
theorem RVote_pure (f : FenceD) (vs : List VoteD) (nb : Option BE) (dv : Int) (hl : f.devices.length ≤ 100000) (hv : vs.length ≤ 100000) : Pure Try.prog 12 [f.d, .slm 3 nb VoteD.c vs, i64 dv] (.tup [(rvoteP f vs dv).1.d, i64 (rvoteP f vs dv).2]) := by
  obtain ⟨rs, hrs⟩ : ∃ r, r = (rvoteP f vs dv).1 := ⟨_, rfl⟩
  obtain ⟨re, hre⟩ : ∃ r, r = (rvoteP f vs dv).2 := ⟨_, rfl⟩
  rw [← hrs, ← hre]
  have hV := RValid_pure f dv (by omega)
  have hF := fun d => Free_pure f dv d (by omega)
  have hA := fun d => Against_pure f vs nb dv d (by omega) hv
  have hI := fun d => RIs_pure f d (by omega)
  have hr1 : fvalidB f dv = false ∨ f.no = 1048576 → rs = zeroF ∧ re = 1 := fun h => by
    rw [hrs, hre]; unfold rvoteP; rw [if_pos h]; exact ⟨rfl, rfl⟩
  have hr2 : ¬ (fvalidB f dv = false ∨ f.no = 1048576) → (outsR f dv vs dv.toNat).length ≠ 1 → rs = zeroF ∧ re = 440 := fun h h2 => by
    rw [hrs, hre]; unfold rvoteP; rw [if_neg h, if_pos h2]; exact ⟨rfl, rfl⟩
  have hr3 : ¬ (fvalidB f dv = false ∨ f.no = 1048576) → (outsR f dv vs dv.toNat).length = 1 → rs = ⟨f.no + 1, (joinR f ((outsR f dv vs dv.toNat).getLastD (-1)) dv.toNat).isEmpty, joinR f ((outsR f dv vs dv.toNat).getLastD (-1)) dv.toNat⟩ ∧ re = 0 := fun h h2 => by
    rw [hrs, hre]; unfold rvoteP; rw [if_neg h, if_neg (by simp [h2])]; exact ⟨rfl, rfl⟩
  have hvb : fvalidB f dv = true → 1 ≤ dv ∧ dv ≤ 4 ∧ 0 ≤ f.no ∧ f.no ≤ 1048576 := fun h => by
    unfold fvalidB at h
    simp only [Bool.and_eq_true, decide_eq_true_eq] at h
    exact h.1
  have hos : ∀ k, outsR f dv vs (k + 1) = outsR f dv vs k ++ (if (freeB f dv (k : Int) && decide (dv - f.devices.length - 1 < 2 * (agK f dv vs (k : Int) vs.length : Int))) = true then [(k : Int)] else []) := fun k => rfl
  have hag := fun d => agK_le f dv vs d vs.length
  have hol := outsR_le f dv vs
  have hjl := joinR_le f ((outsR f dv vs dv.toNat).getLastD (-1))
  have hjs : ∀ k, joinR f ((outsR f dv vs dv.toNat).getLastD (-1)) (k + 1) = joinR f ((outsR f dv vs dv.toNat).getLastD (-1)) k ++ (if (decide ((k : Int) = ((outsR f dv vs dv.toNat).getLastD (-1))) || decide ((k : Int) ∈ f.devices)) = true then [(k : Int)] else []) := fun k => rfl
  obtain ⟨vb, hvb0⟩ : ∃ v, v = fvalidB f dv := ⟨_, rfl⟩
  obtain ⟨fb, hfb⟩ : ∃ v, v = freeB f dv := ⟨_, rfl⟩
  obtain ⟨ag, hag0⟩ : ∃ v, v = fun d => agK f dv vs d vs.length := ⟨_, rfl⟩
  have hag1 : ∀ d, agK f dv vs d vs.length = ag d := fun d => by rw [hag0]
  obtain ⟨om, hom⟩ : ∃ o, o = outsR f dv vs := ⟨_, rfl⟩
  obtain ⟨jo, hjo⟩ : ∃ o, o = joinR f ((outsR f dv vs dv.toNat).getLastD (-1)) := ⟨_, rfl⟩
  have hj0 : jo 0 = [] := by rw [hjo]; rfl
  have ho0 : om 0 = [] := by rw [hom]; rfl
  rw [← hjo] at hjl hjs hr3
  rw [← hom] at hos hol hr2 hr3 hjs
  rw [← hvb0] at hV hr1 hr2 hr3 hvb
  rw [← hfb] at hF hos
  simp only [hag1] at hA hos hag
  obtain ⟨isf, hisf⟩ : ∃ i : Int → Bool, i = fun d => decide (d ∈ f.devices) := ⟨_, rfl⟩
  have hisf1 : ∀ d, decide (d ∈ f.devices) = isf d := fun d => by rw [hisf]
  simp only [hisf1] at hI hjs
  clear hrs hre hom hjo hag0 hag1 hvb0 hfb hisf hisf1
  obtain ⟨no, nl, fl⟩ := f
  simp only at hl hr1 hr2 hr3 hvb hos
  obtain ⟨fn, hfn⟩ : ∃ n : Nat, n = fl.length := ⟨_, rfl⟩
  rw [← hfn] at hos
  refine Pure.intro (want := [rs.d, i64 re]) T_ok follows Try.func12 rfl (by kernel_rfl) (rs := [.cell 6 24, .tmp 7]) rfl (by kernel_rfl) ?_
  generalize hP : Try.prog = P at *
  have hT : T.ok P := hP ▸ T_ok
  have hm : P.follows .mixedOrders = true := hP ▸ follows
  unfold Try.f12
  dsimp only
  cbv
  refine CallP.pure _ hV rfl ?_
  cbv
  refine SplitP.mk (fun hs => ?_) (fun hs => ?_) <;> simp only [BE.not_t, BE.not_f, BE.var_d] at hs
  · exact zeroF_ret (hr1 (.inl hs))
  obtain ⟨d1, d2, n1, n2⟩ := hvb hs
  refine SplitP.mk (fun h1 => ?_) (fun h1 => ?_) <;> simp only [BE.lss_t, BE.lss_f, BE.leq_t, BE.leq_f, BE.gtr_t, BE.gtr_f, BE.geq_t, BE.geq_f, BE.eql_t, BE.eql_f, BE.neq_t, BE.neq_f, BE.not_t, BE.not_f, BE.var_d, BE.lit_d, BE.seq_t, BE.seq_f, BE.beq_t, BE.beq_f, IE.var_d, IE.lit_d, IE.nat_d, IE.len_d, IE.sum_d, IE.u8_d, ncast, Int.ofNat_lt, Int.ofNat_le, Int.ofNat_inj] at h1
  · exact zeroF_ret (hr1 (.inr h1))
  have hok : ¬ (vb = false ∨ no = 1048576) := fun h => by
    rcases h with h | h
    · rw [hs] at h; cases h
    · exact h1 h
  replace hr2 := hr2 hok
  replace hr3 := hr3 hok
  clear hok hr1 hvb hV
  obtain ⟨dn, rfl⟩ : ∃ dn : Nat, dv = (dn : Int) := ⟨dv.toNat, by omega⟩
  have hd4 : dn ≤ 4 := by omega
  simp only [Int.toNat_natCast] at hr2 hr3 hjs
  have hF2 : ∀ k : Nat, Pure P 33 [.agg [i64 no, .slm 1 (some (.var nl)) intC fl], i64 (dn : Int), .int .i64 (.nat k)] (boolD (fb (k : Int))) := fun k => Pure.args (.cons (.refl _) (.cons (.refl _) (.cons (.int (e' := .var (k : Int)) rfl) .nil))) (hF (k : Int))
  have hA2 : ∀ k : Nat, Pure P 34 [.agg [i64 no, .slm 1 (some (.var nl)) intC fl], .slm 3 nb VoteD.c vs, i64 (dn : Int), .int .i64 (.nat k)] (.int .i64 (.nat (ag (k : Int)))) := fun k => Pure.args (.cons (.refl _) (.cons (.refl _) (.cons (.refl _) (.cons (.int (e' := .var (k : Int)) rfl) .nil)))) (hA (k : Int))
  have hI2 : ∀ k : Nat, Pure P 15 [.agg [i64 no, .slm 1 (some (.var nl)) intC fl], .int .i64 (.nat k)] (boolD (isf (k : Int))) := fun k => Pure.args (.cons (.refl _) (.cons (.int (e' := .var (k : Int)) rfl) .nil)) (hI (k : Int))
  clear hF hA hI
  have eo : binDen .sub .i64 (binDen .sub .i64 (dn : Int) (fl.length : Int)) 1 = (dn : Int) - fn - 1 := by
    rw [sub64 (a := (dn : Int)) (by omega) (by omega), sub64 (by omega) (by omega), hfn]
  cbv
  refine CodeP.loopc hT hm (X := Nat × Nat × Int) (fun x => [(11, .int .i64 (.nat x.1)), (10, .int .i64 (.nat x.2.1)), (9, i64 x.2.2)]) (fun x => x.1 ≤ dn ∧ x.2.1 = (om x.1).length ∧ x.2.2 = (om x.1).getLastD (-1)) (fun x => dn - x.1) (0, 0, -1) ⟨by simp, by simp [ho0], by simp [ho0]⟩ (by simp) ?_ rfl ?_
  · (cbv; (repeat' (first | exact SnD.refl _ | exact trivial | exact SnD.nat0 | refine And.intro ?_ ?_)))
    exact .eq (.int rfl)
  intro ⟨k, m, out⟩ ⟨hk, hm0, hout⟩
  replace hk : k ≤ dn := hk
  replace hm0 : m = (om k).length := hm0
  replace hout : out = (om k).getLastD (-1) := hout
  have hmk := hol k
  cbv
  refine SplitP.mk (fun hs => ?_) (fun hs => ?_)
  · have hlt : k < dn := by
      have h3 : decide ((k : Int) < (dn : Int)) = true := hs
      have := of_decide_eq_true h3
      omega
    clear hs
    have hFk := hF2 k
    have hAk := hA2 k
    have hok := hos k
    have hgk := hag (k : Int)
    obtain ⟨a, ha⟩ : ∃ a, a = ag (k : Int) := ⟨_, rfl⟩
    obtain ⟨b, hb⟩ : ∃ b, b = fb (k : Int) := ⟨_, rfl⟩
    rw [← ha] at hAk hok hgk
    rw [← hb] at hFk hok
    have no_ : b = false ∨ ¬ (dn : Int) - fn - 1 < 2 * (a : Int) → om (k + 1) = om k := fun h => by
      rw [hok]
      rcases h with h | h
      · rw [h]; simp
      · rw [decide_eq_false h]; simp
    have yes_ : b = true → (dn : Int) - fn - 1 < 2 * (a : Int) → om (k + 1) = om k ++ [(k : Int)] := fun h h2 => by
      rw [hok, h, decide_eq_true h2]; simp
    refine CallP.pure _ hFk rfl ?_
    cbv
    refine SplitP.mk (fun h1 => ?_) (fun h1 => ?_) <;> simp only [BE.var_d] at h1
    · refine CallP.pure _ hAk rfl ?_
      cbv
      have em : binDen .mul .i64 2 (a : Int) = 2 * (a : Int) := mul64 (by omega) (by omega)
      refine SplitP.mk (fun h2 => ?_) (fun h2 => ?_)
      · have h3 : decide (binDen .mul .i64 2 (a : Int) > binDen .sub .i64 (binDen .sub .i64 (dn : Int) (fl.length : Int)) 1) = true := h2
        rw [em, eo] at h3
        have h4 := yes_ h1 (by have := of_decide_eq_true h3; omega)
        refine BackP.intro (k + 1, m + 1, (k : Int)) ⟨by show k + 1 ≤ dn; omega, by show m + 1 = (om (k + 1)).length; rw [h4, hm0]; simp, by show (k : Int) = (om (k + 1)).getLastD (-1); rw [h4]; simp⟩ (by show dn - (k + 1) < dn - k; omega) ⟨?_, HEnt.refl _, rfl⟩
        (cbv; (repeat' (first | exact SnD.refl _ | exact trivial | exact SnD.nat0 | refine And.intro ?_ ?_)))
        · exact .inc (by omega)
        · exact .inc (by omega)
        · exact .eq (.int rfl)
      · have h3 : decide (binDen .mul .i64 2 (a : Int) > binDen .sub .i64 (binDen .sub .i64 (dn : Int) (fl.length : Int)) 1) = false := h2
        rw [em, eo] at h3
        have h4 := no_ (.inr (by have := of_decide_eq_false h3; omega))
        refine BackP.intro (k + 1, m, out) ⟨by show k + 1 ≤ dn; omega, by show m = (om (k + 1)).length; rw [h4, hm0], by show out = (om (k + 1)).getLastD (-1); rw [h4, hout]⟩ (by show dn - (k + 1) < dn - k; omega) ⟨?_, HEnt.refl _, rfl⟩
        (cbv; (repeat' (first | exact SnD.refl _ | exact trivial | exact SnD.nat0 | refine And.intro ?_ ?_)))
        exact .inc (by omega)
    · have h4 := no_ (.inl h1)
      refine BackP.intro (k + 1, m, out) ⟨by show k + 1 ≤ dn; omega, by show m = (om (k + 1)).length; rw [h4, hm0], by show out = (om (k + 1)).getLastD (-1); rw [h4, hout]⟩ (by show dn - (k + 1) < dn - k; omega) ⟨?_, HEnt.refl _, rfl⟩
      (cbv; (repeat' (first | exact SnD.refl _ | exact trivial | exact SnD.nat0 | refine And.intro ?_ ?_)))
      exact .inc (by omega)
  · have hk2 : k = dn := by
      have h3 : decide ((k : Int) < (dn : Int)) = false := hs
      have := of_decide_eq_false h3
      omega
    clear hs
    subst hk2
    rw [← hm0] at hr2 hr3
    simp only [← hout] at hjs
    clear hos hol hag hF2 hA2 hmk hm0
    refine SplitP.mk (fun h1 => ?_) (fun h1 => ?_) <;> simp only [BE.lss_t, BE.lss_f, BE.leq_t, BE.leq_f, BE.gtr_t, BE.gtr_f, BE.geq_t, BE.geq_f, BE.eql_t, BE.eql_f, BE.neq_t, BE.neq_f, BE.not_t, BE.not_f, BE.var_d, BE.lit_d, BE.seq_t, BE.seq_f, BE.beq_t, BE.beq_f, IE.var_d, IE.lit_d, IE.nat_d, IE.len_d, IE.sum_d, IE.u8_d, ncast, Int.ofNat_lt, Int.ofNat_le, Int.ofNat_inj] at h1
    · exact zeroF_ret (hr2 (by ((try simp only [ncast] at *); omega)))
    obtain ⟨e1, e2⟩ := hr3 (by ((try simp only [ncast] at *); omega))
    subst e1 e2
    clear hr2 hr3
    refine CodeP.virtc 2 1 3 1 _ rfl rfl ?_
    refine CodeP.loopm hT hm (X := Nat × Nat × List Int) (fun x => [(13, .int .i64 (.nat x.1))]) (fun x => [.cells [i64 no, .slm 1 (some (.var nl)) intC fl], .cells [.int .i64 (.lit 0), .nils], .cells [.int .i64 (.bin .add .i64 (.var no) (.lit 1)), .osl 1 3 (x.2.1 + 1) (.cmp .eql (.nat x.2.1) (.lit 0)) (.lit 0) (.nat x.2.1)], .row 3 1 (x.2.1 + 1) (.map intC x.2.2)])
      (fun x => x.1 ≤ k ∧ x.2.2 = jo x.1 ∧ x.2.2.length = x.2.1) (fun x => k - x.1) (0, 0, []) ⟨by simp, hj0.symm, rfl⟩ (fun _ => by simp) ⟨?_, ?_, rfl⟩ ?_
    · (cbv; (repeat' (first | exact SnD.refl _ | exact trivial | exact SnD.nat0 | refine And.intro ?_ ?_)))
    · (cbv; (repeat' (first | exact trivial | exact BkEq.refl _ | exact SnD.refl _ | exact SnDs.nil | refine BkEq.cells ?_ | refine SnDs.cons ?_ ?_ | refine And.intro ?_ ?_)))
      · exact osl_start
      · exact .row rfl
    intro ⟨j, m2, js⟩ ⟨hj, hjs0, hjm⟩
    replace hj : j ≤ k := hj
    replace hjs0 : js = jo j := hjs0
    replace hjm : js.length = m2 := hjm
    have hjlj := hjl j
    have hm2 : m2 ≤ 4 := by rw [← hjm, hjs0]; omega
    cbv
    refine SplitP.mk (fun hs => ?_) (fun hs => ?_)
    · have hlt : j < k := by
        have h3 : decide ((j : Int) < (k : Int)) = true := hs
        have := of_decide_eq_true h3
        omega
      clear hs
      have hok := hjs j
      have hIj := hI2 j
      obtain ⟨b, hb⟩ : ∃ b, b = isf (j : Int) := ⟨_, rfl⟩
      rw [← hb] at hok hIj
      have yes_ : ((j : Int) = out ∨ b = true) → ReqP (fun _ => (IE.lit 1).den = (RE.lits [intC (j : Int)]).den.length) True := fun _ => ReqP.mk rfl fun _ => trivial
      refine SplitP.mk (fun h1 => ?_) (fun h1 => ?_) <;> simp only [BE.eql_t, BE.eql_f, IE.var_d, IE.nat_d] at h1
      · rw [decide_eq_true h1] at hok
        simp only [Bool.true_or, if_true] at hok
        refine ReqP.mk (app_ok hjm (by omega) (fun _ => rfl) rfl (by decide)) (fun _ => ?_)
        cbv
        obtain ⟨js', hjs'⟩ : ∃ a, a = js ++ [(j : Int)] := ⟨_, rfl⟩
        refine BackP.intro (j + 1, m2 + 1, js') ⟨by show j + 1 ≤ k; omega, by show js' = jo (j + 1); rw [hok, hjs', hjs0], by show js'.length = m2 + 1; rw [hjs']; simp [hjm]⟩ (by show k - (j + 1) < k - j; omega) ⟨?_, ?_, rfl⟩
        · (cbv; (repeat' (first | exact SnD.refl _ | exact trivial | exact SnD.nat0 | refine And.intro ?_ ?_)))
          exact .inc (by omega)
        · (cbv; (repeat' (first | exact trivial | exact BkEq.refl _ | exact SnD.refl _ | exact SnDs.nil | refine BkEq.cells ?_ | refine SnDs.cons ?_ ?_ | refine And.intro ?_ ?_)))
          · exact osl_step m2
          · exact row_app (j : Int) hjs' (.cons (.int rfl) .nil)
      · rw [decide_eq_false h1, Bool.false_or] at hok
        refine CallP.pure _ hIj rfl ?_
        cbv
        refine SplitP.mk (fun h2 => ?_) (fun h2 => ?_) <;> simp only [BE.var_d] at h2
        · rw [if_pos h2] at hok
          refine ReqP.mk (app_ok hjm (by omega) (fun _ => rfl) rfl (by decide)) (fun _ => ?_)
          cbv
          obtain ⟨js', hjs'⟩ : ∃ a, a = js ++ [(j : Int)] := ⟨_, rfl⟩
          refine BackP.intro (j + 1, m2 + 1, js') ⟨by show j + 1 ≤ k; omega, by show js' = jo (j + 1); rw [hok, hjs', hjs0], by show js'.length = m2 + 1; rw [hjs']; simp [hjm]⟩ (by show k - (j + 1) < k - j; omega) ⟨?_, ?_, rfl⟩
          · (cbv; (repeat' (first | exact SnD.refl _ | exact trivial | exact SnD.nat0 | refine And.intro ?_ ?_)))
            exact .inc (by omega)
          · (cbv; (repeat' (first | exact trivial | exact BkEq.refl _ | exact SnD.refl _ | exact SnDs.nil | refine BkEq.cells ?_ | refine SnDs.cons ?_ ?_ | refine And.intro ?_ ?_)))
            · exact osl_step m2
            · exact row_app (j : Int) hjs' (.cons (.int rfl) .nil)
        · rw [if_neg (by simp [h2]), List.append_nil] at hok
          refine BackP.intro (j + 1, m2, js) ⟨by show j + 1 ≤ k; omega, by show js = jo (j + 1); rw [hok, hjs0], hjm⟩ (by show k - (j + 1) < k - j; omega) ⟨?_, ?_, rfl⟩
          · (cbv; (repeat' (first | exact SnD.refl _ | exact trivial | exact SnD.nat0 | refine And.intro ?_ ?_)))
            exact .inc (by omega)
          · (cbv; (repeat' (first | exact trivial | exact BkEq.refl _ | exact SnD.refl _ | exact SnDs.nil | refine BkEq.cells ?_ | refine SnDs.cons ?_ ?_ | refine And.intro ?_ ?_)))
    · have hk2 : j = k := by
        have h3 : decide ((j : Int) < (k : Int)) = false := hs
        have := of_decide_eq_false h3
        omega
      clear hs
      subst hk2
      rw [← hjs0]
      refine .mk (.cons (.aggs (.cons (.eq (.int ?_)) (.cons (.slm rfl (.inl ⟨_, _, rfl, rfl⟩) rfl ?_ (fun e h => ?_)) .nil))) (.cons (.eq (.int rfl)) .nil)) rfl
      · exact add64 (by show _ ≤ no + 1; omega) (by show no + 1 ≤ _; omega)
      · show (m2 : Int) = (js.length : Int)
        omega
      · cases h
        show js.isEmpty = ((m2 : Int) == 0)
        cases js with
        | nil => rw [← hjm]; rfl
        | cons a l => rw [← hjm]; symm; exact beq_eq_false_iff_ne.2 (by simp only [List.length_cons]; omega)
end Go.Proofs.Ytbmcepkccenoaaa
namespace Go.Proofs.Ytbmcepkccenoaaa
open Go.RowKit

/-! slices.Clone at bytes. -/
set_option maxRecDepth 100000 in
set_option maxHeartbeats 4000000 in
theorem Clone_pure (l : List (BitVec 8)) (n : Bool) (hn : n = true → l = []) (hl : l.length ≤ 100000) : Pure Try.prog 39 [.slm 1 (some (.var n)) u8C l] (.slm 1 (some (.var n)) u8C l) := by
  refine Pure.intro (want := [.slm 1 (some (.var n)) u8C l]) T_ok follows Try.func39 rfl (by kernel_rfl) (rs := [.tmp 2]) rfl (by kernel_rfl) ?_
  generalize hP : Try.prog = P
  have hT : T.ok P := hP ▸ T_ok
  have hm : P.follows .mixedOrders = true := hP ▸ follows
  unfold Try.f39
  dsimp only
  cbv
  refine SplitP.mk (fun hs => ?_) (fun hs => ?_) <;> simp only [BE.lss_t, BE.lss_f, BE.leq_t, BE.leq_f, BE.gtr_t, BE.gtr_f, BE.geq_t, BE.geq_f, BE.eql_t, BE.eql_f, BE.neq_t, BE.neq_f, BE.not_t, BE.not_f, BE.var_d, BE.lit_d, BE.seq_t, BE.seq_f, BE.beq_t, BE.beq_f, IE.var_d, IE.lit_d, IE.nat_d, IE.len_d, IE.sum_d, IE.u8_d, ncast, Int.ofNat_lt, Int.ofNat_le, Int.ofNat_inj] at hs
  · exact .mk (.cons (.eq (.nilv (hn hs) hs)) .nil) rfl
  · refine ReqP.mk ⟨by simp [IE.den, RE.den], rfl, map_cells (fun _ => rfl), (by intro e he; cases he), by show (0 : Int) + (l.length : Int) ≤ 9223372036854775807; omega, by show ((0 : Int) + (l.length : Int)) * ((1 : Nat) : Int) ≤ 140737488355328; omega⟩ (fun _ => ?_)
    cbv
    exact .mk (.cons (.slm rfl (.inl ⟨_, _, rfl, rfl⟩) rfl rfl (fun e h => by cases h; exact hs)) .nil) rfl
/-- slices.Clone at ints of a slice that is not nil: a row of its own -/
theorem CloneI_new (l : List Int) (hl : l.length ≤ 100000) : CallP Try.prog 30 [.slm 1 (some (.var false)) intC l] [] fun d1 H1 => d1 = .osl 1 0 2 (.lit false) (.lit 0) (.len l) ∧ H1 = [.row 3 1 2 (.apps (.lits []) (.map intC l))] := by
  generalize hP : Try.prog = P
  have hT : T.ok P := hP ▸ T_ok
  have hm : P.follows .mixedOrders = true := hP ▸ follows
  refine (CallP.inl hT hm (hP ▸ Try.func30) rfl (by kernel_rfl) (rs := [.tmp 2]) rfl (by kernel_rfl) ?_)
  unfold Try.f30
  dsimp only
  cbv
  refine SplitP.mk (fun hs => ?_) (fun hs => ?_) <;> simp only [BE.lss_t, BE.lss_f, BE.leq_t, BE.leq_f, BE.gtr_t, BE.gtr_f, BE.geq_t, BE.geq_f, BE.eql_t, BE.eql_f, BE.neq_t, BE.neq_f, BE.not_t, BE.not_f, BE.var_d, BE.lit_d, BE.seq_t, BE.seq_f, BE.beq_t, BE.beq_f, IE.var_d, IE.lit_d, IE.nat_d, IE.len_d, IE.sum_d, IE.u8_d, ncast, Int.ofNat_lt, Int.ofNat_le, Int.ofNat_inj] at hs
  · cases hs
  refine ReqP.mk ⟨by simp [IE.den, RE.den], rfl, map_cells (fun _ => rfl), (by intro e he; cases he), by show (0 : Int) + (l.length : Int) ≤ 9223372036854775807; omega, by show ((0 : Int) + (l.length : Int)) * ((8 : Nat) : Int) ≤ 140737488355328; omega⟩ (fun _ => ?_)
  cbv
theorem CloneI_nil (l : List Int) (hl : l = []) : Pure Try.prog 30 [.slm 1 (some (.var true)) intC l] .nils := by
  refine Pure.intro (want := [.nils]) T_ok follows Try.func30 rfl (by kernel_rfl) (rs := [.tmp 2]) rfl (by kernel_rfl) ?_
  generalize hP : Try.prog = P
  have hT : T.ok P := hP ▸ T_ok
  have hm : P.follows .mixedOrders = true := hP ▸ follows
  unfold Try.f30
  dsimp only
  cbv
  refine SplitP.mk (fun hs => ?_) (fun hs => ?_) <;> simp only [BE.lss_t, BE.lss_f, BE.leq_t, BE.leq_f, BE.gtr_t, BE.gtr_f, BE.geq_t, BE.geq_f, BE.eql_t, BE.eql_f, BE.neq_t, BE.neq_f, BE.not_t, BE.not_f, BE.var_d, BE.lit_d, BE.seq_t, BE.seq_f, BE.beq_t, BE.beq_f, IE.var_d, IE.lit_d, IE.nat_d, IE.len_d, IE.sum_d, IE.u8_d, ncast, Int.ofNat_lt, Int.ofNat_le, Int.ofNat_inj] at hs
  · exact .mk (SnDs.refl _) rfl
  · cases hs
end Go.Proofs.Ytbmcepkccenoaaa
namespace Go.Proofs.Ytbmcepkccenoaaa
open Go.RowKit Go.Shelf Go.Sort

/-! slices.Sort at ints: the library's contract laid at this program; the sort of an own row. -/
def lays189_ren : Go.Shelf.Ren := ⟨fun | 189 => 31 | 125 => 47 | 257 => 46 | 128 => 80 | 129 => 81 | 294 => 71 | 295 => 72 | 296 => 73 | 297 => 74 | 298 => 75 | 299 => 76 | 216 => 77 | 300 => 78 | 301 => 79 | 328 => 87 | 329 => 88 | 330 => 89 | 331 => 90 | 332 => 91 | 215 => 92 | 343 => 95 | n => n, fun | 28 => 22 | 3 => 3 | 46 => 76 | 0 => 0 | 51 => 104 | 53 => 106 | 4 => 4 | 183 => 96 | 182 => 95 | 131 => 101 | 5 => 5 | 9 => 9 | 218 => 113 | 222 => 117 | 228 => 121 | 229 => 122 | n => n, fun | n => n⟩
theorem lays189 : Go.Proofs.Lays.n189 Try.prog lays189_ren := {
  mixed := by kernel_rfl
  f125 := Try.func47.trans (congrArg some (by kernel_rfl))
  f128 := Try.func80.trans (congrArg some (by kernel_rfl))
  f129 := Try.func81.trans (congrArg some (by kernel_rfl))
  f189 := Try.func31.trans (congrArg some (by kernel_rfl))
  f215 := Try.func92.trans (congrArg some (by kernel_rfl))
  f216 := Try.func77.trans (congrArg some (by kernel_rfl))
  f257 := Try.func46.trans (congrArg some (by kernel_rfl))
  f294 := Try.func71.trans (congrArg some (by kernel_rfl))
  f295 := Try.func72.trans (congrArg some (by kernel_rfl))
  f296 := Try.func73.trans (congrArg some (by kernel_rfl))
  f297 := Try.func74.trans (congrArg some (by kernel_rfl))
  f298 := Try.func75.trans (congrArg some (by kernel_rfl))
  f299 := Try.func76.trans (congrArg some (by kernel_rfl))
  f300 := Try.func78.trans (congrArg some (by kernel_rfl))
  f301 := Try.func79.trans (congrArg some (by kernel_rfl))
  f328 := Try.func87.trans (congrArg some (by kernel_rfl))
  f329 := Try.func88.trans (congrArg some (by kernel_rfl))
  f330 := Try.func89.trans (congrArg some (by kernel_rfl))
  f331 := Try.func90.trans (congrArg some (by kernel_rfl))
  f332 := Try.func91.trans (congrArg some (by kernel_rfl))
  f343 := Try.func95.trans (congrArg some (by kernel_rfl))
  t0 := Try.underlying0
  a0 := Try.isAgg0
  z0 := Try.sizeOf0
  v0 := Try.zeroValue0
  t3 := Try.underlying3
  a3 := Try.isAgg3
  z3 := Try.sizeOf3
  v3 := Try.zeroValue3
  t4 := Try.underlying4
  a4 := Try.isAgg4
  z4 := Try.sizeOf4
  v4 := Try.zeroValue4
  t5 := Try.underlying5
  a5 := Try.isAgg5
  z5 := Try.sizeOf5
  v5 := Try.zeroValue5
  t9 := Try.underlying9
  a9 := Try.isAgg9
  z9 := Try.sizeOf9
  v9 := Try.zeroValue9
  t28 := Try.underlying22
  a28 := Try.isAgg22
  z28 := Try.sizeOf22
  v28 := Try.zeroValue22
  t46 := Try.underlying76
  a46 := Try.isAgg76
  z46 := Try.sizeOf76
  v46 := Try.zeroValue76
  t51 := Try.underlying104
  a51 := Try.isAgg104
  z51 := Try.sizeOf104
  v51 := Try.zeroValue104
  t53 := Try.underlying106
  a53 := Try.isAgg106
  z53 := Try.sizeOf106
  v53 := Try.zeroValue106
  t131 := Try.underlying101
  a131 := Try.isAgg101
  z131 := Try.sizeOf101
  v131 := Try.zeroValue101
  t182 := Try.underlying95
  a182 := Try.isAgg95
  z182 := Try.sizeOf95
  v182 := Try.zeroValue95
  t183 := Try.underlying96
  a183 := Try.isAgg96
  z183 := Try.sizeOf96
  v183 := Try.zeroValue96
  t218 := Try.underlying113
  a218 := Try.isAgg113
  z218 := Try.sizeOf113
  v218 := Try.zeroValue113
  t222 := Try.underlying117
  a222 := Try.isAgg117
  z222 := Try.sizeOf117
  v222 := Try.zeroValue117
  t228 := Try.underlying121
  a228 := Try.isAgg121
  z228 := Try.sizeOf121
  v228 := Try.zeroValue121
  t229 := Try.underlying122
  a229 := Try.isAgg122
  z229 := Try.sizeOf122
  v229 := Try.zeroValue122 }

theorem onCells_cells (f : Array Value → Array Value) (cs : Array Value) (t : TypeId) (fz : Nat × Nat) : onCells f (.cells cs t fz) = .cells (f cs) t fz := rfl
theorem sort_call {H : List Bk} {b ver ty : Nat} {nb : BE} {len : IE} {r : RE} {l : List Int} {K : D → List Bk → Prop} (hb : H[b]? = some (.row ty 1 ver r)) (hr : r.den = l.map intC) (hnn : nb.den = false) (hlen : len.den = (l.length : Int)) (hsz : l.length < 4611686018427387904)
    (hk : K (.tup []) (H.set b (.row ty 1 ver (.map intC (l.mergeSort fun x y => decide (x ≤ y)))))) : CallP Try.prog 31 [.osl 1 b ver nb (.lit 0) len] H K := by
  refine ⟨⟨_, _, Try.func31, rfl, by kernel_rfl⟩, fun B w E vs hh hl hw => ?_⟩
  obtain ⟨h1, h2⟩ := hl
  simp only [List.length_cons, List.length_nil] at h1
  obtain ⟨v, rfl⟩ : ∃ v, vs = #[v] := by
    obtain ⟨vl⟩ := vs
    match vl, h1 with
    | [v], _ => exact ⟨v, rfl⟩
  have hv := h2 0 _ v rfl rfl
  have hblk := hw.heap b _ hb
  cases hv with
  | osln hk' hs hnb => rw [hnn] at hnb; cases hnb
  | osls hk' =>
    rcases hblk with ⟨z1, _⟩ | ⟨z1, _⟩
    · omega
    · simp only [Bk.ver] at z1; omega
  | oslc hk' hs hnb hlz hn hc hm hz =>
    rename_i c m cap
    rcases hblk with ⟨_, z2⟩ | ⟨z1, z2, _⟩
    · rw [z2] at hs; cases hs
    obtain ⟨cs, t, y1, y2, y3, y4, y5⟩ := z2 c hs
    have hml : m = l.length := by rw [hlen] at hn; omega
    subst hml
    have hbk : Blk w c cs t := y2
    have hcl : l.length ≤ cs.size := by rw [hr] at y4; simpa using y4
    have hcs : ∀ j, j < l.length → cs[j]? = some (.int .i64 l[j]!) := fun j hj => by
      have he : r.den[j]? = some (intC l[j]) := by rw [hr]; simp [hj]
      obtain ⟨_, u2⟩ := y5 j _ he
      obtain ⟨v, u3, u4⟩ := u2 0 _ rfl
      cases u4
      simp only [Nat.mul_one, Nat.add_zero] at u3
      rw [u3]
      simp [hj, IE.den]
    have hin : ∀ x ∈ l, InR .i64 x := fun x hx => by
      obtain ⟨j, hj, rfl⟩ := List.getElem_of_mem hx
      have he : r.den[j]? = some (intC l[j]) := by rw [hr]; simp [hj]
      obtain ⟨_, u2⟩ := y5 j _ he
      obtain ⟨v, u3, u4⟩ := u2 0 _ rfl
      cases u4 with | int hi => exact hi
    have hH : Go.Sort.Holds (Value.int .i64) w c 0 l.toArray := fun j hj => by
      simp at hj
      refine ⟨?_, hbk.frozen _⟩
      rw [hbk.cell]
      simp only [Nat.zero_add]
      rw [hcs j hj]
      simp
    have hcw : c < w.heap.size := (hw.own b c hs).2.1
    have key := Any.slices_Sort_int lays189 c 0 cap l w hH hcw hsz
    have e31 : lays189_ren.f 189 = 31 := rfl
    rw [e31] at key
    have e0 : (IE.lit 0).den.toNat * 1 = 0 := rfl
    rw [e0]
    refine key.mono ?_
    rintro e w' ⟨rfl, n, os, rfl⟩
    obtain ⟨srt, hsrt⟩ : ∃ srt, srt = l.mergeSort fun x y => decide (x ≤ y) := ⟨_, rfl⟩
    rw [← hsrt] at hk ⊢
    have hsl : srt.length = l.length := by rw [hsrt, List.length_mergeSort]
    obtain ⟨c', k1, k2, k3⟩ := setCells_blk (srt.map (Value.int .i64)) 0 w cs hbk (by simp; omega)
    simp only [Nat.zero_le, true_and, Nat.zero_add, List.length_map, Nat.sub_zero] at k3
    obtain ⟨p1, p2⟩ := hw.put (x := b) (c := c) hs hb (b' := .row ty 1 ver (.map intC srt)) (srt.map (Value.int .i64)) 0 z1 (by
      refine ⟨c', t, y1, k1, by omega, by simp [RE.den]; omega, fun i e he => ?_⟩
      simp only [RE.den, List.getElem?_map, Option.map_eq_some_iff] at he
      obtain ⟨x, hx, rfl⟩ := he
      have hi := (List.getElem?_eq_some_iff.1 hx).1
      refine ⟨rfl, fun j d hd => ?_⟩
      match j, hd with
      | 0, hd =>
        simp only [List.getElem?_cons_zero, Option.some.injEq] at hd
        subst hd
        refine ⟨.int .i64 x, ?_, ?_⟩
        · simp only [Nat.mul_one, Nat.add_zero]
          rw [k3 i (by omega), if_pos (by omega)]
          simp [hx]
        · refine .int (hin x ?_)
          have := List.mem_of_getElem? hx
          rw [hsrt] at this
          exact List.mem_mergeSort.1 this)
    have hos := below_setCells (hw.own b c hs).1 (srt.map (Value.int .i64)) 0 w
    have hw1 : (w.setCells c 0 (srt.map (Value.int .i64))).heap[c]? = some (.cells c' t (0, 0)) := k1
    have hbel : Below (w.setCells c 0 (srt.map (Value.int .i64))).heap.size (w.setCells c 0 (srt.map (Value.int .i64))) (grow (putRow (Value.int .i64) (Sort.ahead w n) c 0 srt.toArray) os) := by
      refine ⟨hos.os.symm ▸ rfl, hos.tape.symm ▸ rfl, hos.output.symm ▸ rfl, ?_, fun k hk => ?_⟩
      · rw [setCells_size]
        show w.heap.size ≤ (w.heap.modify c _ ++ os).size
        simp
      · rw [setCells_size] at hk
        show (w.heap.modify c (onCells (putCells (Value.int .i64) 0 srt.toArray)) ++ os)[k]? = _
        rw [Array.getElem?_append_left (by simpa using hk), Array.getElem?_modify]
        by_cases e : c = k
        · subst e
          rw [if_pos rfl, hw1, y2]
          simp only [Option.map_some, onCells_cells, Option.some.injEq]
          congr 1
          refine Array.ext_getElem? fun i => ?_
          unfold putCells
          rw [Array.getElem?_mapIdx]
          rcases Nat.lt_or_ge i cs.size with q | q
          · rw [k3 i q, Array.getElem?_eq_getElem q]
            simp only [Option.map_some, Nat.zero_le, true_and, Nat.zero_add, Nat.sub_zero, List.size_toArray]
            by_cases q2 : i < srt.length
            · rw [if_pos q2, if_pos q2]
              simp [q2]
            · rw [if_neg q2, if_neg q2]
          · rw [Array.getElem?_eq_none q, Array.getElem?_eq_none (by omega)]
            rfl
        · rw [if_neg e, setCells_heap c _ 0 w k (fun q => e q.symm)]
    have hfin : WRel B (H.set b (.row ty 1 ver (.map intC srt))) E (grow (putRow (Value.int .i64) (Sort.ahead w n) c 0 srt.toArray) os) := p1.same hbel
    exact ⟨_, E, _, _, rfl, hfin, .tup rfl (fun i d v h => by simp at h), hk⟩
end Go.Proofs.Ytbmcepkccenoaaa
namespace Go.Proofs.Ytbmcepkccenoaaa
open Go.RowKit

/-! A function that defers one call of a closure, and ends. -/
theorem LRep.move {w w' : World} {E E' : Env} {l : List D} {vs : Array Value} (h : LRep w E l vs) (h1 : E.le w w' E') (h2 : E.own E') : LRep w' E' l vs := ⟨h.1, fun i d v hd hv => (h.2 i d v hd hv).move h1 h2⟩
theorem LRep.trunc {w : World} {E : Env} {l : List D} {vs : Array Value} {n : Nat} (hl : l.all (D.undr 8 n) = true) (h : LRep w E l vs) : LRep w (E.trunc n) l vs :=
  ⟨h.1, fun i d v hd hv => DRep.trunc 8 (List.all_eq_true.1 hl d (List.mem_of_getElem? hd)) (h.2 i d v hd hv)⟩
theorem undr_all_mono {l : List D} {n m : Nat} (hnm : n ≤ m) (hl : l.all (D.undr 8 n) = true) : l.all (D.undr 8 m) = true := List.all_eq_true.2 fun d hd => D.undr_mono 8 hnm (List.all_eq_true.1 hl d hd)
theorem Pure.introD {P : Program} {f : Nat} {fn : Func} {c1 c3 : Code} {rid : Nat} {o1 o2 : Oper} {t n : Nat} {xs : List Operand} {ats : Array TypeId} {args want : List D} {T : Tab} (hT : T.ok P) (hm : P.follows .mixedOrders = true) (hf : P.funcs[f]? = some fn) (hb : fn.body = some (c1.seq ((Code.region rid ⟨[o1, o2]⟩ false).seq c3)))
    (hn : (fn.name == "runtime.NumGoroutine") = false) {rs : List ResultVar} (hr : fn.results.toList = rs) (hl : decide (args.length ≤ fn.ntmps) = true)
    (g1 : o1.guard = none) (h1 : o1.op = .makeFunc (.func n) ⟨[]⟩ ⟨xs⟩) (d1 : o1.dst = some t) (g2 : o2.guard = none) (d2 : o2.dst = none) (h2 : o2.op = .defer ⟨.value (.tmp t), ⟨[]⟩, ats⟩) (ht : decide (t < fn.ntmps) = true)
    (h : vc P ⟨T, fn.ntmps, 0⟩ c1 (argFr 0 args) [] fun e fr H => match e with
      | .normal => ∃ fr1 H1, EntP fr H fr1 H1 ∧ (xs.map fr1.ev).all (D.undr 8 H1.length) = true ∧ vc P ⟨T, fn.ntmps, H1.length⟩ c3 (fr1.set t (.fn (.func n) [] (xs.map fr1.ev))) H1 (retKD P T rs want n (xs.map fr1.ev))
      | e => StuckX e) : Pure P f args (retD want) := by
  simp only [decide_eq_true_eq] at hl ht
  refine ⟨⟨fn, _, hf, hb, hn⟩, fun w G vs hG hv => ?_⟩
  let B : Base := ⟨w, G, fn.ntmps, 0, fun _ _ => True, fun _ _ _ _ _ _ _ => trivial, fun _ _ _ _ _ => trivial, []⟩
  have h0 := enter_rel (B := B) (fn := fn) hl hv (H := []) ⟨fun x y c h => by simp [Env.of] at h, fun x c h => by simp [Env.of] at h, fun _ _ => rfl, fun x b h => by simp at h, fun _ _ => ⟨rfl, rfl⟩, hG, fun _ h => h, fun _ h => .inl h, Below.refl _ _, trivial⟩ rfl rfl
  refine calls_of_wp_defers hf hb (wp_seq (Code.wp_mono (fun e a' w' ⟨fr', H', E', q1, q2⟩ => ?_) ((vc_sound hT hm c1 h).run B _ _ _ ⟨rfl, Nat.le_refl _⟩ h0)))
  cases e with
  | normal =>
    obtain ⟨fr1, H1, qe, k1, k2⟩ := q1
    obtain ⟨E1, q3⟩ : ∃ E1, Rel B ⟨fr1, H1⟩ E1 a' w' := ⟨_, qe.rel (Nat.zero_le _) q2⟩
    clear qe q2 fr' H' E'
    have q2 := q3
    clear q3
    obtain ⟨fr', rfl⟩ : ∃ x, x = fr1 := ⟨_, rfl⟩
    obtain ⟨H', rfl⟩ : ∃ x, x = H1 := ⟨_, rfl⟩
    obtain ⟨E', rfl⟩ : ∃ x, x = E1 := ⟨_, rfl⟩
    refine wp_seq (wp_region_list ?_)
    generalize hcaps : xs.map fr'.ev = caps at k1 k2
    obtain ⟨cv, hcv⟩ : ∃ cv : Array Value, cv = (xs.map a'.eval).toArray := ⟨_, rfl⟩
    have hlr : LRep w' E' caps cv := by
      subst hcaps hcv
      refine ⟨by simp, fun i d v hd hv' => ?_⟩
      simp only [List.getElem?_map, List.getElem?_toArray, Option.map_eq_some_iff] at hd hv'
      obtain ⟨x, hx, rfl⟩ := hd
      obtain ⟨y, hy, rfl⟩ := hv'
      rw [hx] at hy
      cases hy
      exact q2.ev x
    have hfv : DRep w' E' (.fn (.func n) [] caps) (.func (.func n) #[] cv) := .fn (by simp) hlr.1 (fun i d v h => by simp at h) hlr.2
    have hp := q2.put q2.wr (Env.le.refl _ _) (Env.own.refl _) (dst := some t) (by simp [dstB, ht, B]) hfv
    have e1 : (execOp a'.eval o1).run P w' = .ok (.value (.func (.func n) #[] cv)) w' := by
      unfold execOp; rw [h1, hcv]; simp [Instr.makeFunc]
    let d0 : Deferred := ⟨.fn (.func n) cv, #[]⟩
    have e2 : (execOp (a'.put (some t) (.func (.func n) #[] cv)).eval o2).run P w' = .ok (.defer d0) w' := by
      unfold execOp
      rw [h2]
      have : (a'.put (some t) (.func (.func n) #[] cv)).eval (.tmp t) = .func (.func n) #[] cv := eval_put_same (by rw [q2.sz]; exact ht)
      simp [resolve, this, Deferred.ofValue]
      rfl
    have hnd : (a'.put (some t) (.func (.func n) #[] cv)).defers = [] := put_defers'.trans q2.df
    simp only [wpList, Region.wanted, g1, g2, if_true]
    refine .inl ?_
    unfold Oper.wp
    rw [e1, Oper.upon_value, d1]
    refine .inl ?_
    rw [e2, Oper.upon_defer, d2, hnd]
    generalize ha2 : a'.put (some t) (.func (.func n) #[] cv) = a2 at *
    let B2 : Base := ⟨w, G, fn.ntmps, H'.length, fun w E => LRep w E caps cv, fun _ _ _ _ h1 h2 h3 => h3.move h1 h2, fun _ _ _ hn h3 => h3.trunc (undr_all_mono hn k1), [d0]⟩
    have hr2 : Rel B2 ⟨fr'.set t (.fn (.func n) [] caps), H'⟩ E' { tmps := a2.tmps, defers := [d0] } w' := ⟨hp.sz, rfl, hp.fr, ⟨hp.wr.inj, hp.wr.own, hp.wr.wf, hp.wr.heap, hp.wr.out, hp.wr.good, hp.wr.g0, hp.wr.gn, hp.wr.bel, hlr⟩⟩
    show c3.wp P _ { tmps := a2.tmps, defers := [d0] } w'
    refine Code.wp_mono (fun e a3 w3 ⟨fr3, H3, E3, q3, q4⟩ => ?_) ((vc_sound hT hm c3 k2).run B2 _ _ _ ⟨rfl, Nat.le_refl _⟩ hr2)
    have hd3 : a3.defers = [d0] := q4.df
    have fin : retKD P T rs want n caps .ret fr3 H3 → Leaves P fn a3.tmps (fun e w' => ∃ (v : Value) (G' : Nat → Prop), e = Ending.returned v ∧ Below w.heap.size w w' ∧ (∀ b, G b → G' b) ∧ (∀ b, G' b → G b ∨ w.heap.size ≤ b) ∧ (∀ b, G' b → b < w'.heap.size) ∧ DRep w' (Env.of G') (retD want) v) [d0] .returning w3 := by
      intro hk
      unfold retKD at hk
      simp only at hk
      split at hk
      · next hchk =>
        simp only [Bool.and_eq_true] at hchk
        let B3 : Base := ⟨w, G, fn.ntmps, H3.length, fun w E => ∀ t, DRep w E (fr3.get t) (a3.tmps.getD t undef), fun _ _ _ _ h1 h2 h3 t => (h3 t).move h1 h2, fun _ _ _ hn h3 t => DRep.trunc 8 (D.undr_mono 8 hn (Fr.get_undr hchk.1 t)) (h3 t), [d0]⟩
        have hw3 : WRel B3 H3 E3 w3 := ⟨q4.wr.inj, q4.wr.own, q4.wr.wf, q4.wr.heap, q4.wr.out, q4.wr.good, q4.wr.g0, q4.wr.gn, q4.wr.bel, q4.fr⟩
        refine leaves_cons (fun h => by cases h) (by show (callFunc n _).run P w3 = _; exact callFunc_here hk.here _ _) ((hk.run B3 w3 E3 _ (Nat.le_refl _) ?_ hw3).mono ?_)
        · have := q4.wr.phi
          simpa using this
        · rintro e u' w4 ⟨rfl, v4, E4, d4, H4, rfl, r1, r2, r3⟩
          show Leaves P fn a3.tmps _ [] (settle .returning) w4
          have hrel : Rel B3 ⟨fr3, H4⟩ E4 a3 w4 := ⟨q4.sz, hd3, r1.phi, r1⟩
          unfold retX at r3
          split at r3
          · next ds hds =>
            obtain ⟨hs, hdat⟩ := r3
            obtain ⟨v, us, y1, y2, y3, y4⟩ := results_rep hT (fn := fn) hrel (by rw [hr]; exact hds)
            obtain ⟨z1, z2⟩ := hs.get
            refine ⟨v, y1, v, E4.lent, rfl, r1.bel, fun b hb => .inl (r1.g0 b hb), fun b hb => ?_, r1.lentGood, ?_⟩
            · rcases hb with hb | ⟨x, hx⟩
              · exact r1.gn b hb
              · exact .inr (r1.own x b hx).1
            · refine retD_rep y2 (by omega) fun i d u h1 h2 => ?_
              have hlt := (List.getElem?_eq_some_iff.1 h1).1
              have h3 : ds[i]? = some (ds[i]'(by omega)) := List.getElem?_eq_getElem (by omega)
              exact (z2 i _ d h3 h1).lent r1.heap (y4 i _ u h3 h2) (List.all_eq_true.1 hdat d (List.mem_of_getElem? h1))
          · cases r3
      · cases hk
    cases e with
    | ret => show Leaves P fn a3.tmps _ a3.defers .returning w3; rw [hd3]; exact fin q3
    | normal => show Leaves P fn a3.tmps _ a3.defers .returning w3; rw [hd3]; exact fin q3
    | exit i => cases q3
    | goto l => cases q3
    | panic ch => cases q3
    | outgrown => cases q3
  | ret => cases q1
  | exit i => cases q1
  | goto l => cases q1
  | panic ch => cases q1
  | outgrown => cases q1
end Go.Proofs.Ytbmcepkccenoaaa
namespace Go.Proofs.Ytbmcepkccenoaaa
open Go.RowKit

/-! fence.Vote. -/
def othK (fr : Int → Bool) (d : Int) : Nat → Nat
  | 0 => 0
  | k + 1 => othK fr d k + (if (!decide ((k : Int) = d) && fr (k : Int)) = true then 1 else 0)
def bysD (d : Int) (l : List VoteD) : List Int := (l.filter fun v => decide (v.device = d)).map (·.by_)
def outsC (fr : Int → Bool) (L : List VoteD) (mn : Nat) : Nat → List Int
  | 0 => []
  | k + 1 => outsC fr L mn k ++ (if (fr (k : Int) && decide (othK fr (k : Int) mn < 2 * (bysD (k : Int) L).length)) = true then [(k : Int)] else [])
def outsV (f : FenceD) (vs : List VoteD) (dv : Int) : List Int := outsC (freeC f dv) (pickL (goodC f dv) [] vs) (min dv 4).toNat (min dv 4).toNat
def sortI (l : List Int) : List Int := l.mergeSort fun x y => decide (x ≤ y)
def voteP (f : FenceD) (vs : List VoteD) (dv : Int) : FenceD × Int :=
  if fvalidB f dv = false ∨ f.no = 1048576 then (zeroF, 1) else if (outsV f vs dv).length ≠ 1 then (zeroF, 440) else
  (⟨f.no + 1, false, sortI (f.devices ++ outsV f vs dv)⟩, 0)
theorem othK_le (fr : Int → Bool) (d : Int) : ∀ k, othK fr d k ≤ k
  | 0 => Nat.le_refl _
  | k + 1 => by have := othK_le fr d k; simp only [othK]; split <;> omega
theorem outsC_le (fr : Int → Bool) (L : List VoteD) (mn : Nat) : ∀ k, (outsC fr L mn k).length ≤ k
  | 0 => Nat.le_refl _
  | k + 1 => by have := outsC_le fr L mn k; simp only [outsC]; split <;> simp <;> omega
theorem bysD_le (d : Int) (l : List VoteD) : (bysD d l).length ≤ l.length := by
  unfold bysD
  rw [List.length_map]
  exact List.length_filter_le _ _
theorem pickL_mem {g : VoteD → Bool} : ∀ {S : List Int} {l : List VoteD} {v : VoteD}, v ∈ pickL g S l → v ∈ l ∧ g v = true ∧ ¬ v.by_ ∈ S
  | S, [], v, h => by simp [pickL] at h
  | S, x :: l, v, h => by
    simp only [pickL] at h
    split at h
    · next hc =>
      simp only [Bool.and_eq_true, Bool.not_eq_true', decide_eq_false_iff_not] at hc
      rcases List.mem_cons.1 h with rfl | h
      · exact ⟨by simp, hc.1, hc.2⟩
      · obtain ⟨a, b, c⟩ := pickL_mem h
        exact ⟨by simp [a], b, fun h => c (by simp [h])⟩
    · obtain ⟨a, b, c⟩ := pickL_mem h
      exact ⟨by simp [a], b, c⟩
theorem pickL_nodup (g : VoteD → Bool) : ∀ (S : List Int) (l : List VoteD), ((pickL g S l).map (·.by_)).Nodup
  | S, [] => by simp [pickL]
  | S, x :: l => by
    simp only [pickL]
    split
    · rw [List.map_cons, List.nodup_cons]
      refine ⟨fun h => ?_, pickL_nodup g _ l⟩
      obtain ⟨v, h1, h2⟩ := List.mem_map.1 h
      exact (pickL_mem h1).2.2 (by rw [h2]; simp)
    · exact pickL_nodup g S l
theorem pickL_len (g : VoteD → Bool) : ∀ (S : List Int) (l : List VoteD), (pickL g S l).length ≤ l.length
  | S, [] => by simp [pickL]
  | S, x :: l => by
    simp only [pickL]
    split
    · have := pickL_len g (x.by_ :: S) l; simp; omega
    · have := pickL_len g S l; simp; omega
theorem bysD_step {d : Int} {L : List VoteD} {k : Nat} {v : VoteD} (h : L[k]? = some v) : bysD d (L.take (k + 1)) = bysD d (L.take k) ++ (if v.device = d then [v.by_] else []) := by
  unfold bysD
  rw [List.take_add_one, h]
  simp only [Option.toList_some, List.filter_append, List.map_append]
  congr 1
  by_cases q : v.device = d <;> simp [q]
theorem bysD_new {d : Int} {L : List VoteD} (hn : (L.map (·.by_)).Nodup) {k : Nat} {v : VoteD} (h : L[k]? = some v) : ¬ v.by_ ∈ bysD d (L.take k) := fun hm => by
  unfold bysD at hm
  obtain ⟨u, h1, h2⟩ := List.mem_map.1 hm
  obtain ⟨j, h3⟩ := List.getElem?_of_mem (List.mem_filter.1 h1).1
  have hj : j < k := by
    have := (List.getElem?_eq_some_iff.1 h3).1
    rw [List.length_take] at this
    omega
  rw [List.getElem?_take, if_pos hj] at h3
  have e1 : (L.map (·.by_))[j]? = some u.by_ := by simp [h3]
  have e2 : (L.map (·.by_))[k]? = some v.by_ := by simp [h]
  have h5 : (L.map (·.by_))[j]? = (L.map (·.by_))[k]? := by rw [e1, e2, h2]
  have := (List.getElem?_inj (List.getElem?_eq_some_iff.1 e1).1 hn).1 h5
  omega
theorem mp_start {H H' : List Bk} {S : Int → Bool} (hS : ∀ x, S x = false) : BkEq H H' (.mp .i64 (.lits [])) (.mp .i64 (.setb S (.nat 0))) := by
  refine .mp rfl fun x => ?_
  simp only [ME.den, findE, hS, Bool.false_eq_true, if_false]
  exact .none
theorem mp_same {H H' : List Bk} {S S' : Int → Bool} {n n' : IE} (hn : n.den = n'.den) (hS : ∀ x, S x = S' x) : BkEq H H' (.mp .i64 (.setb S n)) (.mp .i64 (.setb S' n')) := by
  refine .mp hn fun x => ?_
  simp only [ME.den, hS]
  split
  · exact .some (.refl _)
  · exact .none
set_option maxRecDepth 100000 in
set_option maxHeartbeats 4000000 in
theorem Vote_pure (f : FenceD) (vs : List VoteD) (nb : Option BE) (dv : Int) (hl : f.devices.length ≤ 100000) (hn : f.nil = true → f.devices = []) (hv : vs.length ≤ 100000) : Pure Try.prog 11 [f.d, .slm 3 nb VoteD.c vs, i64 dv] (.tup [(voteP f vs dv).1.d, i64 (voteP f vs dv).2]) := by
  obtain ⟨rs, hrs⟩ : ∃ r, r = (voteP f vs dv).1 := ⟨_, rfl⟩
  obtain ⟨re, hre⟩ : ∃ r, r = (voteP f vs dv).2 := ⟨_, rfl⟩
  rw [← hrs, ← hre]
  have hV := valid_pure f dv (by omega)
  have hF := fun d => FreeC_pure f dv d (by omega)
  have hC := Counted_pure f dv vs nb (by omega) hv
  have hr1 : fvalidB f dv = false ∨ f.no = 1048576 → rs = zeroF ∧ re = 1 := fun h => by
    rw [hrs, hre]; unfold voteP; rw [if_pos h]; exact ⟨rfl, rfl⟩
  have hr2 : ¬ (fvalidB f dv = false ∨ f.no = 1048576) → (outsV f vs dv).length ≠ 1 → rs = zeroF ∧ re = 440 := fun h h2 => by
    rw [hrs, hre]; unfold voteP; rw [if_neg h, if_pos h2]; exact ⟨rfl, rfl⟩
  have hr3 : ¬ (fvalidB f dv = false ∨ f.no = 1048576) → (outsV f vs dv).length = 1 → rs = ⟨f.no + 1, false, sortI (f.devices ++ outsV f vs dv)⟩ ∧ re = 0 := fun h h2 => by
    rw [hrs, hre]; unfold voteP; rw [if_neg h, if_neg (by simp [h2])]; exact ⟨rfl, rfl⟩
  have hvb : fvalidB f dv = true → 1 ≤ dv ∧ dv ≤ 4 ∧ 0 ≤ f.no ∧ f.no ≤ 1048576 := fun h => by
    unfold fvalidB at h
    simp only [Bool.and_eq_true, decide_eq_true_eq] at h
    exact h.1
  have hLn := pickL_nodup (goodC f dv) [] vs
  have hLl := pickL_len (goodC f dv) [] vs
  unfold outsV at hr2 hr3
  obtain ⟨L, hL⟩ : ∃ l, l = pickL (goodC f dv) [] vs := ⟨_, rfl⟩
  obtain ⟨fr, hfr⟩ : ∃ v, v = freeC f dv := ⟨_, rfl⟩
  obtain ⟨vb, hvb0⟩ : ∃ v, v = fvalidB f dv := ⟨_, rfl⟩
  obtain ⟨mn, hmn⟩ : ∃ v, v = (min dv 4).toNat := ⟨_, rfl⟩
  have hmn4 : mn ≤ 4 := by omega
  have hmlt : ∀ k : Nat, decide ((k : Int) < min dv 4) = decide (k < mn) := fun k => decide_eq_decide.2 (by omega)
  have hmlx : ∀ k : Nat, decide ((k : Int) < max (min dv 4) 0) = decide (k < mn) := fun k => decide_eq_decide.2 (by omega)
  rw [← hL, ← hfr, ← hmn] at hr2 hr3
  rw [← hL] at hC hLn hLl
  rw [← hfr] at hF
  rw [← hvb0] at hr1 hr2 hr3 hvb hV
  have hos : ∀ k, outsC fr L mn (k + 1) = outsC fr L mn k ++ (if (fr (k : Int) && decide (othK fr (k : Int) mn < 2 * (bysD (k : Int) L).length)) = true then [(k : Int)] else []) := fun k => rfl
  have hol := outsC_le fr L mn
  have ho0 : outsC fr L mn 0 = [] := rfl
  have hts : ∀ d k, othK fr d (k + 1) = othK fr d k + (if (!decide ((k : Int) = d) && fr (k : Int)) = true then 1 else 0) := fun d k => rfl
  have ht0 : ∀ d, othK fr d 0 = 0 := fun d => rfl
  have htl := othK_le fr
  obtain ⟨om, hom⟩ : ∃ o, o = outsC fr L mn := ⟨_, rfl⟩
  obtain ⟨ot, hot⟩ : ∃ o, o = othK fr := ⟨_, rfl⟩
  rw [← hom] at hr2 hr3 hos hol ho0
  rw [← hot] at hos hts ht0 htl
  have hbs : ∀ (d : Int) (k : Nat) (v : VoteD), L[k]? = some v → bysD d (L.take (k + 1)) = bysD d (L.take k) ++ (if v.device = d then [v.by_] else []) := fun d k v h => bysD_step h
  have hbn : ∀ (d : Int) (k : Nat) (v : VoteD), L[k]? = some v → ¬ v.by_ ∈ bysD d (L.take k) := fun d k v h => bysD_new hLn h
  have hbl := fun d l => bysD_le d l
  have hb0 : ∀ d, bysD d [] = [] := fun d => rfl
  obtain ⟨by_, hby⟩ : ∃ o, o = bysD := ⟨_, rfl⟩
  rw [← hby] at hos hbs hbn hbl hb0
  obtain ⟨so, hso⟩ : ∃ s, s = sortI := ⟨_, rfl⟩
  have hso1 : ∀ l : List Int, l.mergeSort (fun x y => decide (x ≤ y)) = so l := fun l => by rw [hso]; rfl
  rw [← hso] at hr3
  clear hrs hre hL hfr hvb0 hom hot hby hso hLn hmn
  obtain ⟨no, nl, fl⟩ := f
  simp only at hl hn hr1 hr2 hr3 hvb
  have hcn := CloneI_new fl hl
  have hcz := fun h => CloneI_nil fl (hn h)
  have hsort := @sort_call
  have e : (.tup [rs.d, i64 re] : D) = retD [rs.d, i64 re] := rfl
  rw [e]
  refine Pure.introD T_ok follows Try.func11 rfl (by kernel_rfl) (rs := [.cell 6 24, .cell 7 28]) rfl (by kernel_rfl) rfl rfl rfl rfl rfl rfl (by kernel_rfl) ?_
  generalize hP : Try.prog = P at *
  have hT : T.ok P := hP ▸ T_ok
  have hm : P.follows .mixedOrders = true := hP ▸ follows
  cbv
  refine ⟨[(1, .slm 3 nb (fun v => [.int .i64 (.var v.by_), .int .i64 (.var v.device), .int .i64 (.var v.no)]) vs), (3, .dp [i64 no, .slm 1 (some (.var nl)) intC fl] 0), (5, .dp [i64 dv] 0), (6, .ptr 2 1 0), (7, .ptr 3 1 0)], [.dead, .dead, .cells [.int .i64 (.lit 0), .nils], .cells [.int .i64 (.lit 0)]], ⟨?_, ?_, rfl⟩, rfl, ?_⟩
  · cbv
    exact ⟨.refl _, .dp rfl rfl rfl, .dp rfl rfl rfl, .refl _, .refl _, trivial⟩
  · exact ⟨.dead _, .dead _, .refl _, .refl _, trivial⟩
  cbv
  refine CallP.pure _ hC rfl ?_
  clear hC
  have hF2 : ∀ k : Nat, Pure P 28 [.int .i64 (.nat k), .dp [i64 dv] 0, .dp [i64 no, .slm 1 (some (.var nl)) intC fl] 0] (boolD (fr (k : Int))) := fun k => Pure.args (.cons (.int (e' := .var (k : Int)) rfl) (.cons (.refl _) (.cons (.refl _) .nil))) (hF (k : Int))
  clear hF
  cbv
  refine CodeP.virt 11 3 1 rfl ?_
  refine CodeP.loopm hT hm (X := Nat × Nat × List Int × (Int → Bool) × Nat) (fun x => [(28, .int .i64 (.nat x.1)), (11, .osl 1 5 (x.2.1 + 1) (.cmp .eql (.nat x.2.1) (.lit 0)) (.lit 0) (.nat x.2.1))])
    (fun x => [.dead, .dead, .cells [.int .i64 (.lit 0), .nils], .cells [.int .i64 (.lit 0)], .mp .i64 (.setb x.2.2.2.1 (.nat x.2.2.2.2)), .row 3 1 (x.2.1 + 1) (.map intC x.2.2.1)])
    (fun x => x.1 ≤ mn ∧ x.2.2.1 = om x.1 ∧ x.2.2.1.length = x.2.1) (fun x => mn - x.1) (0, 0, [], (fun _ => false), 0) ⟨by simp, ho0.symm, rfl⟩ (fun _ => by simp) ⟨?_, ?_, rfl⟩ ?_
  · (cbv; (repeat' (first | exact SnD.refl _ | exact trivial | exact SnD.nat0 | refine And.intro ?_ ?_)))
    exact osl_start
  · (cbv; (repeat' (first | exact trivial | exact BkEq.refl _ | exact SnD.refl _ | exact SnDs.nil | refine BkEq.cells ?_ | refine SnDs.cons ?_ ?_ | refine And.intro ?_ ?_)))
    · exact mp_start fun _ => rfl
    · exact .row rfl
  intro ⟨k, m, acc, S0, c0⟩ ⟨hk, hacc, hm0⟩
  replace hk : k ≤ mn := hk
  replace hacc : acc = om k := hacc
  replace hm0 : acc.length = m := hm0
  have hm4 : m ≤ 4 := by have := hol k; rw [← hm0, hacc]; omega
  cbv
  refine SplitP.mk (fun hs => ?_) (fun hs => ?_)
  · have hlt : k < mn := by
      have h3 : decide ((k : Int) < max (min dv 4) 0) = true := hs
      rw [hmlx] at h3
      exact of_decide_eq_true h3
    clear hs
    have hFk := hF2 k
    have hok := hos k
    obtain ⟨b, hb⟩ : ∃ b, b = fr (k : Int) := ⟨_, rfl⟩
    rw [← hb] at hFk hok
    refine CallP.pure _ hFk rfl ?_
    cbv
    refine SplitP.mk (fun h1 => ?_) (fun h1 => ?_) <;> simp only [BE.not_t, BE.not_f, BE.var_d] at h1
    · rw [h1] at hok
      simp only [Bool.false_and, Bool.false_eq_true, if_false, List.append_nil] at hok
      refine BackP.intro (k + 1, m, acc, S0, c0) ⟨by show k + 1 ≤ mn; omega, by show acc = om (k + 1); rw [hok, hacc], hm0⟩ (by show mn - (k + 1) < mn - k; omega) ⟨?_, ?_, rfl⟩
      · (cbv; (repeat' (first | exact SnD.refl _ | exact trivial | exact SnD.nat0 | refine And.intro ?_ ?_)))
        exact .inc (by omega)
      · (cbv; (repeat' (first | exact trivial | exact BkEq.refl _ | exact SnD.refl _ | exact SnDs.nil | refine BkEq.cells ?_ | refine SnDs.cons ?_ ?_ | refine And.intro ?_ ?_)))
    rw [h1, Bool.true_and] at hok
    have htk := hts (k : Int)
    have ht0k := ht0 (k : Int)
    have htlk := htl (k : Int)
    obtain ⟨tk, htk0⟩ : ∃ t, t = ot (k : Int) := ⟨_, rfl⟩
    rw [← htk0] at htk ht0k htlk hok
    clear hFk hb htk0
    refine CodeP.loopc hT hm (X := Nat × Nat) (fun x => [(38, .int .i64 (.nat x.1)), (13, .int .i64 (.nat x.2))]) (fun x => x.1 ≤ mn ∧ x.2 = tk x.1) (fun x => mn - x.1) (0, 0) ⟨by simp, ht0k.symm⟩ (by simp) ?_ rfl ?_
    · (cbv; (repeat' (first | exact SnD.refl _ | exact trivial | exact SnD.nat0 | refine And.intro ?_ ?_)))
    intro ⟨j, c⟩ ⟨hj, hc⟩
    replace hj : j ≤ mn := hj
    replace hc : c = tk j := hc
    have hcj := htlk j
    cbv
    refine SplitP.mk (fun hs => ?_) (fun hs => ?_)
    · have hlt2 : j < mn := by
        have h3 : decide ((j : Int) < min dv 4) = true := hs
        rw [hmlt] at h3
        exact of_decide_eq_true h3
      clear hs
      have hFj := hF2 j
      have htj := htk j
      obtain ⟨b, hb⟩ : ∃ b, b = fr (j : Int) := ⟨_, rfl⟩
      rw [← hb] at hFj htj
      refine SplitP.mk (fun h2 => ?_) (fun h2 => ?_)
      · have h2' : (!decide ((j : Int) = (k : Int))) = true := h2
        rw [h2', Bool.true_and] at htj
        refine CallP.pure _ hFj rfl ?_
        cbv
        refine SplitP.mk (fun h3 => ?_) (fun h3 => ?_) <;> simp only [BE.var_d] at h3
        · rw [h3] at htj
          refine BackP.intro (j + 1, c + 1) ⟨by show j + 1 ≤ mn; omega, by show c + 1 = tk (j + 1); rw [htj, hc]; rfl⟩ (by show mn - (j + 1) < mn - j; omega) ⟨?_, HEnt.refl _, rfl⟩
          (cbv; (repeat' (first | exact SnD.refl _ | exact trivial | exact SnD.nat0 | refine And.intro ?_ ?_)))
          · exact .inc (by omega)
          · exact .inc (by omega)
        · rw [h3] at htj
          refine BackP.intro (j + 1, c) ⟨by show j + 1 ≤ mn; omega, by show c = tk (j + 1); rw [htj, hc]; rfl⟩ (by show mn - (j + 1) < mn - j; omega) ⟨?_, HEnt.refl _, rfl⟩
          (cbv; (repeat' (first | exact SnD.refl _ | exact trivial | exact SnD.nat0 | refine And.intro ?_ ?_)))
          exact .inc (by omega)
      · have h2' : (!decide ((j : Int) = (k : Int))) = false := h2
        rw [h2', Bool.false_and] at htj
        refine BackP.intro (j + 1, c) ⟨by show j + 1 ≤ mn; omega, by show c = tk (j + 1); rw [htj, hc]; rfl⟩ (by show mn - (j + 1) < mn - j; omega) ⟨?_, HEnt.refl _, rfl⟩
        (cbv; (repeat' (first | exact SnD.refl _ | exact trivial | exact SnD.nat0 | refine And.intro ?_ ?_)))
        exact .inc (by omega)
    have hj2 : j = mn := by
      have h3 : decide ((j : Int) < min dv 4) = false := hs
      rw [hmlt] at h3
      have := of_decide_eq_false h3
      omega
    clear hs
    rw [hj2] at hc
    rw [← hc] at hok
    clear hj2 hcj
    have hbsk := hbs (k : Int)
    have hbnk := hbn (k : Int)
    have hblk := fun l => hbl (k : Int) l
    have hb0k := hb0 (k : Int)
    obtain ⟨bk, hbk⟩ : ∃ t, t = by_ (k : Int) := ⟨_, rfl⟩
    rw [← hbk] at hbsk hbnk hblk hb0k hok
    obtain ⟨n, hn⟩ : ∃ n : Nat, n = L.length := ⟨_, rfl⟩
    refine CodeP.loopm hT hm (X := Nat × (Int → Bool) × Nat) (fun x => [(54, .int .i64 (.nat x.1))])
      (fun x => [.dead, .dead, .cells [.int .i64 (.lit 0), .nils], .cells [.int .i64 (.lit 0)], .mp .i64 (.setb x.2.1 (.nat x.2.2)), .row 3 1 (m + 1) (.map intC acc)])
      (fun x => x.1 ≤ n ∧ x.2.2 = (bk (L.take x.1)).length ∧ ∀ y, x.2.1 y = decide (y ∈ bk (L.take x.1))) (fun x => n - x.1) (0, (fun _ => false), 0) ⟨by simp, by simp [hb0k], fun y => by simp [hb0k]⟩ (fun _ => by simp) ⟨?_, ?_, rfl⟩ ?_
    · (cbv; (repeat' (first | exact SnD.refl _ | exact trivial | exact SnD.nat0 | refine And.intro ?_ ?_)))
    · (cbv; (repeat' (first | exact trivial | exact BkEq.refl _ | exact SnD.refl _ | exact SnDs.nil | refine BkEq.cells ?_ | refine SnDs.cons ?_ ?_ | refine And.intro ?_ ?_)))
      exact mp_same rfl fun _ => rfl
    intro ⟨i, S, e⟩ ⟨hi, he, hS⟩
    replace hi : i ≤ n := hi
    replace he : e = (bk (L.take i)).length := he
    replace hS : ∀ y, S y = decide (y ∈ bk (L.take i)) := hS
    have hei := hblk (L.take i)
    rw [List.length_take] at hei
    cbv
    refine SplitP.mk (fun hs => ?_) (fun hs => ?_)
    · have hkn : i < L.length := by
        have h5 : decide ((i : Int) < (L.length : Int)) = true := hs
        have := of_decide_eq_true h5
        omega
      clear hs
      refine ElemP.mk (by show (0 : Int) ≤ (i : Int) ∧ (i : Int) < (L.length : Int); omega) (fun x hx => ?_)
      replace hx : L[i]? = some x := hx
      have hbi := hbsk i x hx
      have hbni := hbnk i x hx
      obtain ⟨xb, xd, xn⟩ := x
      simp only at hbi hbni
      have hSx := hS xb
      rw [decide_eq_false hbni] at hSx
      cbv
      refine SplitP.mk (fun h2 => ?_) (fun h2 => ?_)
      · have h2' : xd = (k : Int) := of_decide_eq_true h2
        rw [if_pos h2'] at hbi
        refine SplitP.mk (fun h => ?_) (fun h => ?_)
        · exfalso
          replace h : S xb = true := h
          rw [hSx] at h
          cases h
        · refine ReqP.mk ⟨by show (e : Int) < maxLen; simp only [maxLen]; omega⟩ (fun _ => ?_)
          cbv
          refine BackP.intro (i + 1, fun z => z == xb || S z, e + 1) ⟨by show i + 1 ≤ n; omega, by show e + 1 = (bk (L.take (i + 1))).length; rw [hbi, he]; simp, fun y => ?_⟩ (by show n - (i + 1) < n - i; omega) ⟨?_, ?_, rfl⟩
          · show (y == xb || S y) = decide (y ∈ bk (L.take (i + 1)))
            rw [hbi, hS, Bool.eq_iff_iff]
            simp only [Bool.or_eq_true, beq_iff_eq, decide_eq_true_eq, List.mem_append, List.mem_singleton]
            exact Or.comm
          · (cbv; (repeat' (first | exact SnD.refl _ | exact trivial | exact SnD.nat0 | refine And.intro ?_ ?_)))
            exact .inc (by omega)
          · (cbv; (repeat' (first | exact trivial | exact BkEq.refl _ | exact SnD.refl _ | exact SnDs.nil | refine BkEq.cells ?_ | refine SnDs.cons ?_ ?_ | refine And.intro ?_ ?_)))
            exact mp_same rfl fun _ => rfl
      · have h2' : ¬ xd = (k : Int) := of_decide_eq_false h2
        rw [if_neg h2', List.append_nil] at hbi
        refine BackP.intro (i + 1, S, e) ⟨by show i + 1 ≤ n; omega, by show e = (bk (L.take (i + 1))).length; rw [hbi, he], fun y => by show S y = decide (y ∈ bk (L.take (i + 1))); rw [hbi, hS]⟩ (by show n - (i + 1) < n - i; omega) ⟨?_, ?_, rfl⟩
        · (cbv; (repeat' (first | exact SnD.refl _ | exact trivial | exact SnD.nat0 | refine And.intro ?_ ?_)))
          exact .inc (by omega)
        · (cbv; (repeat' (first | exact trivial | exact BkEq.refl _ | exact SnD.refl _ | exact SnDs.nil | refine BkEq.cells ?_ | refine SnDs.cons ?_ ?_ | refine And.intro ?_ ?_)))
    have hkn : L.length ≤ i := by
      have h5 : decide ((i : Int) < (L.length : Int)) = false := hs
      have := of_decide_eq_false h5
      omega
    clear hs
    have hi2 : i = n := by omega
    rw [← he] at hei
    rw [hi2, hn, List.take_length] at he
    rw [← he] at hok
    clear hi2 hS hbsk hbnk hblk hb0k htk ht0k htlk
    have em : binDen .mul .i64 2 (e : Int) = 2 * (e : Int) := mul64 (by omega) (by omega)
    refine SplitP.mk (fun h2 => ?_) (fun h2 => ?_)
    · have h3 : decide (binDen .mul .i64 2 (e : Int) > (c : Int)) = true := h2
      rw [em] at h3
      have h4 := of_decide_eq_true h3
      rw [decide_eq_true (by omega : c < 2 * e), if_pos rfl] at hok
      refine ReqP.mk (app_ok hm0 (by omega) (fun _ => rfl) rfl (by decide)) (fun _ => ?_)
      cbv
      obtain ⟨acc', hacc'⟩ : ∃ a, a = acc ++ [(k : Int)] := ⟨_, rfl⟩
      refine BackP.intro (k + 1, m + 1, acc', S, e) ⟨by show k + 1 ≤ mn; omega, by show acc' = om (k + 1); rw [hok, hacc', hacc], by show acc'.length = m + 1; rw [hacc']; simp [hm0]⟩ (by show mn - (k + 1) < mn - k; omega) ⟨?_, ?_, rfl⟩
      · (cbv; (repeat' (first | exact SnD.refl _ | exact trivial | exact SnD.nat0 | refine And.intro ?_ ?_)))
        · exact .inc (by omega)
        · exact osl_step m
      · (cbv; (repeat' (first | exact trivial | exact BkEq.refl _ | exact SnD.refl _ | exact SnDs.nil | refine BkEq.cells ?_ | refine SnDs.cons ?_ ?_ | refine And.intro ?_ ?_)))
        · exact row_app (k : Int) hacc' (.cons (.int rfl) .nil)
    · have h3 : decide (binDen .mul .i64 2 (e : Int) > (c : Int)) = false := h2
      rw [em] at h3
      have h4 := of_decide_eq_false h3
      rw [decide_eq_false (by omega : ¬ c < 2 * e), if_neg (by simp), List.append_nil] at hok
      refine BackP.intro (k + 1, m, acc, S, e) ⟨by show k + 1 ≤ mn; omega, by show acc = om (k + 1); rw [hok, hacc], hm0⟩ (by show mn - (k + 1) < mn - k; omega) ⟨?_, ?_, rfl⟩
      · (cbv; (repeat' (first | exact SnD.refl _ | exact trivial | exact SnD.nat0 | refine And.intro ?_ ?_)))
        exact .inc (by omega)
      · (cbv; (repeat' (first | exact trivial | exact BkEq.refl _ | exact SnD.refl _ | exact SnDs.nil | refine BkEq.cells ?_ | refine SnDs.cons ?_ ?_ | refine And.intro ?_ ?_)))
  have hk2 : k = mn := by
    have h3 : decide ((k : Int) < max (min dv 4) 0) = false := hs
    rw [hmlx] at h3
    have := of_decide_eq_false h3
    omega
  clear hs
  rw [hk2] at hacc
  rw [← hacc, hm0] at hr2 hr3
  clear hk2 hos hol ho0 hts ht0 htl hbs hbn hbl hb0 hF2 hmlt hmlx hLl
  refine SplitP.mk (fun h1 => ?_) (fun h1 => ?_) <;> simp only [BE.lss_t, BE.lss_f, BE.leq_t, BE.leq_f, BE.gtr_t, BE.gtr_f, BE.geq_t, BE.geq_f, BE.eql_t, BE.eql_f, BE.neq_t, BE.neq_f, BE.not_t, BE.not_f, BE.var_d, BE.lit_d, BE.seq_t, BE.seq_f, BE.beq_t, BE.beq_f, IE.var_d, IE.lit_d, IE.nat_d, IE.len_d, IE.sum_d, IE.u8_d, ncast, Int.ofNat_lt, Int.ofNat_le, Int.ofNat_inj] at h1
  · refine DefP.inl hT hm (hP ▸ Try.func26) rfl (by kernel_rfl) (rs := []) rfl (by kernel_rfl) ?_
    unfold Try.f26
    dsimp only
    cbv
    refine CallP.pure _ hV rfl ?_
    cbv
    refine SplitP.mk (fun h2 => ?_) (fun h2 => ?_) <;> simp only [BE.not_t, BE.not_f, BE.var_d] at h2
    · exact zeroF_ret (hr1 (.inl h2))
    refine SplitP.mk (fun h3 => ?_) (fun h3 => ?_) <;> simp only [BE.lss_t, BE.lss_f, BE.leq_t, BE.leq_f, BE.gtr_t, BE.gtr_f, BE.geq_t, BE.geq_f, BE.eql_t, BE.eql_f, BE.neq_t, BE.neq_f, BE.not_t, BE.not_f, BE.var_d, BE.lit_d, BE.seq_t, BE.seq_f, BE.beq_t, BE.beq_f, IE.var_d, IE.lit_d, IE.nat_d, IE.len_d, IE.sum_d, IE.u8_d, ncast, Int.ofNat_lt, Int.ofNat_le, Int.ofNat_inj] at h3
    · exact zeroF_ret (hr1 (.inr h3))
    refine zeroF_ret (hr2 (fun h => ?_) (by ((try simp only [ncast] at *); omega)))
    rcases h with h | h
    · rw [h2] at h; cases h
    · exact h3 h
  have hm1 : m = 1 := by ((try simp only [ncast] at *); omega)
  clear hr2 h1
  subst hm1
  obtain ⟨a, rfl⟩ : ∃ a, acc = [a] := by
    match acc, hm0 with
    | [a], _ => exact ⟨a, rfl⟩
  obtain ⟨sl, hsl⟩ : ∃ s, s = so (fl ++ [a]) := ⟨_, rfl⟩
  have hsll : sl.length = fl.length + 1 := by rw [hsl, ← hso1, List.length_mergeSort]; simp
  rw [← hsl] at hr3
  clear hm0 hacc
  cases nl
  · refine .new hcn rfl (by simp [D.scalB, RE.den]) (by decide) ?_
    cbv
    refine ReqP.mk ⟨by show (0 : Int) ≤ 0; omega, by show (0 : Int) < (1 : Nat); omega⟩ (fun _ => ?_)
    refine ElemP.mk (by show (0 : Int) ≤ 0 ∧ (0 : Int) < 1; omega) (fun x hx => ?_)
    replace hx : some a = some x := hx
    cases hx
    cbv
    refine ReqP.mk ⟨rfl, by simp [IE.den, RE.den], (by intro e he; simp only [RE.den, List.mem_singleton] at he; subst he; rfl), (by intro e he; simp only [RE.den, List.nil_append, List.mem_map] at he; obtain ⟨x, _, rfl⟩ := he; rfl), by show (fl.length : Int) + 1 ≤ _; omega, by show ((fl.length : Int) + 1) * ((8 : Nat) : Int) ≤ _; omega⟩ (fun _ => ?_)
    refine hsort (l := fl ++ [a]) rfl (by simp [RE.den]) rfl (by simp [IE.den]) (by simp; omega) ?_
    rw [hso1]
    rw [← hsl]
    cbv
    refine DefP.inl hT hm (hP ▸ Try.func26) rfl (by kernel_rfl) (rs := []) rfl (by kernel_rfl) ?_
    unfold Try.f26
    dsimp only
    cbv
    refine CallP.pure _ hV rfl ?_
    cbv
    refine SplitP.mk (fun h2 => ?_) (fun h2 => ?_) <;> simp only [BE.not_t, BE.not_f, BE.var_d] at h2
    · exact zeroF_ret (hr1 (.inl h2))
    refine SplitP.mk (fun h3 => ?_) (fun h3 => ?_) <;> simp only [BE.lss_t, BE.lss_f, BE.leq_t, BE.leq_f, BE.gtr_t, BE.gtr_f, BE.geq_t, BE.geq_f, BE.eql_t, BE.eql_f, BE.neq_t, BE.neq_f, BE.not_t, BE.not_f, BE.var_d, BE.lit_d, BE.seq_t, BE.seq_f, BE.beq_t, BE.beq_f, IE.var_d, IE.lit_d, IE.nat_d, IE.len_d, IE.sum_d, IE.u8_d, ncast, Int.ofNat_lt, Int.ofNat_le, Int.ofNat_inj] at h3
    · exact zeroF_ret (hr1 (.inr h3))
    obtain ⟨d1, d2, n1, n2⟩ := hvb h2
    obtain ⟨e1, e2⟩ := hr3 (fun h => by
      rcases h with h | h
      · rw [h2] at h; cases h
      · exact h3 h) rfl
    subst e1 e2
    refine .mk (.cons (.aggs (.cons (.eq (.int ?_)) (.cons (.slm rfl (.inl ⟨_, _, rfl, rfl⟩) rfl ?_ (fun e h => ?_)) .nil))) (.cons (.eq (.int rfl)) .nil)) rfl
    · exact add64 (by show _ ≤ no + 1; omega) (by show no + 1 ≤ _; omega)
    · rw [hsll]; simp [IE.den]
    · cases h
      rfl
  · refine .mk .nils (hcz rfl) rfl ?_
    cbv
    refine ReqP.mk ⟨by show (0 : Int) ≤ 0; omega, by show (0 : Int) < (1 : Nat); omega⟩ (fun _ => ?_)
    refine ElemP.mk (by show (0 : Int) ≤ 0 ∧ (0 : Int) < 1; omega) (fun x hx => ?_)
    replace hx : some a = some x := hx
    cases hx
    cbv
    refine hsort (l := fl ++ [a]) rfl (by rw [hn rfl]; rfl) rfl (by rw [hn rfl]; rfl) (by simp; omega) ?_
    rw [hso1]
    rw [← hsl]
    cbv
    refine DefP.inl hT hm (hP ▸ Try.func26) rfl (by kernel_rfl) (rs := []) rfl (by kernel_rfl) ?_
    unfold Try.f26
    dsimp only
    cbv
    refine CallP.pure _ hV rfl ?_
    cbv
    refine SplitP.mk (fun h2 => ?_) (fun h2 => ?_) <;> simp only [BE.not_t, BE.not_f, BE.var_d] at h2
    · exact zeroF_ret (hr1 (.inl h2))
    refine SplitP.mk (fun h3 => ?_) (fun h3 => ?_) <;> simp only [BE.lss_t, BE.lss_f, BE.leq_t, BE.leq_f, BE.gtr_t, BE.gtr_f, BE.geq_t, BE.geq_f, BE.eql_t, BE.eql_f, BE.neq_t, BE.neq_f, BE.not_t, BE.not_f, BE.var_d, BE.lit_d, BE.seq_t, BE.seq_f, BE.beq_t, BE.beq_f, IE.var_d, IE.lit_d, IE.nat_d, IE.len_d, IE.sum_d, IE.u8_d, ncast, Int.ofNat_lt, Int.ofNat_le, Int.ofNat_inj] at h3
    · exact zeroF_ret (hr1 (.inr h3))
    obtain ⟨d1, d2, n1, n2⟩ := hvb h2
    obtain ⟨e1, e2⟩ := hr3 (fun h => by
      rcases h with h | h
      · rw [h2] at h; cases h
      · exact h3 h) rfl
    subst e1 e2
    refine .mk (.cons (.aggs (.cons (.eq (.int ?_)) (.cons (.slm rfl (.inl ⟨_, _, rfl, rfl⟩) rfl ?_ (fun e h => ?_)) .nil))) (.cons (.eq (.int rfl)) .nil)) rfl
    · exact add64 (by show _ ≤ no + 1; omega) (by show no + 1 ≤ _; omega)
    · rw [hsll]; simp [IE.den]; rw [hn rfl]; rfl
    · cases h
      rfl
end Go.Proofs.Ytbmcepkccenoaaa
namespace Go.Proofs.Ytbmcepkccenoaaa
open Go.RowKit

/-! Vote is Vote of the reference. -/
def subsN : Nat → List (List Int)
  | 0 => [[]]
  | n + 1 => subsN n ++ (subsN n).map ((3 - (n : Int)) :: ·)
theorem nil_subs : ∀ n, [] ∈ subsN n
  | 0 => by simp [subsN]
  | n + 1 => by simp [subsN, nil_subs n]
theorem inc_subs : ∀ (n : Nat) (l : List Int) (last dv : Int), dv ≤ 4 → last = 3 - (n : Int) → incFrom dv last l = true → l ∈ subsN n
  | 0, l, last, dv, hd, hl, h => by
    cases l with
    | nil => exact nil_subs 0
    | cons d r =>
      simp only [incFrom, Bool.and_eq_true, decide_eq_true_eq] at h
      omega
  | n + 1, l, last, dv, hd, hl, h => by
    cases l with
    | nil => exact nil_subs _
    | cons d r =>
      simp only [incFrom, Bool.and_eq_true, decide_eq_true_eq] at h
      simp only [subsN, List.mem_append, List.mem_map]
      by_cases q : d = 3 - (n : Int)
      · exact .inr ⟨r, inc_subs n r d dv hd q h.2, by rw [q]⟩
      · exact .inl (inc_subs n (d :: r) (3 - (n : Int)) dv hd rfl (by
          simp only [incFrom, Bool.and_eq_true, decide_eq_true_eq]
          exact ⟨⟨by omega, h.1.2⟩, h.2⟩))
theorem sort_unique {l s : List Int} (hp : s.Perm l) (hs : s.Pairwise (· ≤ ·)) : sortI l = s := by
  have h1 : (sortI l).Pairwise (fun a b => a ≤ b) := by
    have := List.pairwise_mergeSort (le := fun x y : Int => decide (x ≤ y)) (fun a b c h1 h2 => by simp only [decide_eq_true_eq] at *; omega) (fun a b => by simp only [Bool.or_eq_true, decide_eq_true_eq]; omega) l
    exact this.imp fun h => by simpa using h
  refine List.Perm.eq_of_pairwise (le := fun a b : Int => a ≤ b) (fun a b _ _ h1 h2 => by omega) h1 hs ?_
  exact (List.mergeSort_perm l _).trans hp.symm
def chkAll : Bool := (subsN 4).all fun l => [1, 2, 3, 4].all fun dv => [0, 1, 2, 3].all fun a => !(freeB ⟨0, false, l⟩ dv a && incFrom dv (-1) l) ||
  ((joinR ⟨0, false, l⟩ a dv.toNat).isPerm (l ++ [a]) && (decide ((joinR ⟨0, false, l⟩ a dv.toNat).Pairwise (· ≤ ·)) && (decide ((othK (freeC ⟨0, false, l⟩ dv) a dv.toNat : Int) = dv - l.length - 1) && decide (incFrom dv (-1) (joinR ⟨0, false, l⟩ a dv.toNat) = true ∧ a ∈ joinR ⟨0, false, l⟩ a dv.toNat))))
theorem chkAll_ok : chkAll = true := by decide +kernel
theorem joinR_dev (f : FenceD) (a : Int) : ∀ k, joinR f a k = joinR ⟨0, false, f.devices⟩ a k
  | 0 => rfl
  | k + 1 => by simp only [joinR, joinR_dev f a k]
theorem chk_get {f : FenceD} {dv : Int} (hv : fvalidB f dv = true) {a : Int} (ha : freeB f dv a = true) :
    sortI (f.devices ++ [a]) = joinR f a dv.toNat ∧ (othK (freeC f dv) a dv.toNat : Int) = dv - f.devices.length - 1 ∧ incFrom dv (-1) (joinR f a dv.toNat) = true ∧ a ∈ joinR f a dv.toNat ∧ (joinR f a dv.toNat).Perm (f.devices ++ [a]) := by
  unfold fvalidB at hv
  simp only [Bool.and_eq_true, decide_eq_true_eq] at hv
  obtain ⟨⟨v1, v2, _, _⟩, v3⟩ := hv
  have hs := inc_subs 4 f.devices (-1) dv v2 rfl v3
  have h := chkAll_ok
  unfold chkAll at h
  have h1 := List.all_eq_true.1 h _ hs
  have h2 := List.all_eq_true.1 h1 dv (by simp; omega)
  have ha' := ha
  unfold freeB at ha'
  simp only [decide_eq_true_eq] at ha'
  have h3 := List.all_eq_true.1 h2 a (by simp; omega)
  have e1 : freeB ⟨0, false, f.devices⟩ dv a = true := ha
  rw [e1, v3] at h3
  simp only [Bool.and_self, Bool.not_true, Bool.false_or, Bool.and_eq_true, decide_eq_true_eq] at h3
  rw [joinR_dev f]
  exact ⟨sort_unique (List.isPerm_iff.1 h3.1) h3.2.1, h3.2.2.1, h3.2.2.2.1, h3.2.2.2.2, List.isPerm_iff.1 h3.1⟩
theorem pickL_snoc (g : VoteD → Bool) (v : VoteD) : ∀ (l : List VoteD) (S : List Int), pickL g S (l ++ [v]) = pickL g S l ++ (if (g v && !decide (v.by_ ∈ l.foldl (fun S v => if (g v && !decide (v.by_ ∈ S)) = true then v.by_ :: S else S) S)) = true then [v] else [])
  | [], S => by
    simp only [List.nil_append, pickL, List.foldl_nil]
    rfl
  | x :: l, S => by
    simp only [List.cons_append, pickL, List.foldl_cons]
    split
    · rw [pickL_snoc g v l, List.cons_append]
    · rw [pickL_snoc g v l]
theorem good_eq {f : FenceD} {dv : Int} (hd : dv ≤ 4) : goodC f dv = goodB f dv := by
  funext v
  unfold goodC goodB freeC freeB
  rw [Int.min_eq_left hd]
  rw [Bool.and_comm (decide (v.no = inc64 f.no)), Bool.and_assoc, Bool.and_assoc]
theorem pick_take (f : FenceD) (dv : Int) (hd : dv ≤ 4) (vs : List VoteD) {k : Nat} {v : VoteD} (h : vs[k]? = some v) : pickL (goodC f dv) [] (vs.take (k + 1)) = pickL (goodC f dv) [] (vs.take k) ++ (if countsB f dv vs k = true then [v] else []) := by
  rw [List.take_add_one, h, Option.toList_some, pickL_snoc, countsB_eq h, good_eq hd]
  rfl
theorem bys_ag (f : FenceD) (dv : Int) (hd : dv ≤ 4) (vs : List VoteD) (d : Int) : ∀ k, k ≤ vs.length → (bysD d (pickL (goodC f dv) [] (vs.take k))).length = agK f dv vs d k
  | 0, _ => by simp [pickL, bysD, agK]
  | k + 1, hk => by
    obtain ⟨v, hv⟩ : ∃ v, vs[k]? = some v := ⟨_, List.getElem?_eq_getElem (by omega)⟩
    rw [pick_take f dv hd vs hv]
    have ih := bys_ag f dv hd vs d k (by omega)
    simp only [agK, agB, hv]
    unfold bysD at ih ⊢
    rw [List.filter_append, List.map_append, List.length_append, ih]
    congr 1
    by_cases q : v.device = d <;> by_cases q2 : countsB f dv vs k = true <;> simp [q, q2]
theorem free_eq {f : FenceD} {dv : Int} (hd : dv ≤ 4) (d : Int) : freeC f dv d = freeB f dv d := by
  unfold freeC freeB
  rw [Int.min_eq_left hd]
theorem outs_eq {f : FenceD} {dv : Int} (hv : fvalidB f dv = true) (vs : List VoteD) : ∀ k, outsC (freeC f dv) (pickL (goodC f dv) [] vs) dv.toNat k = outsR f dv vs k
  | 0 => rfl
  | k + 1 => by
    have hd : dv ≤ 4 := by
      unfold fvalidB at hv
      simp only [Bool.and_eq_true, decide_eq_true_eq] at hv
      omega
    simp only [outsC, outsR]
    rw [outs_eq hv vs k, free_eq hd]
    congr 1
    by_cases q : freeB f dv (k : Int) = true
    · obtain ⟨_, h2, _⟩ := chk_get hv q
      have h3 := bys_ag f dv hd vs (k : Int) vs.length (Nat.le_refl _)
      rw [List.take_length] at h3
      rw [q, h3]
      have : decide (othK (freeC f dv) (k : Int) dv.toNat < 2 * agK f dv vs (k : Int) vs.length) = decide (dv - (f.devices.length : Int) - 1 < 2 * (agK f dv vs (k : Int) vs.length : Int)) := decide_eq_decide.2 (by omega)
      rw [this]
    · rw [Bool.not_eq_true] at q
      rw [q]
      simp
theorem outsR_mem {f : FenceD} {dv : Int} {vs : List VoteD} : ∀ {k : Nat} {a : Int}, a ∈ outsR f dv vs k → freeB f dv a = true ∧ dv - f.devices.length - 1 < 2 * (agK f dv vs a vs.length : Int)
  | 0, a, h => by cases h
  | k + 1, a, h => by
    simp only [outsR, List.mem_append] at h
    rcases h with h | h
    · exact outsR_mem h
    · split at h
      · next q =>
        simp only [List.mem_singleton] at h
        subst h
        simpa using q
      · cases h
theorem vote_law (f : FenceD) (vs : List VoteD) (dv : Int) : sameB (voteP f vs dv).1 (rvoteP f vs dv).1 = true ∧ (voteP f vs dv).2 = (rvoteP f vs dv).2 := by
  unfold voteP rvoteP
  by_cases h1 : fvalidB f dv = false ∨ f.no = 1048576
  · rw [if_pos h1, if_pos h1]
    exact ⟨by simp [sameB], rfl⟩
  · rw [if_neg h1, if_neg h1]
    have hv : fvalidB f dv = true := by
      cases h : fvalidB f dv with
      | true => rfl
      | false => exact absurd (.inl h) h1
    have hd : 1 ≤ dv ∧ dv ≤ 4 := by
      have hv' := hv
      unfold fvalidB at hv'
      simp only [Bool.and_eq_true, decide_eq_true_eq] at hv'
      omega
    have e : outsV f vs dv = outsR f dv vs dv.toNat := by
      unfold outsV
      rw [Int.min_eq_left hd.2]
      exact outs_eq hv vs _
    rw [e]
    by_cases h2 : (outsR f dv vs dv.toNat).length ≠ 1
    · rw [if_pos h2, if_pos h2]
      exact ⟨by simp [sameB], rfl⟩
    · rw [if_neg h2, if_neg h2]
      obtain ⟨a, ha⟩ : ∃ a, outsR f dv vs dv.toNat = [a] := by
        match h : outsR f dv vs dv.toNat, h2 with
        | [a], _ => exact ⟨a, rfl⟩
        | [], h2 => exact absurd (by decide) h2
        | _ :: _ :: _, h2 => exact absurd (by simp) h2
      have hf := (outsR_mem (k := dv.toNat) (a := a) (by rw [ha]; simp)).1
      obtain ⟨k1, _⟩ := chk_get hv hf
      rw [ha]
      simp only [List.getLastD_cons, List.getLastD_nil]
      rw [k1]
      constructor <;> simp [sameB]
end Go.Proofs.Ytbmcepkccenoaaa
namespace Go.Proofs.Ytbmcepkccenoaaa
open Go.RowKit

/-! field.Mul: the product of two bytes. -/
def xt (a : BitVec 8) : BitVec 8 := if 128 ≤ a.toNat then (a <<< 1) ^^^ 27#8 else a <<< 1
def xtn (a : BitVec 8) : Nat → BitVec 8
  | 0 => a
  | k + 1 => xt (xtn a k)
def gmulN (a b : BitVec 8) : Nat → BitVec 8
  | 0 => 0
  | k + 1 => if b.getLsbD k then gmulN a b k ^^^ xtn a k else gmulN a b k
def gmul (a b : BitVec 8) : BitVec 8 := gmulN a b 8
structure V8 where
  v0 : BitVec 8
  v1 : BitVec 8
  v2 : BitVec 8
  v3 : BitVec 8
  v4 : BitVec 8
  v5 : BitVec 8
  v6 : BitVec 8
  v7 : BitVec 8
def V8.get (v : V8) : Nat → BitVec 8
  | 0 => v.v0 | 1 => v.v1 | 2 => v.v2 | 3 => v.v3 | 4 => v.v4 | 5 => v.v5 | 6 => v.v6 | _ => v.v7
theorem u8_xor27 (a : BitVec 8) : binDen .xor .u8 (a.toNat : Int) 27 = ((a ^^^ 27#8).toNat : Int) := u8_xorl a 27 (by decide)
theorem getLsb_shr (b : BitVec 8) (k : Nat) : (b >>> k).getLsbD 0 = b.getLsbD k := by simp
theorem xt_case {v x : BitVec 8} (hx : x = xt v) {b : Bool} (hs : (BE.cmp .geq (.u8 v) (.lit 128)).den = b) : (if b then IE.bin .xor .u8 (.bin .shl .u8 (.u8 v) (.lit 1)) (.lit 27) else .bin .shl .u8 (.u8 v) (.lit 1)).den = (IE.u8 x).den := by
  subst hs
  have h1 : (BE.cmp .geq (.u8 v) (.lit 128)).den = decide (128 ≤ v.toNat) := by
    show decide ((v.toNat : Int) ≥ 128) = _
    exact decide_eq_decide.2 (by omega)
  rw [h1, hx]
  by_cases h : 128 ≤ v.toNat
  · simp only [h, decide_true, if_true, xt, IE.den, u8_shl1, u8_xor27]
  · simp only [h, decide_false, if_false, xt, IE.den, u8_shl1, Bool.false_eq_true]
theorem bit_den (b : BitVec 8) (k : Nat) (hk : k ≤ 8) : (BE.cmp .eql (.bin .and .u8 (.bin .shr .u8 (.u8 b) (.lit k)) (.lit 1)) (.lit 1)).den = b.getLsbD k := by
  show (binDen .and .u8 (binDen .shr .u8 (b.toNat : Int) (k : Int)) 1 == 1) = _
  rw [u8_shr b k hk, u8_and1, getLsb_shr]
  cases b.getLsbD k <;> rfl
theorem bit_t {a b y v z : BitVec 8} {k : Nat} (hk : k ≤ 8) (hz : z = y ^^^ v) (hy : y = gmulN a b k) (hg : v = xtn a k) (hs : (BE.cmp .eql (.bin .and .u8 (.bin .shr .u8 (.u8 b) (.lit k)) (.lit 1)) (.lit 1)).den = true) : z = gmulN a b (k + 1) := by
  rw [bit_den b k hk] at hs
  simp only [gmulN, hs, if_true]
  rw [hz, hy, hg]
theorem bit_f {a b y : BitVec 8} {k : Nat} (hk : k ≤ 8) (hy : y = gmulN a b k) (hs : (BE.cmp .eql (.bin .and .u8 (.bin .shr .u8 (.u8 b) (.lit k)) (.lit 1)) (.lit 1)).den = false) : y = gmulN a b (k + 1) := by
  rw [bit_den b k hk] at hs
  simp only [gmulN, hs, Bool.false_eq_true, if_false]
  exact hy
set_option maxRecDepth 100000 in
set_option maxHeartbeats 4000000 in
theorem Mul_pure (a b : BitVec 8) : Pure Try.prog 69 [u8D a, u8D b] (u8D (gmul a b)) := by
  refine Pure.intro (want := [u8D (gmul a b)]) T_ok follows Try.func69 rfl (by kernel_rfl) (rs := [.tmp 4]) rfl (by kernel_rfl) ?_
  obtain ⟨r, hr⟩ : ∃ r, r = gmul a b := ⟨_, rfl⟩
  rw [← hr]
  generalize hP : Try.prog = P
  have hT : T.ok P := hP ▸ T_ok
  have hm : P.follows .mixedOrders = true := hP ▸ follows
  unfold Try.f69
  dsimp only
  cbv
  refine CodeP.loopm hT hm (X := Nat × V8) (fun x => [(6, .int .i64 (.lit x.1))]) (fun x => [.cells [u8D x.2.v0, u8D x.2.v1, u8D x.2.v2, u8D x.2.v3, u8D x.2.v4, u8D x.2.v5, u8D x.2.v6, u8D x.2.v7]])
    (fun x => (x.1 = 1 ∨ x.1 = 2 ∨ x.1 = 3 ∨ x.1 = 4 ∨ x.1 = 5 ∨ x.1 = 6 ∨ x.1 = 7 ∨ x.1 = 8) ∧ ∀ j, j < x.1 → x.2.get j = xtn a j) (fun x => 8 - x.1) (1, ⟨a, 0, 0, 0, 0, 0, 0, 0⟩) ⟨by simp, fun j hj => by obtain rfl : j = 0 := Nat.lt_one_iff.1 hj; rfl⟩ (fun x => by simp) ⟨?_, ?_, rfl⟩ ?_
  · (cbv; (repeat' (first | exact SnD.refl _ | exact trivial | exact SnD.nat0 | refine And.intro ?_ ?_)))
  · (cbv; (repeat' (first | exact trivial | exact BkEq.refl _ | exact SnD.refl _ | exact SnDs.nil | refine BkEq.cells ?_ | refine SnDs.cons ?_ ?_ | refine And.intro ?_ ?_)))
    all_goals exact .eq (.u8 rfl)
  intro ⟨k, v0, v1, v2, v3, v4, v5, v6, v7⟩ ⟨hk, hv⟩
  simp only at hk
  rcases hk with rfl | rfl | rfl | rfl | rfl | rfl | rfl | rfl
  · cbv
    have h0 := hv 0 (by simp)
    obtain ⟨x, hx⟩ : ∃ x, x = xt v0 := ⟨_, rfl⟩
    have hx2 : x = xtn a 1 := by rw [hx]; exact congrArg xt h0
    refine SplitP.mk (fun hs => ?_) (fun hs => ?_)
    all_goals
      refine BackP.intro (2, ⟨v0, x, v2, v3, v4, v5, v6, v7⟩) ⟨by simp, fun j hj => ?_⟩ (by show 8 - 2 < 8 - 1; omega) ⟨?_, ?_, rfl⟩
      · rcases Nat.lt_succ_iff_lt_or_eq.1 hj with q | rfl
        · rw [← hv j q]
          clear hj hv h0
          replace q : j < 1 := q
          (have : j = 0 := by omega); (rcases this with rfl <;> rfl)
        · exact hx2
      · (cbv; (repeat' (first | exact SnD.refl _ | exact trivial | exact SnD.nat0 | refine And.intro ?_ ?_)))
      · (cbv; (repeat' (first | exact trivial | exact BkEq.refl _ | exact SnD.refl _ | exact SnDs.nil | refine BkEq.cells ?_ | refine SnDs.cons ?_ ?_ | refine And.intro ?_ ?_)))
        all_goals exact .eq (.u8 (xt_case hx hs))
  · cbv
    have h0 := hv 1 (by simp)
    obtain ⟨x, hx⟩ : ∃ x, x = xt v1 := ⟨_, rfl⟩
    have hx2 : x = xtn a 2 := by rw [hx]; exact congrArg xt h0
    refine SplitP.mk (fun hs => ?_) (fun hs => ?_)
    all_goals
      refine BackP.intro (3, ⟨v0, v1, x, v3, v4, v5, v6, v7⟩) ⟨by simp, fun j hj => ?_⟩ (by show 8 - 3 < 8 - 2; omega) ⟨?_, ?_, rfl⟩
      · rcases Nat.lt_succ_iff_lt_or_eq.1 hj with q | rfl
        · rw [← hv j q]
          clear hj hv h0
          replace q : j < 2 := q
          (have : j = 0 ∨ j = 1 := by omega); (rcases this with rfl | rfl <;> rfl)
        · exact hx2
      · (cbv; (repeat' (first | exact SnD.refl _ | exact trivial | exact SnD.nat0 | refine And.intro ?_ ?_)))
      · (cbv; (repeat' (first | exact trivial | exact BkEq.refl _ | exact SnD.refl _ | exact SnDs.nil | refine BkEq.cells ?_ | refine SnDs.cons ?_ ?_ | refine And.intro ?_ ?_)))
        all_goals exact .eq (.u8 (xt_case hx hs))
  · cbv
    have h0 := hv 2 (by simp)
    obtain ⟨x, hx⟩ : ∃ x, x = xt v2 := ⟨_, rfl⟩
    have hx2 : x = xtn a 3 := by rw [hx]; exact congrArg xt h0
    refine SplitP.mk (fun hs => ?_) (fun hs => ?_)
    all_goals
      refine BackP.intro (4, ⟨v0, v1, v2, x, v4, v5, v6, v7⟩) ⟨by simp, fun j hj => ?_⟩ (by show 8 - 4 < 8 - 3; omega) ⟨?_, ?_, rfl⟩
      · rcases Nat.lt_succ_iff_lt_or_eq.1 hj with q | rfl
        · rw [← hv j q]
          clear hj hv h0
          replace q : j < 3 := q
          (have : j = 0 ∨ j = 1 ∨ j = 2 := by omega); (rcases this with rfl | rfl | rfl <;> rfl)
        · exact hx2
      · (cbv; (repeat' (first | exact SnD.refl _ | exact trivial | exact SnD.nat0 | refine And.intro ?_ ?_)))
      · (cbv; (repeat' (first | exact trivial | exact BkEq.refl _ | exact SnD.refl _ | exact SnDs.nil | refine BkEq.cells ?_ | refine SnDs.cons ?_ ?_ | refine And.intro ?_ ?_)))
        all_goals exact .eq (.u8 (xt_case hx hs))
  · cbv
    have h0 := hv 3 (by simp)
    obtain ⟨x, hx⟩ : ∃ x, x = xt v3 := ⟨_, rfl⟩
    have hx2 : x = xtn a 4 := by rw [hx]; exact congrArg xt h0
    refine SplitP.mk (fun hs => ?_) (fun hs => ?_)
    all_goals
      refine BackP.intro (5, ⟨v0, v1, v2, v3, x, v5, v6, v7⟩) ⟨by simp, fun j hj => ?_⟩ (by show 8 - 5 < 8 - 4; omega) ⟨?_, ?_, rfl⟩
      · rcases Nat.lt_succ_iff_lt_or_eq.1 hj with q | rfl
        · rw [← hv j q]
          clear hj hv h0
          replace q : j < 4 := q
          (have : j = 0 ∨ j = 1 ∨ j = 2 ∨ j = 3 := by omega); (rcases this with rfl | rfl | rfl | rfl <;> rfl)
        · exact hx2
      · (cbv; (repeat' (first | exact SnD.refl _ | exact trivial | exact SnD.nat0 | refine And.intro ?_ ?_)))
      · (cbv; (repeat' (first | exact trivial | exact BkEq.refl _ | exact SnD.refl _ | exact SnDs.nil | refine BkEq.cells ?_ | refine SnDs.cons ?_ ?_ | refine And.intro ?_ ?_)))
        all_goals exact .eq (.u8 (xt_case hx hs))
  · cbv
    have h0 := hv 4 (by simp)
    obtain ⟨x, hx⟩ : ∃ x, x = xt v4 := ⟨_, rfl⟩
    have hx2 : x = xtn a 5 := by rw [hx]; exact congrArg xt h0
    refine SplitP.mk (fun hs => ?_) (fun hs => ?_)
    all_goals
      refine BackP.intro (6, ⟨v0, v1, v2, v3, v4, x, v6, v7⟩) ⟨by simp, fun j hj => ?_⟩ (by show 8 - 6 < 8 - 5; omega) ⟨?_, ?_, rfl⟩
      · rcases Nat.lt_succ_iff_lt_or_eq.1 hj with q | rfl
        · rw [← hv j q]
          clear hj hv h0
          replace q : j < 5 := q
          (have : j = 0 ∨ j = 1 ∨ j = 2 ∨ j = 3 ∨ j = 4 := by omega); (rcases this with rfl | rfl | rfl | rfl | rfl <;> rfl)
        · exact hx2
      · (cbv; (repeat' (first | exact SnD.refl _ | exact trivial | exact SnD.nat0 | refine And.intro ?_ ?_)))
      · (cbv; (repeat' (first | exact trivial | exact BkEq.refl _ | exact SnD.refl _ | exact SnDs.nil | refine BkEq.cells ?_ | refine SnDs.cons ?_ ?_ | refine And.intro ?_ ?_)))
        all_goals exact .eq (.u8 (xt_case hx hs))
  · cbv
    have h0 := hv 5 (by simp)
    obtain ⟨x, hx⟩ : ∃ x, x = xt v5 := ⟨_, rfl⟩
    have hx2 : x = xtn a 6 := by rw [hx]; exact congrArg xt h0
    refine SplitP.mk (fun hs => ?_) (fun hs => ?_)
    all_goals
      refine BackP.intro (7, ⟨v0, v1, v2, v3, v4, v5, x, v7⟩) ⟨by simp, fun j hj => ?_⟩ (by show 8 - 7 < 8 - 6; omega) ⟨?_, ?_, rfl⟩
      · rcases Nat.lt_succ_iff_lt_or_eq.1 hj with q | rfl
        · rw [← hv j q]
          clear hj hv h0
          replace q : j < 6 := q
          (have : j = 0 ∨ j = 1 ∨ j = 2 ∨ j = 3 ∨ j = 4 ∨ j = 5 := by omega); (rcases this with rfl | rfl | rfl | rfl | rfl | rfl <;> rfl)
        · exact hx2
      · (cbv; (repeat' (first | exact SnD.refl _ | exact trivial | exact SnD.nat0 | refine And.intro ?_ ?_)))
      · (cbv; (repeat' (first | exact trivial | exact BkEq.refl _ | exact SnD.refl _ | exact SnDs.nil | refine BkEq.cells ?_ | refine SnDs.cons ?_ ?_ | refine And.intro ?_ ?_)))
        all_goals exact .eq (.u8 (xt_case hx hs))
  · cbv
    have h0 := hv 6 (by simp)
    obtain ⟨x, hx⟩ : ∃ x, x = xt v6 := ⟨_, rfl⟩
    have hx2 : x = xtn a 7 := by rw [hx]; exact congrArg xt h0
    refine SplitP.mk (fun hs => ?_) (fun hs => ?_)
    all_goals
      refine BackP.intro (8, ⟨v0, v1, v2, v3, v4, v5, v6, x⟩) ⟨by simp, fun j hj => ?_⟩ (by show 8 - 8 < 8 - 7; omega) ⟨?_, ?_, rfl⟩
      · rcases Nat.lt_succ_iff_lt_or_eq.1 hj with q | rfl
        · rw [← hv j q]
          clear hj hv h0
          replace q : j < 7 := q
          (have : j = 0 ∨ j = 1 ∨ j = 2 ∨ j = 3 ∨ j = 4 ∨ j = 5 ∨ j = 6 := by omega); (rcases this with rfl | rfl | rfl | rfl | rfl | rfl | rfl <;> rfl)
        · exact hx2
      · (cbv; (repeat' (first | exact SnD.refl _ | exact trivial | exact SnD.nat0 | refine And.intro ?_ ?_)))
      · (cbv; (repeat' (first | exact trivial | exact BkEq.refl _ | exact SnD.refl _ | exact SnDs.nil | refine BkEq.cells ?_ | refine SnDs.cons ?_ ?_ | refine And.intro ?_ ?_)))
        all_goals exact .eq (.u8 (xt_case hx hs))
  · cbv
    have h0 := fun j hj => hv j hj
    clear hv
    replace h0 : ∀ j, j < 8 → V8.get ⟨v0, v1, v2, v3, v4, v5, v6, v7⟩ j = xtn a j := h0
    refine CodeP.loopc hT hm (X := Nat × BitVec 8) (fun x => [(32, .int .i64 (.lit x.1)), (4, u8D x.2)]) (fun x => (x.1 = 0 ∨ x.1 = 1 ∨ x.1 = 2 ∨ x.1 = 3 ∨ x.1 = 4 ∨ x.1 = 5 ∨ x.1 = 6 ∨ x.1 = 7 ∨ x.1 = 8) ∧ x.2 = gmulN a b x.1) (fun x => 8 - x.1) (0, 0) ⟨by simp, rfl⟩ (Nat.zero_le _) ?_ rfl ?_
    · (cbv; (repeat' (first | exact SnD.refl _ | exact trivial | exact SnD.nat0 | refine And.intro ?_ ?_)))
      all_goals exact .eq (.u8 rfl)
    intro ⟨k, y⟩ ⟨hk, hy⟩
    simp only at hk
    rcases hk with rfl | rfl | rfl | rfl | rfl | rfl | rfl | rfl | rfl
    · cbv
      have hg := h0 0 (by omega)
      refine SplitP.mk (fun hs => ?_) (fun hs => ?_)
      · obtain ⟨z, hz⟩ : ∃ z, z = y ^^^ v0 := ⟨_, rfl⟩
        refine BackP.intro (1, z) ⟨by simp, ?_⟩ (by show 8 - 1 < 8 - 0; omega) ⟨?_, HEnt.refl _, rfl⟩
        · exact bit_t (by omega) hz hy hg hs
        · (cbv; (repeat' (first | exact SnD.refl _ | exact trivial | exact SnD.nat0 | refine And.intro ?_ ?_)))
          exact .eq (.u8 (hz ▸ u8_xor _ _))
      · refine BackP.intro (1, y) ⟨by simp, ?_⟩ (by show 8 - 1 < 8 - 0; omega) ⟨?_, HEnt.refl _, rfl⟩
        · exact bit_f (by omega) hy hs
        · (cbv; (repeat' (first | exact SnD.refl _ | exact trivial | exact SnD.nat0 | refine And.intro ?_ ?_)))
    · cbv
      have hg := h0 1 (by omega)
      refine SplitP.mk (fun hs => ?_) (fun hs => ?_)
      · obtain ⟨z, hz⟩ : ∃ z, z = y ^^^ v1 := ⟨_, rfl⟩
        refine BackP.intro (2, z) ⟨by simp, ?_⟩ (by show 8 - 2 < 8 - 1; omega) ⟨?_, HEnt.refl _, rfl⟩
        · exact bit_t (by omega) hz hy hg hs
        · (cbv; (repeat' (first | exact SnD.refl _ | exact trivial | exact SnD.nat0 | refine And.intro ?_ ?_)))
          exact .eq (.u8 (hz ▸ u8_xor _ _))
      · refine BackP.intro (2, y) ⟨by simp, ?_⟩ (by show 8 - 2 < 8 - 1; omega) ⟨?_, HEnt.refl _, rfl⟩
        · exact bit_f (by omega) hy hs
        · (cbv; (repeat' (first | exact SnD.refl _ | exact trivial | exact SnD.nat0 | refine And.intro ?_ ?_)))
    · cbv
      have hg := h0 2 (by omega)
      refine SplitP.mk (fun hs => ?_) (fun hs => ?_)
      · obtain ⟨z, hz⟩ : ∃ z, z = y ^^^ v2 := ⟨_, rfl⟩
        refine BackP.intro (3, z) ⟨by simp, ?_⟩ (by show 8 - 3 < 8 - 2; omega) ⟨?_, HEnt.refl _, rfl⟩
        · exact bit_t (by omega) hz hy hg hs
        · (cbv; (repeat' (first | exact SnD.refl _ | exact trivial | exact SnD.nat0 | refine And.intro ?_ ?_)))
          exact .eq (.u8 (hz ▸ u8_xor _ _))
      · refine BackP.intro (3, y) ⟨by simp, ?_⟩ (by show 8 - 3 < 8 - 2; omega) ⟨?_, HEnt.refl _, rfl⟩
        · exact bit_f (by omega) hy hs
        · (cbv; (repeat' (first | exact SnD.refl _ | exact trivial | exact SnD.nat0 | refine And.intro ?_ ?_)))
    · cbv
      have hg := h0 3 (by omega)
      refine SplitP.mk (fun hs => ?_) (fun hs => ?_)
      · obtain ⟨z, hz⟩ : ∃ z, z = y ^^^ v3 := ⟨_, rfl⟩
        refine BackP.intro (4, z) ⟨by simp, ?_⟩ (by show 8 - 4 < 8 - 3; omega) ⟨?_, HEnt.refl _, rfl⟩
        · exact bit_t (by omega) hz hy hg hs
        · (cbv; (repeat' (first | exact SnD.refl _ | exact trivial | exact SnD.nat0 | refine And.intro ?_ ?_)))
          exact .eq (.u8 (hz ▸ u8_xor _ _))
      · refine BackP.intro (4, y) ⟨by simp, ?_⟩ (by show 8 - 4 < 8 - 3; omega) ⟨?_, HEnt.refl _, rfl⟩
        · exact bit_f (by omega) hy hs
        · (cbv; (repeat' (first | exact SnD.refl _ | exact trivial | exact SnD.nat0 | refine And.intro ?_ ?_)))
    · cbv
      have hg := h0 4 (by omega)
      refine SplitP.mk (fun hs => ?_) (fun hs => ?_)
      · obtain ⟨z, hz⟩ : ∃ z, z = y ^^^ v4 := ⟨_, rfl⟩
        refine BackP.intro (5, z) ⟨by simp, ?_⟩ (by show 8 - 5 < 8 - 4; omega) ⟨?_, HEnt.refl _, rfl⟩
        · exact bit_t (by omega) hz hy hg hs
        · (cbv; (repeat' (first | exact SnD.refl _ | exact trivial | exact SnD.nat0 | refine And.intro ?_ ?_)))
          exact .eq (.u8 (hz ▸ u8_xor _ _))
      · refine BackP.intro (5, y) ⟨by simp, ?_⟩ (by show 8 - 5 < 8 - 4; omega) ⟨?_, HEnt.refl _, rfl⟩
        · exact bit_f (by omega) hy hs
        · (cbv; (repeat' (first | exact SnD.refl _ | exact trivial | exact SnD.nat0 | refine And.intro ?_ ?_)))
    · cbv
      have hg := h0 5 (by omega)
      refine SplitP.mk (fun hs => ?_) (fun hs => ?_)
      · obtain ⟨z, hz⟩ : ∃ z, z = y ^^^ v5 := ⟨_, rfl⟩
        refine BackP.intro (6, z) ⟨by simp, ?_⟩ (by show 8 - 6 < 8 - 5; omega) ⟨?_, HEnt.refl _, rfl⟩
        · exact bit_t (by omega) hz hy hg hs
        · (cbv; (repeat' (first | exact SnD.refl _ | exact trivial | exact SnD.nat0 | refine And.intro ?_ ?_)))
          exact .eq (.u8 (hz ▸ u8_xor _ _))
      · refine BackP.intro (6, y) ⟨by simp, ?_⟩ (by show 8 - 6 < 8 - 5; omega) ⟨?_, HEnt.refl _, rfl⟩
        · exact bit_f (by omega) hy hs
        · (cbv; (repeat' (first | exact SnD.refl _ | exact trivial | exact SnD.nat0 | refine And.intro ?_ ?_)))
    · cbv
      have hg := h0 6 (by omega)
      refine SplitP.mk (fun hs => ?_) (fun hs => ?_)
      · obtain ⟨z, hz⟩ : ∃ z, z = y ^^^ v6 := ⟨_, rfl⟩
        refine BackP.intro (7, z) ⟨by simp, ?_⟩ (by show 8 - 7 < 8 - 6; omega) ⟨?_, HEnt.refl _, rfl⟩
        · exact bit_t (by omega) hz hy hg hs
        · (cbv; (repeat' (first | exact SnD.refl _ | exact trivial | exact SnD.nat0 | refine And.intro ?_ ?_)))
          exact .eq (.u8 (hz ▸ u8_xor _ _))
      · refine BackP.intro (7, y) ⟨by simp, ?_⟩ (by show 8 - 7 < 8 - 6; omega) ⟨?_, HEnt.refl _, rfl⟩
        · exact bit_f (by omega) hy hs
        · (cbv; (repeat' (first | exact SnD.refl _ | exact trivial | exact SnD.nat0 | refine And.intro ?_ ?_)))
    · cbv
      have hg := h0 7 (by omega)
      refine SplitP.mk (fun hs => ?_) (fun hs => ?_)
      · obtain ⟨z, hz⟩ : ∃ z, z = y ^^^ v7 := ⟨_, rfl⟩
        refine BackP.intro (8, z) ⟨by simp, ?_⟩ (by show 8 - 8 < 8 - 7; omega) ⟨?_, HEnt.refl _, rfl⟩
        · exact bit_t (by omega) hz hy hg hs
        · (cbv; (repeat' (first | exact SnD.refl _ | exact trivial | exact SnD.nat0 | refine And.intro ?_ ?_)))
          exact .eq (.u8 (hz ▸ u8_xor _ _))
      · refine BackP.intro (8, y) ⟨by simp, ?_⟩ (by show 8 - 8 < 8 - 7; omega) ⟨?_, HEnt.refl _, rfl⟩
        · exact bit_f (by omega) hy hs
        · (cbv; (repeat' (first | exact SnD.refl _ | exact trivial | exact SnD.nat0 | refine And.intro ?_ ?_)))
    · cbv
      exact .mk (.cons (.eq (.u8 (by rw [hr]; exact congrArg (fun b : BitVec 8 => (b.toNat : Int)) hy))) .nil) rfl
end Go.Proofs.Ytbmcepkccenoaaa
namespace Go.Proofs.Ytbmcepkccenoaaa
open Go.RowKit

/-! field.Eval, field.wrong -/
def geval (l : List (BitVec 8)) (at_ : BitVec 8) : BitVec 8 := l.foldr (fun c y => gmul y at_ ^^^ c) 0
set_option maxRecDepth 100000 in
set_option maxHeartbeats 4000000 in
theorem Eval_pure (l : List (BitVec 8)) (nb : Option BE) (at_ : BitVec 8) (hl : l.length < 9223372036854775807) : Pure Try.prog 57 [.slm 1 nb u8C l, u8D at_] (u8D (geval l at_)) := by
  refine Pure.intro (want := [u8D (geval l at_)]) T_ok follows Try.func57 rfl (by kernel_rfl) (rs := [.tmp 4]) rfl (by kernel_rfl) ?_
  obtain ⟨r, hr⟩ : ∃ r, r = geval l at_ := ⟨_, rfl⟩
  rw [← hr]
  obtain ⟨n0, hn0⟩ : ∃ n0 : Int, n0 = (l.length : Int) - 1 := ⟨_, rfl⟩
  generalize hP : Try.prog = P
  have hT : T.ok P := hP ▸ T_ok
  have hm : P.follows .mixedOrders = true := hP ▸ follows
  unfold Try.f57
  dsimp only
  cbv
  replace hn0 : n0 = (l.length : Int) - 1 := hn0
  refine CodeP.loopc hT hm (X := Int × BitVec 8) (fun x => [(5, i64 x.1), (4, u8D x.2)]) (fun x => -1 ≤ x.1 ∧ x.1 < l.length ∧ x.2 = geval (l.drop (x.1 + 1).toNat) at_) (fun x => (x.1 + 1).toNat) (n0, 0) ⟨by simp only; ((try simp only [ncast] at *); omega), by simp only; ((try simp only [ncast] at *); omega), by simp [geval, hn0]⟩ (Nat.zero_le _) ?_ rfl ?_
  · (cbv; (repeat' (first | exact SnD.refl _ | exact trivial | exact SnD.nat0 | refine And.intro ?_ ?_)))
    · exact .eq (.int (by rw [IE.var_d, hn0]; exact sub64 (by simp only [IE.var_d, IE.lit_d, IE.nat_d, IE.len_d, IE.sum_d, IE.u8_d, ncast, Int.ofNat_lt, Int.ofNat_le, Int.ofNat_inj]; ((try simp only [ncast] at *); omega)) (by simp only [IE.var_d, IE.lit_d, IE.nat_d, IE.len_d, IE.sum_d, IE.u8_d, ncast, Int.ofNat_lt, Int.ofNat_le, Int.ofNat_inj]; ((try simp only [ncast] at *); omega))))
    · exact .eq (.u8 rfl)
  intro ⟨i, y⟩ ⟨h1, h2, h3⟩
  replace h1 : -1 ≤ i := h1
  replace h2 : i < (l.length : Int) := h2
  replace h3 : y = geval (l.drop (i + 1).toNat) at_ := h3
  cbv
  refine SplitP.mk (fun hs => ?_) (fun hs => ?_) <;> simp only [BE.lss_t, BE.lss_f, BE.leq_t, BE.leq_f, BE.gtr_t, BE.gtr_f, BE.geq_t, BE.geq_f, BE.eql_t, BE.eql_f, BE.neq_t, BE.neq_f, BE.not_t, BE.not_f, BE.var_d, BE.lit_d, BE.seq_t, BE.seq_f, BE.beq_t, BE.beq_f, IE.var_d, IE.lit_d, IE.nat_d, IE.len_d, IE.sum_d, IE.u8_d, ncast, Int.ofNat_lt, Int.ofNat_le, Int.ofNat_inj] at hs
  · obtain ⟨m, hmm⟩ : ∃ m, m = gmul y at_ := ⟨_, rfl⟩
    refine PureP.mk (u8D m) (hP ▸ hmm ▸ Mul_pure y at_) rfl ?_
    cbv
    refine ElemP.mk (by simp only [IE.var_d, IE.lit_d, IE.nat_d, IE.len_d, IE.sum_d, IE.u8_d, ncast, Int.ofNat_lt, Int.ofNat_le, Int.ofNat_inj]; ((try simp only [ncast] at *); omega)) (fun c hc => ?_)
    cbv
    simp only [IE.var_d, IE.lit_d, IE.nat_d, IE.len_d, IE.sum_d, IE.u8_d, ncast, Int.ofNat_lt, Int.ofNat_le, Int.ofNat_inj] at hc
    obtain ⟨z, hz⟩ : ∃ z, z = m ^^^ c := ⟨_, rfl⟩
    obtain ⟨i', hi'⟩ : ∃ i' : Int, i' = i - 1 := ⟨_, rfl⟩
    refine BackP.intro (i', z) ⟨by simp only; ((try simp only [ncast] at *); omega), by simp only; ((try simp only [ncast] at *); omega), ?_⟩ (by simp only; ((try simp only [ncast] at *); omega)) ⟨?_, HEnt.refl _, rfl⟩
    · simp only
      rw [hz, hmm, h3, hi', show i - 1 + 1 = i by ((try simp only [ncast] at *); omega)]
      have e : (i + 1).toNat = i.toNat + 1 := by ((try simp only [ncast] at *); omega)
      rw [e]
      have hlt := (List.getElem?_eq_some_iff.1 hc).1
      rw [List.drop_eq_getElem_cons hlt]
      have hc' : l[i.toNat] = c := by rw [List.getElem?_eq_getElem hlt] at hc; simpa using hc
      rw [hc']
      rfl
    · (cbv; (repeat' (first | exact SnD.refl _ | exact trivial | exact SnD.nat0 | refine And.intro ?_ ?_)))
      · exact .eq (.int (by rw [IE.var_d, hi']; exact sub64 (by simp only [IE.var_d, IE.lit_d, IE.nat_d, IE.len_d, IE.sum_d, IE.u8_d, ncast, Int.ofNat_lt, Int.ofNat_le, Int.ofNat_inj]; ((try simp only [ncast] at *); omega)) (by simp only [IE.var_d, IE.lit_d, IE.nat_d, IE.len_d, IE.sum_d, IE.u8_d, ncast, Int.ofNat_lt, Int.ofNat_le, Int.ofNat_inj]; ((try simp only [ncast] at *); omega))))
      · exact .eq (.u8 (hz ▸ u8_xor _ _))
  · refine .mk (.cons (.eq (.u8 ?_)) .nil) rfl
    simp only [IE.u8_d, hr]
    rw [h3, show (i + 1).toNat = 0 by ((try simp only [ncast] at *); omega)]
    rfl
end Go.Proofs.Ytbmcepkccenoaaa
namespace Go.Proofs.Ytbmcepkccenoaaa
open Go.RowKit

/-! field.wrong: are two lists no points? -/
def wrongB (xs ys : List (BitVec 8)) : Bool := decide (xs.length ≠ ys.length ∨ ¬ xs.Nodup)
theorem take_nodup {α : Type} {xs : List α} {k : Nat} {x : α} (hx : xs[k]? = some x) (h : (xs.take k).Nodup) (hn : ¬ x ∈ xs.take k) : (xs.take (k + 1)).Nodup := by
  rw [List.take_add_one, hx]
  simp only [Option.toList_some]
  rw [List.nodup_append]
  refine ⟨h, by simp, fun a ha b hb => ?_⟩
  simp at hb
  subst hb
  exact fun e => hn (e ▸ ha)
theorem not_nodup {α : Type} {xs : List α} {k : Nat} {x : α} (hx : xs[k]? = some x) (hn : x ∈ xs.take k) : ¬ xs.Nodup := fun h => by
  obtain ⟨i, hi, hxi⟩ := List.getElem_of_mem hn
  have hi' : i < k := by simp at hi; omega
  have hk := (List.getElem?_eq_some_iff.1 hx)
  obtain ⟨hk1, hk2⟩ := hk
  rw [List.getElem_take] at hxi
  exact (List.pairwise_iff_getElem.1 h i k (by omega) hk1 hi') (hxi.trans hk2.symm)
set_option maxRecDepth 100000 in
set_option maxHeartbeats 4000000 in
theorem wrong_pure (xs ys : List (BitVec 8)) (nb nb' : Option BE) (hl : xs.length < 9223372036854775807) : Pure Try.prog 67 [.slm 1 nb u8C xs, .slm 1 nb' u8C ys] (boolD (wrongB xs ys)) := by
  refine Pure.intro (want := [boolD (wrongB xs ys)]) T_ok follows Try.func67 rfl (by kernel_rfl) (rs := [.tmp 4]) rfl (by kernel_rfl) ?_
  obtain ⟨r, hr⟩ : ∃ r, r = wrongB xs ys := ⟨_, rfl⟩
  obtain ⟨n, hn⟩ : ∃ n : Nat, n = xs.length := ⟨_, rfl⟩
  rw [← hr]
  generalize hP : Try.prog = P
  have hT : T.ok P := hP ▸ T_ok
  have hm : P.follows .mixedOrders = true := hP ▸ follows
  unfold Try.f67
  dsimp only
  cbv
  refine SplitP.mk (fun hs => ?_) (fun hs => ?_) <;> simp only [BE.lss_t, BE.lss_f, BE.leq_t, BE.leq_f, BE.gtr_t, BE.gtr_f, BE.geq_t, BE.geq_f, BE.eql_t, BE.eql_f, BE.neq_t, BE.neq_f, BE.not_t, BE.not_f, BE.var_d, BE.lit_d, BE.seq_t, BE.seq_f, BE.beq_t, BE.beq_f, IE.var_d, IE.lit_d, IE.nat_d, IE.len_d, IE.sum_d, IE.u8_d, ncast, Int.ofNat_lt, Int.ofNat_le, Int.ofNat_inj] at hs
  · refine .mk (.cons (.eq (.bool ?_)) .nil) rfl
    rw [BE.lit_d, BE.var_d, hr]
    exact (decide_eq_true (.inl hs)).symm
  refine CodeP.loopm hT hm (X := Nat × (Int → Bool)) (fun x => [(18, .int .i64 (.nat x.1))]) (fun x => [.mp .u8 (.setb x.2 (.nat x.1)), .cells [.mapr 0]])
    (fun x => x.1 ≤ n ∧ (xs.take x.1).Nodup ∧ ∀ z, x.2 z = true ↔ ∃ b ∈ xs.take x.1, (b.toNat : Int) = z) (fun x => n - x.1) (0, fun _ => false) ⟨by simp, by simp, by simp⟩ (fun _ => Nat.zero_le _) ⟨?_, ?_, rfl⟩ ?_
  · (cbv; (repeat' (first | exact SnD.refl _ | exact trivial | exact SnD.nat0 | refine And.intro ?_ ?_)))
  · (cbv; (repeat' (first | exact trivial | exact BkEq.refl _ | exact SnD.refl _ | exact SnDs.nil | refine BkEq.cells ?_ | refine SnDs.cons ?_ ?_ | refine And.intro ?_ ?_)))
    exact .mp rfl fun x => .none
  intro ⟨k, S⟩ ⟨h1, h2, h3⟩
  replace h1 : k ≤ n := h1
  replace h2 : (xs.take k).Nodup := h2
  replace h3 : ∀ z, S z = true ↔ ∃ b ∈ xs.take k, (b.toNat : Int) = z := h3
  cbv
  refine SplitP.mk (fun hs => ?_) (fun hs => ?_) <;> simp only [BE.lss_t, BE.lss_f, BE.leq_t, BE.leq_f, BE.gtr_t, BE.gtr_f, BE.geq_t, BE.geq_f, BE.eql_t, BE.eql_f, BE.neq_t, BE.neq_f, BE.not_t, BE.not_f, BE.var_d, BE.lit_d, BE.seq_t, BE.seq_f, BE.beq_t, BE.beq_f, IE.var_d, IE.lit_d, IE.nat_d, IE.len_d, IE.sum_d, IE.u8_d, ncast, Int.ofNat_lt, Int.ofNat_le, Int.ofNat_inj] at hs
  · refine ElemP.mk (by simp only [IE.var_d, IE.lit_d, IE.nat_d, IE.len_d, IE.sum_d, IE.u8_d, ncast, Int.ofNat_lt, Int.ofNat_le, Int.ofNat_inj]; ((try simp only [ncast] at *); omega)) (fun b hb => ?_)
    simp only [IE.var_d, IE.lit_d, IE.nat_d, IE.len_d, IE.sum_d, IE.u8_d, ncast, Int.ofNat_lt, Int.ofNat_le, Int.ofNat_inj] at hb
    cbv
    refine (CallP.inl hT hm (hP ▸ Try.func85) rfl (by kernel_rfl) (rs := [.tmp 3]) rfl (by kernel_rfl) ?_)
    unfold Try.f85
    dsimp only
    cbv
    refine LetBP.mk fun c hc => ?_
    cbv
    replace hc : c = S (b.toNat : Int) := hc
    have hmem : c = true ↔ b ∈ xs.take k := by
      rw [hc, h3]
      exact ⟨fun ⟨b', hb', e⟩ => by rwa [show b' = b from BitVec.eq_of_toNat_eq (by exact_mod_cast e)] at hb', fun h => ⟨b, h, rfl⟩⟩
    replace hb : xs[k]? = some b := hb
    refine SplitP.mk (fun hs => ?_) (fun hs => ?_) <;> simp only [BE.lss_t, BE.lss_f, BE.leq_t, BE.leq_f, BE.gtr_t, BE.gtr_f, BE.geq_t, BE.geq_f, BE.eql_t, BE.eql_f, BE.neq_t, BE.neq_f, BE.not_t, BE.not_f, BE.var_d, BE.lit_d, BE.seq_t, BE.seq_f, BE.beq_t, BE.beq_f, IE.var_d, IE.lit_d, IE.nat_d, IE.len_d, IE.sum_d, IE.u8_d, ncast, Int.ofNat_lt, Int.ofNat_le, Int.ofNat_inj] at hs
    · refine .mk (.cons (.eq (.bool ?_)) .nil) rfl
      rw [BE.lit_d, BE.var_d, hr]
      exact (decide_eq_true (.inr (not_nodup hb (hmem.1 hs)))).symm
    · have hnm : ¬ b ∈ xs.take k := fun q => by rw [hmem.2 q] at hs; cases hs
      refine SplitP.mk (fun h => ?_) (fun h => ?_)
      · exfalso
        replace h : S (b.toNat : Int) = true := h
        rw [← hc, hs] at h
        cases h
      · refine ReqP.mk ⟨by simp only [IE.var_d, IE.lit_d, IE.nat_d, IE.len_d, IE.sum_d, IE.u8_d, ncast, Int.ofNat_lt, Int.ofNat_le, Int.ofNat_inj, maxLen]; ((try simp only [ncast] at *); omega)⟩ (fun _ => ?_)
        cbv
        refine BackP.intro (k + 1, fun z => z == (b.toNat : Int) || S z) ⟨by simp only; ((try simp only [ncast] at *); omega), take_nodup hb h2 hnm, fun z => ?_⟩ (by show n - (k + 1) < n - k; ((try simp only [ncast] at *); omega)) ⟨?_, ?_, rfl⟩
        · have e := h3 z
          simp only [Bool.or_eq_true, e, beq_iff_eq, List.take_add_one, hb, Option.toList_some, List.mem_append, List.mem_singleton]
          constructor
          · rintro (q | ⟨b', q1, q2⟩)
            · exact ⟨b, .inr rfl, q.symm⟩
            · exact ⟨b', .inl q1, q2⟩
          · rintro ⟨b', q1 | q1, q2⟩
            · exact .inr ⟨b', q1, q2⟩
            · subst q1; exact .inl q2.symm
        · (cbv; (repeat' (first | exact SnD.refl _ | exact trivial | exact SnD.nat0 | refine And.intro ?_ ?_)))
          exact .inc (by ((try simp only [ncast] at *); omega))
        · (cbv; (repeat' (first | exact trivial | exact BkEq.refl _ | exact SnD.refl _ | exact SnDs.nil | refine BkEq.cells ?_ | refine SnDs.cons ?_ ?_ | refine And.intro ?_ ?_)))
          refine .mp ?_ fun x => ?_
          · rfl
          · exact OEq.refl _
  · refine .mk (.cons (.eq (.bool ?_)) .nil) rfl
    rw [BE.lit_d, BE.var_d, hr]
    refine (decide_eq_false ?_).symm
    rw [List.take_of_length_le (by ((try simp only [ncast] at *); omega))] at h2
    rintro (q | q)
    · exact q (by assumption)
    · exact q h2
end Go.Proofs.Ytbmcepkccenoaaa
namespace Go.Proofs.Ytbmcepkccenoaaa
open Go.RowKit Go.Shelf
attribute [local go_sem] Oper.semAt_some

/-! field.inverse: a range over a function that yields without end, and is left by a return. -/
section
variable {F : Fence} {n : Nat} {P : Program}
def roundPost {α : Type} (I Ix : List α → World → Prop) (xs : List α) (W : World) : Exit → Act → World → Prop
  | .normal, _, W' => KeepsOthers W W' ∧ I xs W'
  | .ret, _, W' => KeepsOthers W W' ∧ Ix xs W'
  | _, _, _ => False
theorem rangeFunc_lim {α : Type} {g : Operand} {ps : Array Tmp} {assign body : Code} {Q : Exit → Act → World → Prop} {a : Act} {w : World} (hro : F.round = none) (h1 : 1 ≤ n) {gf : Nat} {lb : Array Value}
    (hg : a.eval g = .func (.func gf) #[] lb) (hFg : F.fn gf) (eg : ∀ args w, (callFunc gf args).run P w = .ok (.enter gf args) w) {encs : α → Array Value} {S : List α → Prop} (hps : ∀ x, (encs x).size = ps.size)
    (I Ix : List α → World → Prop) (hI : OwnFrom w.heap.size I) (hIx : OwnFrom w.heap.size Ix) (h0 : I [] w) (a₁ : α → Act)
    (hseq : ∀ (l : Nat) (J Jx : List α → World → Prop) (W : World), Below w.heap.size w W → AbidesFrom W.heap.size J → (∀ pre W, J pre W → I pre W) →
      (∀ pre x W1, J pre W1 → YieldAt F (n - 1 - 1) P l (encs x) W1 fun e W' => (e = .returned (.bool true) ∧ J (pre ++ [x]) W') ∨ (e = .returned (.bool false) ∧ Jx (pre ++ [x]) W')) → J [] W →
      CallsIn F (n - 1) P gf (#[.func (.yield l) #[] #[]] ++ lb) W fun e W' => (∃ v, e = .returned v) ∧ ∃ pre, S pre ∧ Jx pre W')
    (hassign : ∀ (l : Nat) (x : α) (W : World) (K : Act → World → Prop), K (a₁ x) W →
      assign.wpIn (F.inRound l) (n - 1 - 1) P (Exit.then K (fun _ _ _ => False)) { tmps := (ps.zip (encs x)).foldl (fun t (p, v) => t.setIfInBounds p v) a.tmps, defers := [] } W)
    (hbody : ∀ (l : Nat) (pre : List α) (x : α) (W : World), I pre W → body.wpIn (F.inRound l) (n - 1 - 1) P (roundPost I Ix (pre ++ [x]) W) (a₁ x) W)
    (hstop : ∀ (D : Nat) (pre : List α) (W : World), w.heap.size ≤ D → S pre → Ix pre W → W.heap[D]? = some (.deferred (some [])) → Code.ret.wpIn F n P Q { a with defers := { target := .collected D, args := #[] } :: a.defers } W) :
    (Code.rangeFunc g ps assign body).wpIn F n P Q a w := by
  refine wpIn_rangeFunc fun fn hfn => ?_
  rw [hro]
  -- the loop's record, and the block for deferred calls
  obtain ⟨rc, hrc⟩ : ∃ rc : LoopState → Option Code → Loop, rc = fun st pe => { state := st, pending := pe, fn, tmps := a.tmps, params := ps, assign, body, defers := w.heap.size } := ⟨_, rfl⟩
  obtain ⟨V, hV⟩ : ∃ V, (w.alloc (.deferred (some []))).alloc (.loop (rc .ready none)) = V := ⟨_, rfl⟩
  have hVs : V.heap.size = w.heap.size + 2 := by rw [← hV]; simp
  have hL : V.heap[w.heap.size + 1]? = some (.loop (rc .ready none)) := by
    rw [← hV]
    have := World.alloc_heap_new (w.alloc (.deferred (some []))) (.loop (rc .ready none))
    rwa [World.size_alloc] at this
  have hD : V.heap[w.heap.size]? = some (.deferred (some [])) := by rw [← hV]; exact (Below.heap_alloc _ _ _ (by simp)).trans (World.alloc_heap_new w _)
  have hIV : I [] V := by rw [← hV]; exact hI.alloc _ (hI.alloc _ h0)
  have hbV : Below w.heap.size w V := by rw [← hV]; exact ((Below.refl _ w).alloc (Nat.le_refl _) _).alloc (by simp) _
  refine ⟨w.heap.size + 1, [{ target := .collected w.heap.size, args := #[] }], V, { target := .fn (.func gf) lb, args := #[.func (.yield (w.heap.size + 1)) #[] #[]] }, V, gf, #[.func (.yield (w.heap.size + 1)) #[] #[]] ++ lb, V, ?_, ?_, ?_, ?_, fun _ => h1, ?_⟩
  · rw [← hV, hrc]; exact run_enterLoop_outer _ _ _ _ _
  · simp only [resolve, hg]; simp [go_sem]
  · intro f' hf'; simp [Target.leads] at hf'; subst hf'; exact hFg
  · simp [invoke, go_sem, eg]
  have noWalk : ∀ {A B : World} {row : Option Nat}, (∀ r, row = some r → V.heap.size ≤ r ∧ ∃ o : Obj, A.heap[r]? = some o ∧ o.isWalk = true) → (∀ r, row = some r → w.heap.size ≤ r ∧ ∃ o : Obj, A.heap[r]? = some o ∧ o.isCells = false) := fun {A B row} hr r e => by
    obtain ⟨hB, o, ho, hw⟩ := hr r e
    exact ⟨by omega, o, ho, Obj.not_cells_of_walk hw⟩
  refine (hseq (w.heap.size + 1) (fun pre W => I pre W ∧ W.heap[w.heap.size + 1]? = some (.loop (rc .ready none)) ∧ W.heap[w.heap.size]? = some (.deferred (some [])))
    (fun pre W => Ix pre W ∧ W.heap[w.heap.size + 1]? = some (.loop (rc .done (some .ret))) ∧ W.heap[w.heap.size]? = some (.deferred (some []))) V hbV
    (fun s A B row hs hg' hr => ⟨hI s A B row hs.1 hg' (noWalk (B := B) hr), (grownBy_keeps hg' (fun r e => (hr r e).2) hs.2.1 rfl).trans hs.2.1, (grownBy_keeps hg' (fun r e => (hr r e).2) hs.2.2 rfl).trans hs.2.2⟩)
    (fun pre W h => h.1) ?_ ⟨hIV, hL, hD⟩).mono ?_
  · rintro pre x W ⟨hi, hl, hk⟩
    have hlt : w.heap.size + 1 < W.heap.size := (Array.getElem?_eq_some_iff.1 hl).1
    have hy := run_yield (P := P) (args := encs x) hl (by rw [hrc]; exact hps x)
    rw [hrc] at hy
    refine ⟨fn, _, assign, body, hy, roundIn_of_wpIn hfn (hassign _ x W _ ⟨_, run_beginRound hl (by rw [hrc]), ?_⟩)⟩
    obtain ⟨Wb, hWb⟩ : ∃ Wb, W.putObj (w.heap.size + 1) (.loop { rc .ready none with state := .busy }) = Wb := ⟨_, rfl⟩
    have hlb : Wb.heap[w.heap.size + 1]? = some (.loop { rc .ready none with state := .busy }) := by rw [← hWb]; exact World.putObj_heap_same hlt
    have hkb : Wb.heap[w.heap.size]? = some (.deferred (some [])) := by rw [← hWb]; exact (World.putObj_heap_other (by omega)).trans hk
    have hib : I pre Wb := by rw [← hWb]; exact hI.putObj _ hi (by omega) hl rfl
    rw [hWb]
    refine wpIn_mono (hbody _ pre x Wb hib) ?_
    -- how a round ends
    have fin : ∀ (jump : Option Code) (X : World), KeepsOthers Wb X →
        (Instr.endRound (w.heap.size + 1) jump).run P X = .ok (.bool jump.isNone) (X.putObj (w.heap.size + 1) (.loop (rc (if jump.isNone then .ready else .done) jump))) ∧ X.heap[w.heap.size + 1]? = some (.loop { rc .ready none with state := .busy }) ∧
        (X.putObj (w.heap.size + 1) (.loop (rc (if jump.isNone then .ready else .done) jump))).heap[w.heap.size + 1]? = some (.loop (rc (if jump.isNone then .ready else .done) jump)) ∧
        (X.putObj (w.heap.size + 1) (.loop (rc (if jump.isNone then .ready else .done) jump))).heap[w.heap.size]? = some (.deferred (some [])) := fun jump X hkX => by
      have hlX := hkX.same _ _ hlb rfl
      have hend := run_endRound (P := P) jump hlX
      rw [hrc] at hend ⊢
      exact ⟨hend, by rw [hrc] at hlX; exact hlX, World.putObj_heap_same (Array.getElem?_eq_some_iff.1 hlX).1, (World.putObj_heap_other (by omega)).trans (hkX.same _ _ hkb rfl)⟩
    rintro e a3 X hp
    cases e with
    | normal =>
      obtain ⟨hkX, hiX⟩ := hp
      obtain ⟨hr, hlX, hl2, hk2⟩ := fin none X hkX
      exact ⟨_, _, hr, .inl ⟨rfl, hI.putObj _ hiX (by omega) hlX rfl, hl2, hk2⟩⟩
    | ret =>
      obtain ⟨hkX, hiX⟩ := hp
      obtain ⟨hr, hlX, hl2, hk2⟩ := fin (some .ret) X hkX
      exact ⟨_, _, hr, .inr ⟨rfl, hIx.putObj _ hiX (by omega) hlX rfl, hl2, hk2⟩⟩
    | _ => exact hp.elim
  · rintro e X ⟨⟨v, rfl⟩, pre, hS, hi, hl, hk⟩
    have hend := run_endLoop (P := P) hl (by rw [hrc]; simp)
    rw [hrc] at hend
    exact ⟨some .ret, _, hend, hstop _ pre _ (Nat.le_refl _) hS (hIx.putObj _ hi (by omega) hl rfl) ((World.putObj_heap_other (by omega)).trans hk)⟩
end
end Go.Proofs.Ytbmcepkccenoaaa
namespace Go.Proofs.Ytbmcepkccenoaaa
open Go.RowKit Go.Shelf
attribute [local go_sem] Oper.semAt_some

def pw (a : BitVec 8) : Nat → BitVec 8
  | 0 => 1
  | k + 1 => gmul (pw a k) a
def ginv (a : BitVec 8) : BitVec 8 := pw a 254
theorem below_grown {w w' : World} (h : Below w.heap.size w w') : w.grownBy w' none := ⟨h.os, h.tape, h.output, h.size, fun k hk _ => h.block k hk⟩
/-- a contract without data in memory, as the kit's walks take it -/
theorem Mul_any (a b : BitVec 8) (w : World) : Calls Try.prog 69 #[.int .u8 (a.toNat : Int), .int .u8 (b.toNat : Int)] w fun e w' => e = .returned (.int .u8 ((gmul a b).toNat : Int)) ∧ Below w.heap.size w w' := by
  have hr : ∀ a : BitVec 8, InR .u8 (a.toNat : Int) := fun a => by
    have := a.isLt
    simp [InR, IntKind.min, IntKind.max, IntKind.signed, IntKind.bits]
    omega
  refine ((Mul_pure a b).2 w (fun _ => False) _ (fun _ h => h.elim) ⟨rfl, fun i d v h1 h2 => ?_⟩).mono ?_
  · match i with
    | 0 => simp at h1 h2; subst h1; subst h2; exact .int (e := .u8 a) (hr a)
    | 1 => simp at h1 h2; subst h1; subst h2; exact .int (e := .u8 b) (hr b)
    | i + 2 => simp at h1
  · rintro e w' ⟨v, G', rfl, h2, _, _, _, h6⟩
    cases h6
    exact ⟨rfl, h2⟩
theorem powers_any (a : BitVec 8) (w : World) : Calls Try.prog 86 #[.int .u8 (a.toNat : Int)] w fun e w' => e = .returned (.func (.func 94) #[] #[.pointer (some ⟨w.heap.size, 0, none⟩)]) ∧ w' = w.alloc (.cells #[.int .u8 (a.toNat : Int)] 5) := by
  go_enter Try.func86, Try.ntmps86
  go_wp2
  go_ret
  exact ⟨rfl, rfl⟩
def encs2 (x : Int × BitVec 8) : Array Value := #[.int .i64 x.1, .int .u8 (x.2.toNat : Int)]
def pwl (a : BitVec 8) (k : Nat) : List (Int × BitVec 8) := (List.range k).map fun i : Nat => ((i : Int), pw a i)
theorem pwl_succ (a : BitVec 8) (k : Nat) : pwl a (k + 1) = pwl a k ++ [((k : Int), pw a k)] := by simp [pwl, List.range_succ]
set_option maxRecDepth 100000 in
set_option maxHeartbeats 1000000 in
theorem powers1_in (a : BitVec 8) (n l Bx : Nat) (hn : 1 ≤ n) (J Jx : List (Int × BitVec 8) → World → Prop) (W : World) (hJa : AbidesFrom W.heap.size J) (hJI : ∀ pre W, J pre W → (∀ x ∈ pre, x.1 ≠ 254) ∧ Blk W Bx #[.int .u8 (a.toNat : Int)] 5)
    (hY : ∀ pre x W1, J pre W1 → YieldAt Fence.wide (n - 1) Try.prog l (encs2 x) W1 fun e W' => (e = .returned (.bool true) ∧ J (pre ++ [x]) W') ∨ (e = .returned (.bool false) ∧ Jx (pre ++ [x]) W')) (h0 : J [] W) :
    CallsIn Fence.wide n Try.prog 94 #[.func (.yield l) #[] #[], .pointer (some ⟨Bx, 0, none⟩)] W fun e W' => (∃ v, e = .returned v) ∧ ∃ pre, (∃ k, pre = pwl a k) ∧ Jx pre W' := by
  refine callsIn_of_wp Try.func94 rfl trivial ?_ rfl
  simp only [Try.ntmps94, List.size_toArray, List.length_cons, List.length_nil, Nat.reduceAdd, Nat.reduceSub, Array.replicate_succ, Array.replicate_zero, List.push_toArray, List.append_toArray, List.nil_append, List.cons_append]
  gi_wp2
  gi_loopw [3, 4] (fun p m wr => ∃ k : Nat, k ≤ 254 ∧ m = .int .i64 k ∧ p = .int .u8 ((pw a k).toNat : Int) ∧ Hid (J (pwl a k) wr)) (fun p m _ => 255 - (intOf m).toNat)
  case atStart => exact ⟨0, by omega, rfl, rfl, h0⟩
  case round =>
    obtain ⟨k, hk, rfl, rfl, HJ⟩ := hrel
    obtain ⟨fn, tmps, assign, body, hy, hR⟩ := hY (pwl a k) ((k : Int), pw a k) wr HJ.out
    dsimp only [encs2] at hy
    gi_wp2
    refine hR.mono ?_
    clear hR hy
    rintro e W3 (⟨rfl, hJ3⟩ | ⟨rfl, hJx3⟩)
    · rw [← pwl_succ] at hJ3
      obtain ⟨hne, hbx⟩ := hJI _ _ hJ3
      have hk3 : k + 1 ≤ 254 := by
        have := hne ((k : Int), pw a k) (by rw [pwl_succ]; simp)
        simp only at this
        omega
      have c0 := hbx.cell 0
      simp at c0
      have HJ3 := Lib.hid hJ3
      have hsz := hbx.lt
      clear hne hbx hJ3
      gi_wp2_with (refine ⟨trivial, ?_⟩; gi_at_call 69; refine (callsIn_wide.2 (Mul_any (pw a k) a W3)).mono ?_; rintro e w' ⟨rfl, hb⟩)
      go_roundw
      case rel => exact ⟨k + 1, hk3, by go_num, rfl, hJa _ _ _ none HJ3.out (below_grown hb) (fun r e => by cases e)⟩
      case measure => simp [intOf]; omega
    · gi_wp2
      refine bodyPost_end (results_none rfl _ _ _) rfl ?_
      exact ⟨⟨_, rfl⟩, _, ⟨k + 1, (pwl_succ a k).symm⟩, hJx3⟩
end Go.Proofs.Ytbmcepkccenoaaa
namespace Go.Proofs.Ytbmcepkccenoaaa
open Go.RowKit Go.Shelf
attribute [local go_sem] Oper.semAt_some

theorem blk_grown {X Y : World} {row : Option Nat} {b : Nat} {c : Array Value} {t : TypeId} (h : Blk X b c t) (hg : X.grownBy Y row) (hr : ∀ r, row = some r → ∃ o : Obj, X.heap[r]? = some o ∧ o.isCells = false) : Blk Y b c t :=
  h.grown hg fun e => by
    obtain ⟨o, ho, hc⟩ := hr b e.symm
    rw [h] at ho
    cases ho
    cases hc
theorem below_grow {w X Y : World} {row : Option Nat} (h : Below w.heap.size w X) (hg : X.grownBy Y row) (hr : ∀ r, row = some r → w.heap.size ≤ r) : Below w.heap.size w Y :=
  h.trans ⟨hg.os, hg.tape, hg.output, hg.size, fun k hk => hg.block k (Nat.lt_of_lt_of_le hk h.size) fun e => by have := hr k e.symm; omega⟩
set_option maxRecDepth 100000 in
set_option maxHeartbeats 1000000 in
theorem inverse_any (a : BitVec 8) (w : World) : Calls Try.prog 70 #[.int .u8 (a.toNat : Int)] w fun e w' => e = .returned (.int .u8 ((ginv a).toNat : Int)) ∧ Below w.heap.size w w' := by
  refine (callsIn_wide (n := 3)).1 ?_
  refine callsIn_of_wp_marks Try.func70 rfl trivial ?_ rfl
  simp only [Try.ntmps70, List.size_toArray, List.length_cons, List.length_nil, Nat.reduceAdd, Nat.reduceSub, Array.replicate_succ, Array.replicate_zero, List.push_toArray, List.append_toArray, List.nil_append, List.cons_append]
  refine wpIn_wide.2 ?_
  have hR := Blk.new w #[.int .u8 0] 5
  have hb1 : Below w.heap.size w (w.alloc (.cells #[.int .u8 0] 5)) := (Below.refl _ w).alloc (Nat.le_refl _) _
  go_wp2_with (go_at_call 86; refine (powers_any a _).mono ?_; rintro e w' ⟨rfl, rfl⟩)
  have hB := Blk.new (w.alloc (.cells #[.int .u8 0] 5)) #[.int .u8 (a.toNat : Int)] 5
  have hR2 := hR.alloc (.cells #[.int .u8 (a.toNat : Int)] 5)
  have hb2 := hb1.alloc hb1.size (.cells #[.int .u8 (a.toNat : Int)] 5)
  have hs : (w.alloc (.cells #[.int .u8 0] 5)).heap.size = w.heap.size + 1 := by simp
  rw [hs] at hB
  generalize (w.alloc (.cells #[.int .u8 0] 5)).alloc (.cells #[.int .u8 (a.toNat : Int)] 5) = W0 at *
  clear hR hb1 hs
  refine (wpIn_wide (n := 3)).1 ?_
  refine rangeFunc_lim rfl (by omega) (n := 3) (gf := 94) (lb := #[.pointer (some ⟨w.heap.size + 1, 0, none⟩)]) rfl trivial (enters_of Try.func94 (by kernel_rfl) rfl) (encs := encs2) (S := fun pre => ∃ k, pre = pwl a k) (fun _ => rfl)
    (fun pre W => ((∀ x ∈ pre, x.1 ≠ 254) ∧ Blk W (w.heap.size + 1) #[.int .u8 (a.toNat : Int)] 5) ∧ Blk W w.heap.size #[.int .u8 0] 5 ∧ Below w.heap.size w W)
    (fun pre W => ∃ x, pre.getLast? = some x ∧ x.1 = 254 ∧ Blk W w.heap.size #[.int .u8 (x.2.toNat : Int)] 5 ∧ Below w.heap.size w W)
    ?own ?ownx ⟨⟨by simp, hB⟩, hR2, hb2⟩
    (fun x => { tmps := #[.int .u8 (a.toNat : Int), undef, .pointer (some ⟨w.heap.size, 0, none⟩), .int .i64 x.1, .int .u8 (x.2.toNat : Int), .int .u8 (a.toNat : Int), .func (.func 94) #[] #[.pointer (some ⟨w.heap.size + 1, 0, none⟩)], .int .i64 x.1, .int .u8 (x.2.toNat : Int), undef, undef, undef], defers := [] })
    (fun l J Jx W hbW hJa hJI hY h0 => powers1_in a 2 l (w.heap.size + 1) (by omega) J Jx W hJa (fun pre W h => (hJI pre W h).1) hY h0)
    ?assign ?body ?stop
  case own =>
    rintro s X Y row ⟨⟨h1, h2⟩, h3, h4⟩ hg hr
    exact ⟨⟨h1, blk_grown h2 hg fun r e => (hr r e).2⟩, blk_grown h3 hg fun r e => (hr r e).2, below_grow h4 hg fun r e => Nat.le_trans hb2.size (hr r e).1⟩
  case ownx =>
    rintro s X Y row ⟨x, h1, h2, h3, h4⟩ hg hr
    exact ⟨x, h1, h2, blk_grown h3 hg fun r e => (hr r e).2, below_grow h4 hg fun r e => Nat.le_trans hb2.size (hr r e).1⟩
  case assign =>
    intro l x W K hK
    simp only [encs2]
    gi_wp2
    exact hK
  case body =>
    rintro l pre x W ⟨⟨hne, hB⟩, hR, hb⟩
    have fR := hR.frozen 0
    have cR := hR.cell 0
    simp at cR
    by_cases h : x.1 = 254
    · have hd : (x.1 == 254) = true := by simp [h]
      have hR3 := hR.set 0 (.int .u8 (x.2.toNat : Int))
      have hb3 := hb.setCell (p := ⟨w.heap.size, 0, none⟩) (Nat.le_refl _) (.int .u8 (x.2.toNat : Int))
      have hbsz := hb.size
      have P := Lib.hid (show KeepsOthers W _ ∧ (∃ y, (pre ++ [x]).getLast? = some y ∧ y.1 = 254 ∧ Blk (W.setCell ⟨w.heap.size, 0, none⟩ (.int .u8 (x.2.toNat : Int))) w.heap.size #[.int .u8 (y.2.toNat : Int)] 5 ∧ Below w.heap.size w (W.setCell ⟨w.heap.size, 0, none⟩ (.int .u8 (x.2.toNat : Int)))) from
        ⟨KeepsOthers.setCell W ⟨w.heap.size, 0, none⟩ (.int .u8 (x.2.toNat : Int)), x, by simp, h, by simpa using hR3, hb3⟩)
      clear hR3 hb3 hB hR hb hne
      gi_wp2
      exact P.out
    · have hd : (x.1 == 254) = false := by simp [h]
      have P := Lib.hid (show KeepsOthers W W ∧ ((∀ y ∈ pre ++ [x], y.1 ≠ 254) ∧ Blk W (w.heap.size + 1) #[.int .u8 (a.toNat : Int)] 5) ∧ Blk W w.heap.size #[.int .u8 0] 5 ∧ Below w.heap.size w W from
        ⟨KeepsOthers.refl W, ⟨fun y hy => by
          rcases List.mem_append.1 hy with q | q
          · exact hne y q
          · simp at q; subst q; exact h, hB⟩, hR, hb⟩)
      clear hB hR hb hne
      gi_wp2
      exact P.out
  case stop =>
    rintro D pre W hD ⟨k, rfl⟩ ⟨x, hx, hx1, hR, hb⟩ hK
    have hk : k = 255 ∧ x = ((254 : Int), pw a 254) := by
      cases k with
      | zero => simp [pwl] at hx
      | succ k =>
        rw [pwl_succ] at hx
        simp at hx
        subst hx
        simp only at hx1
        have : k = 254 := by omega
        subst this
        exact ⟨rfl, rfl⟩
    obtain ⟨rfl, rfl⟩ := hk
    have cR := hR.cell 0
    simp at cR
    refine wpIn_wide.2 ?_
    go_wp2
    refine ⟨by simp, .inl ⟨_, _, rfl, run_takeDeferred hK, ?_⟩⟩
    have hb4 := hb.trans (belowK_b (w := w) (Nat.le_refl _) W D _ (.deferred none) (by have := hb2.size; omega) hK rfl rfl)
    have cR2 : (W.putObj D (.deferred none)).cell? ⟨w.heap.size, 0, none⟩ = some (.int .u8 ((pw a 254).toNat : Int)) := by
      have hne : D ≠ w.heap.size := fun e => by rw [e, hR] at hK; cases hK
      rw [← cR]
      exact World.cell?_of_block (World.putObj_heap_other (show w.heap.size ≠ D from fun e => hne e.symm))
    refine ⟨.int .u8 ((pw a 254).toNat : Int), ?_, rfl, hb4⟩
    simp [results, Try.results70, go_sem, cR2]
set_option maxRecDepth 100000 in
set_option maxHeartbeats 4000000 in
theorem inverse_pure (a : BitVec 8) : Pure Try.prog 70 [u8D a] (u8D (ginv a)) := by
  refine ⟨⟨_, _, Try.func70, rfl, by kernel_rfl⟩, fun w G vs hG hv => ?_⟩
  obtain ⟨hs, hv⟩ := hv
  obtain ⟨v, rfl⟩ : ∃ v, vs = #[v] := by
    rcases vs with ⟨vs⟩
    match vs, hs with
    | [v], _ => exact ⟨v, rfl⟩
  have h0 := hv 0 _ v rfl rfl
  cases h0
  refine (inverse_any a w).mono ?_
  rintro e w' ⟨rfl, hb⟩
  have hr : InR .u8 ((ginv a).toNat : Int) := by
    have := (ginv a).isLt
    simp [InR, IntKind.min, IntKind.max, IntKind.signed, IntKind.bits]
    omega
  exact ⟨_, G, rfl, hb, fun _ h => h, fun _ h => .inl h, fun b h => Nat.lt_of_lt_of_le (hG b h) hb.size, .int (e := .u8 (ginv a)) hr⟩
end Go.Proofs.Ytbmcepkccenoaaa
namespace Go.Proofs.Ytbmcepkccenoaaa
open Go.RowKit

/-! field.zeros, field.Coefficients, field.Through at one and two points. -/
def b8 (e : IE) : BitVec 8 := BitVec.ofInt 8 e.den
theorem b8_u8 (b : BitVec 8) : b8 (.u8 b) = b := ofInt_nat8 b
theorem b8_xor (e1 e2 : IE) : b8 (.bin .xor .u8 e1 e2) = b8 e1 ^^^ b8 e2 := by
  show BitVec.ofInt 8 (IntKind.u8.wrap (((BitVec.ofInt 8 e1.den ^^^ BitVec.ofInt 8 e2.den).toNat : Nat) : Int)) = _
  rw [wrap_u8 _ (BitVec.ofInt 8 e1.den ^^^ BitVec.ofInt 8 e2.den).isLt, ofInt_nat8]
  rfl
theorem Mul_ie (e1 e2 : IE) : Pure Try.prog 69 [.int .u8 e1, .int .u8 e2] (u8D (gmul (b8 e1) (b8 e2))) := Pure.args (.cons (.byte rfl) (.cons (.byte rfl) .nil)) (Mul_pure _ _)
/-! Few facts of the field, by going through all bytes. -/
theorem one8 : (1 : BitVec 8) = 1#8 := rfl
theorem zero8 : (0 : BitVec 8) = 0#8 := rfl
theorem xc1 (a b : BitVec 8) : a ^^^ b ^^^ b = a := by rw [BitVec.xor_assoc, BitVec.xor_self, BitVec.xor_zero]
theorem xc2 (a b : BitVec 8) : a ^^^ b ^^^ a = b := by rw [BitVec.xor_comm a b, xc1]
theorem gmul_one : ∀ x : BitVec 8, gmul 1#8 x = x := by decide +kernel
theorem gmul_zero : ∀ x : BitVec 8, gmul 0#8 x = 0#8 := by decide +kernel
theorem gmul_zero' : ∀ x : BitVec 8, gmul x 0#8 = 0#8 := by decide +kernel
theorem gmul_one' : ∀ x : BitVec 8, gmul x 1#8 = x := by decide +kernel
theorem b8_lit0 : b8 (.lit 0) = 0#8 := rfl
theorem b8_lit1 : b8 (.lit 1) = 1#8 := rfl
theorem Inv_ie (e : IE) : Pure Try.prog 70 [.int .u8 e] (u8D (ginv (b8 e))) := Pure.args (.cons (.byte rfl) .nil) (inverse_pure _)
theorem Eval1_ie (e0 e : IE) : Pure Try.prog 57 [.sll 1 [[.int .u8 e0]], .int .u8 e] (u8D (geval [b8 e0] (b8 e))) :=
  Pure.args (.cons (.lits (.cons (.cons (.byte rfl) .nil) .nil)) (.cons (.byte rfl) .nil)) (Pure.args (args' := [.slm 1 none u8C [b8 e0], u8D (b8 e)]) (.cons (.sll rfl (fun e h => by cases h)) (.cons (.refl _) .nil)) (Eval_pure [b8 e0] none (b8 e) (by simp)))
theorem Eval2_ie (e0 e1 e : IE) : Pure Try.prog 57 [.sll 1 [[.int .u8 e0], [.int .u8 e1]], .int .u8 e] (u8D (geval [b8 e0, b8 e1] (b8 e))) :=
  Pure.args (.cons (.lits (.cons (.cons (.byte rfl) .nil) (.cons (.cons (.byte rfl) .nil) .nil))) (.cons (.byte rfl) .nil)) (Pure.args (args' := [.slm 1 none u8C [b8 e0, b8 e1], u8D (b8 e)]) (.cons (.sll rfl (fun e h => by cases h)) (.cons (.refl _) .nil)) (Eval_pure [b8 e0, b8 e1] none (b8 e) (by simp)))
theorem wrong_ll (xs ys : List (BitVec 8)) (hl : xs.length < 9223372036854775807) : Pure Try.prog 67 [.sll 1 (xs.map u8C), .sll 1 (ys.map u8C)] (boolD (wrongB xs ys)) :=
  Pure.args (args' := [.slm 1 none u8C xs, .slm 1 none u8C ys]) (.cons (.sll rfl (fun e h => by cases h)) (.cons (.sll rfl (fun e h => by cases h)) .nil)) (wrong_pure xs ys none none hl)
set_option maxRecDepth 100000 in
set_option maxHeartbeats 4000000 in
theorem zeros1_pure (x1 : BitVec 8) : Pure Try.prog 68 [.sll 1 [u8C x1]] (.sll 1 [u8C x1, u8C 1]) := by
  obtain ⟨gm, hgm⟩ : ∃ gm, gm = gmul := ⟨_, rfl⟩
  obtain ⟨bb, hbb⟩ : ∃ bb, bb = b8 := ⟨_, rfl⟩
  have hMul := Mul_ie
  rw [← hgm, ← hbb] at hMul
  refine Pure.intro (want := [.sll 1 [u8C x1, u8C 1]]) T_ok follows Try.func68 rfl (by kernel_rfl) (rs := [.tmp 2]) rfl (by kernel_rfl) ?_
  generalize hP : Try.prog = P at *
  have hT : T.ok P := hP ▸ T_ok
  have hm : P.follows .mixedOrders = true := hP ▸ follows
  unfold Try.f68
  dsimp only
  cbv
  repeat' (first | (refine CodeP.rounds hT hm 4 ?_; cbv) | (refine CallP.pure _ (hMul _ _) rfl ?_; cbv) | (refine PureP.mk _ (hMul _ _) rfl ?_; cbv))
  refine .mk (.cons (.trans (.sll rfl (.inl ⟨_, _, rfl, rfl⟩) rfl rfl rfl) (.lits (.cons (.cons (.byte ?_) .nil) (.cons (.cons (.byte ?_) .nil) .nil)))) .nil) rfl
  all_goals subst hgm hbb
  all_goals (show _ = b8 _; simp [b8_u8, b8_xor, b8_lit0, b8_lit1, gmul_one, gmul_zero])
set_option maxRecDepth 100000 in
set_option maxHeartbeats 4000000 in
theorem zeros2_pure (x1 x2 : BitVec 8) : Pure Try.prog 68 [.sll 1 [u8C x1, u8C x2]] (.sll 1 [u8C (gmul x1 x2), u8C (x2 ^^^ x1), u8C 1]) := by
  obtain ⟨z0, hz0⟩ : ∃ z, z = gmul x1 x2 := ⟨_, rfl⟩
  obtain ⟨z1, hz1⟩ : ∃ z, z = x2 ^^^ x1 := ⟨_, rfl⟩
  rw [← hz0, ← hz1]
  obtain ⟨gm, hgm⟩ : ∃ gm, gm = gmul := ⟨_, rfl⟩
  obtain ⟨bb, hbb⟩ : ∃ bb, bb = b8 := ⟨_, rfl⟩
  have hMul := Mul_ie
  rw [← hgm, ← hbb] at hMul
  refine Pure.intro (want := [.sll 1 [u8C z0, u8C z1, u8C 1]]) T_ok follows Try.func68 rfl (by kernel_rfl) (rs := [.tmp 2]) rfl (by kernel_rfl) ?_
  generalize hP : Try.prog = P at *
  have hT : T.ok P := hP ▸ T_ok
  have hm : P.follows .mixedOrders = true := hP ▸ follows
  unfold Try.f68
  dsimp only
  cbv
  repeat' (first | (refine CodeP.rounds hT hm 4 ?_; cbv) | (refine CallP.pure _ (hMul _ _) rfl ?_; cbv) | (refine PureP.mk _ (hMul _ _) rfl ?_; cbv))
  refine .mk (.cons (.trans (.sll rfl (.inl ⟨_, _, rfl, rfl⟩) rfl rfl rfl) (.lits (.cons (.cons (.byte ?_) .nil) (.cons (.cons (.byte ?_) .nil) (.cons (.cons (.byte ?_) .nil) .nil))))) .nil) rfl
  all_goals subst hgm hbb hz0 hz1
  all_goals (show _ = b8 _; simp [b8_u8, b8_xor, b8_lit0, b8_lit1, gmul_one, gmul_zero])
/-- the coefficients through two points -/
def co2 (x1 x2 y1 y2 : BitVec 8) : BitVec 8 × BitVec 8 :=
  let f1 := gmul y1 (ginv (x1 ^^^ x2))
  let f2 := gmul y2 (ginv (x2 ^^^ x1))
  (gmul x2 f1 ^^^ gmul x1 f2, f1 ^^^ f2)
set_option maxRecDepth 100000 in
set_option maxHeartbeats 4000000 in
theorem Coeff2_pure (x1 x2 y1 y2 : BitVec 8) (hx : x1 ≠ x2) : Pure Try.prog 45 [.sll 1 [u8C x1, u8C x2], .sll 1 [u8C y1, u8C y2]] (.tup [.sll 1 [u8C (co2 x1 x2 y1 y2).1, u8C (co2 x1 x2 y1 y2).2], .int .i64 (.lit 0)]) := by
  obtain ⟨z0, hz0⟩ : ∃ z, z = (co2 x1 x2 y1 y2).1 := ⟨_, rfl⟩
  obtain ⟨z1, hz1⟩ : ∃ z, z = (co2 x1 x2 y1 y2).2 := ⟨_, rfl⟩
  rw [← hz0, ← hz1]
  have hw := wrong_ll [x1, x2] [y1, y2] (by simp)
  obtain ⟨wb, hwb⟩ : ∃ wb, wb = wrongB [x1, x2] [y1, y2] := ⟨_, rfl⟩
  have hwf : wb = false := by rw [hwb]; simp [wrongB, hx]
  rw [← hwb, hwf] at hw
  have hz := zeros2_pure x1 x2
  obtain ⟨p0, hp0⟩ : ∃ z, z = gmul x1 x2 := ⟨_, rfl⟩
  obtain ⟨p1, hp1⟩ : ∃ z, z = x2 ^^^ x1 := ⟨_, rfl⟩
  rw [← hp0, ← hp1] at hz
  have hMul := Mul_ie
  have hInv := Inv_ie
  have hEv := Eval2_ie
  obtain ⟨gm, hgm⟩ : ∃ gm, gm = gmul := ⟨_, rfl⟩
  obtain ⟨gi, hgi⟩ : ∃ gi, gi = ginv := ⟨_, rfl⟩
  obtain ⟨ge, hge⟩ : ∃ ge, ge = fun a b c => geval [a, b] c := ⟨_, rfl⟩
  replace hEv : ∀ e0 e1 e : IE, Pure Try.prog 57 [.sll 1 [[.int .u8 e0], [.int .u8 e1]], .int .u8 e] (u8D (ge (b8 e0) (b8 e1) (b8 e))) := by rw [hge]; exact hEv
  obtain ⟨bb, hbb⟩ : ∃ bb, bb = b8 := ⟨_, rfl⟩
  rw [← hgm, ← hbb] at hMul
  rw [← hgi, ← hbb] at hInv
  rw [← hbb] at hEv
  refine Pure.intro (want := [.sll 1 [u8C z0, u8C z1], .int .i64 (.lit 0)]) T_ok follows Try.func45 rfl (by kernel_rfl) (rs := [.tmp 4, .tmp 5]) rfl (by kernel_rfl) ?_
  generalize hP : Try.prog = P at *
  have hT : T.ok P := hP ▸ T_ok
  have hm : P.follows .mixedOrders = true := hP ▸ follows
  unfold Try.f45
  dsimp only
  cbv
  refine CallP.pure _ hw rfl ?_
  cbv
  refine SplitP.mk (fun hs => ?_) (fun _ => ?_)
  · cases hs
  repeat' (first | (refine CodeP.rounds hT hm 4 ?_; cbv) | (refine CallP.pure _ hz rfl ?_; cbv) | (refine PureP.mk _ (hMul _ _) rfl ?_; cbv) | (refine PureP.mk _ (hInv _) rfl ?_; cbv) | (refine PureP.lend _ _ (hEv _ _ _) (.cons (.sll rfl (.inl ⟨_, _, rfl, rfl⟩) rfl rfl rfl) (.cons (.eq (.refl _)) .nil)) rfl rfl ?_; cbv))
  refine .mk (.cons (.trans (.sll rfl (.inl ⟨_, _, rfl, rfl⟩) rfl rfl rfl) (.lits (.cons (.cons (.byte ?_) .nil) (.cons (.cons (.byte ?_) .nil) .nil)))) (.cons (.eq (.refl _)) .nil)) rfl
  all_goals subst hgm hbb hgi hge hz0 hz1 hp0 hp1
  all_goals (show _ = b8 _; simp only [co2, geval, List.foldr, b8_u8, b8_xor, b8_lit0, b8_lit1, one8, zero8, gmul_one, gmul_zero, BitVec.xor_zero, BitVec.zero_xor, xc1, xc2])
/-! the coefficient through one point -/
set_option maxRecDepth 100000 in
set_option maxHeartbeats 4000000 in
theorem Coeff1_pure (x1 y1 : BitVec 8) : Pure Try.prog 45 [.sll 1 [u8C x1], .sll 1 [u8C y1]] (.tup [.sll 1 [u8C (gmul y1 (ginv 1#8))], .int .i64 (.lit 0)]) := by
  obtain ⟨z0, hz0⟩ : ∃ z, z = gmul y1 (ginv 1#8) := ⟨_, rfl⟩
  rw [← hz0]
  have hw := wrong_ll [x1] [y1] (by simp)
  obtain ⟨wb, hwb⟩ : ∃ wb, wb = wrongB [x1] [y1] := ⟨_, rfl⟩
  have hwf : wb = false := by rw [hwb]; simp [wrongB]
  rw [← hwb, hwf] at hw
  have hz := zeros1_pure x1
  have hMul := Mul_ie
  have hInv := Inv_ie
  have hEv := Eval1_ie
  obtain ⟨gm, hgm⟩ : ∃ gm, gm = gmul := ⟨_, rfl⟩
  obtain ⟨gi, hgi⟩ : ∃ gi, gi = ginv := ⟨_, rfl⟩
  obtain ⟨ge, hge⟩ : ∃ ge, ge = fun a c => geval [a] c := ⟨_, rfl⟩
  replace hEv : ∀ e0 e : IE, Pure Try.prog 57 [.sll 1 [[.int .u8 e0]], .int .u8 e] (u8D (ge (b8 e0) (b8 e))) := by rw [hge]; exact hEv
  obtain ⟨bb, hbb⟩ : ∃ bb, bb = b8 := ⟨_, rfl⟩
  rw [← hgm, ← hbb] at hMul
  rw [← hgi, ← hbb] at hInv
  rw [← hbb] at hEv
  refine Pure.intro (want := [.sll 1 [u8C z0], .int .i64 (.lit 0)]) T_ok follows Try.func45 rfl (by kernel_rfl) (rs := [.tmp 4, .tmp 5]) rfl (by kernel_rfl) ?_
  generalize hP : Try.prog = P at *
  have hT : T.ok P := hP ▸ T_ok
  have hm : P.follows .mixedOrders = true := hP ▸ follows
  unfold Try.f45
  dsimp only
  cbv
  refine CallP.pure _ hw rfl ?_
  cbv
  refine SplitP.mk (fun hs => ?_) (fun _ => ?_)
  · cases hs
  repeat' (first | (refine CodeP.rounds hT hm 4 ?_; cbv) | (refine CallP.pure _ hz rfl ?_; cbv) | (refine PureP.mk _ (hMul _ _) rfl ?_; cbv) | (refine PureP.mk _ (hInv _) rfl ?_; cbv) | (refine PureP.lend _ _ (hEv _ _) (.cons (.sll rfl (.inl ⟨_, _, rfl, rfl⟩) rfl rfl rfl) (.cons (.eq (.refl _)) .nil)) rfl rfl ?_; cbv))
  refine .mk (.cons (.trans (.sll rfl (.inl ⟨_, _, rfl, rfl⟩) rfl rfl rfl) (.lits (.cons (.cons (.byte ?_) .nil) .nil))) (.cons (.eq (.refl _)) .nil)) rfl
  all_goals subst hgm hbb hgi hge hz0
  all_goals (show _ = b8 _; simp only [geval, List.foldr, b8_u8, b8_xor, b8_lit0, b8_lit1, one8, zero8, gmul_one, gmul_zero, BitVec.xor_zero, BitVec.zero_xor, xc1, xc2])
end Go.Proofs.Ytbmcepkccenoaaa
namespace Go.Proofs.Ytbmcepkccenoaaa
open Go.RowKit

/-! shares.Split with threshold 2. -/
theorem take_drop_one {α : Type} {l : List α} {i : Nat} {x : α} (h : l[i]? = some x) : (l.take (i + 1)).drop i = [x] := by
  obtain ⟨h1, h2⟩ := List.getElem?_eq_some_iff.1 h
  rw [List.take_add_one, h, List.drop_append_of_le_length (by simp; omega), List.drop_of_length_le (by simp; omega)]
  rfl
set_option maxRecDepth 100000 in
set_option maxHeartbeats 4000000 in
theorem polynomial_pure (secret coins : List (BitVec 8)) (nb nb' : Option BE) (i : Nat) (s c : BitVec 8) (hs : secret[i]? = some s) (hc : coins[i]? = some c) (hi : i < 100000) : Pure Try.prog 52 [.slm 1 nb u8C secret, .slm 1 nb' u8C coins, .int .i64 (.lit 2), .int .i64 (.nat i)] (.slm 1 none u8C [s, c]) := by
  refine Pure.intro (want := [.slm 1 none u8C [s, c]]) T_ok follows Try.func52 rfl (by kernel_rfl) (rs := [.tmp 8]) rfl (by kernel_rfl) ?_
  have h1 := (List.getElem?_eq_some_iff.1 hs).1
  have h2 := (List.getElem?_eq_some_iff.1 hc).1
  generalize hP : Try.prog = P
  have hT : T.ok P := hP ▸ T_ok
  have hm : P.follows .mixedOrders = true := hP ▸ follows
  unfold Try.f52
  dsimp only
  cbv
  refine ElemP.mk (by show (0 : Int) ≤ (i : Int) ∧ (i : Int) < (secret.length : Int); omega) (fun s' hs' => ?_)
  replace hs' : secret[i]? = some s' := hs'
  rw [hs] at hs'
  simp only [Option.some.injEq] at hs'
  subst hs'
  cbv
  have e1 : binDen .mul .i64 (i : Int) 1 = (i : Int) := by rw [mul64 (by omega) (by omega)]; omega
  have e2 : binDen .mul .i64 (binDen .add .i64 (i : Int) 1) 1 = ((i + 1 : Nat) : Int) := by rw [add64 (by omega) (by omega), mul64 (by omega) (by omega)]; omega
  refine ReqP.mk ?_ (fun _ => ?_)
  · show 0 ≤ binDen .mul .i64 (i : Int) 1 ∧ binDen .mul .i64 (i : Int) 1 ≤ binDen .mul .i64 (binDen .add .i64 (i : Int) 1) 1 ∧ binDen .mul .i64 (binDen .add .i64 (i : Int) 1) 1 ≤ binDen .mul .i64 (binDen .add .i64 (i : Int) 1) 1 ∧ binDen .mul .i64 (binDen .add .i64 (i : Int) 1) 1 ≤ (coins.length : Int) ∧ _
    rw [e1, e2]
    exact ⟨by omega, by omega, by omega, by omega, fun _ => rfl⟩
  refine LetP.mk (fun l' hl' => ?_)
  replace hl' : l' = (coins.take (binDen .mul .i64 (binDen .add .i64 (i : Int) 1) 1).toNat).drop (binDen .mul .i64 (i : Int) 1).toNat := hl'
  rw [e1, e2, Int.toNat_natCast, Int.toNat_natCast, take_drop_one hc] at hl'
  subst hl'
  cbv
  refine ReqP.mk ⟨rfl, rfl, map_cells (fun _ => rfl), fun e' he' => ?_, by show (1 : Int) + ((1 : Nat) : Int) ≤ 9223372036854775807; decide, by show ((1 : Int) + ((1 : Nat) : Int)) * ((1 : Nat) : Int) ≤ 140737488355328; decide⟩ (fun _ => ?_)
  · simp [RE.den] at he'
    subst he'
    rfl
  cbv
  exact .mk (.cons (.slm rfl (.inl ⟨_, _, rfl, rfl⟩) rfl rfl (fun e h => by cases h)) .nil) rfl
end Go.Proofs.Ytbmcepkccenoaaa
namespace Go.Proofs.Ytbmcepkccenoaaa
open Go.RowKit

/-! shares.Split with threshold 2, of 32 bytes. -/
abbrev pairC (p : BitVec 8 × BitVec 8) : List D := [.slm 1 none u8C [p.1, p.2]]
def shareAt (ps : List (BitVec 8 × BitVec 8)) (many : Int) (k : Nat) : ShareD := ⟨0, (k : Int) + 1, 2, many, false, ps.map fun p => geval [p.1, p.2] (BitVec.ofInt 8 ((k : Int) + 1))⟩
def splitL (secret coins : List (BitVec 8)) (many : Int) : List ShareD := if coins.length = 32 then (List.range many.toNat).map (shareAt (secret.zip coins) many) else []
def splitE (coins : List (BitVec 8)) : Int := if coins.length = 32 then 0 else 1
theorem DsEq.refl : ∀ l : List D, DsEq l l
  | [] => .nil
  | _ :: l => .cons (.refl _) (DsEq.refl l)
set_option maxRecDepth 100000 in
set_option maxHeartbeats 4000000 in
theorem Split_pure (secret coins : List (BitVec 8)) (nb nb' : Option BE) (many : Int) (hl : secret.length = 32) (h1 : 2 ≤ many) (h2 : many ≤ 4) : Pure Try.prog 36 [.slm 1 nb u8C secret, .int .i64 (.lit 0), .int .i64 (.lit 2), .int .i64 (.var many), .slm 1 nb' u8C coins] (.tup [.slm 5 none ShareD.c (splitL secret coins many), i64 (splitE coins)]) := by
  obtain ⟨rl, hrl⟩ : ∃ r, r = splitL secret coins many := ⟨_, rfl⟩
  obtain ⟨re, hre⟩ : ∃ r, r = splitE coins := ⟨_, rfl⟩
  rw [← hrl, ← hre]
  have hPoly := fun i s c (hs : secret[i]? = some s) (hc : coins[i]? = some c) (hi : i < 100000) => polynomial_pure secret coins nb nb' i s c hs hc hi
  refine Pure.intro (want := [.slm 5 none ShareD.c rl, i64 re]) T_ok follows Try.func36 rfl (by kernel_rfl) (rs := [.tmp 10, .tmp 11]) rfl (by kernel_rfl) ?_
  generalize hP : Try.prog = P at *
  have hT : T.ok P := hP ▸ T_ok
  have hm : P.follows .mixedOrders = true := hP ▸ follows
  unfold Try.f36
  dsimp only
  cbv
  refine SplitP.mk (fun hs => ?_) (fun hs => ?_) <;> simp only [BE.lss_t, BE.lss_f, BE.leq_t, BE.leq_f, BE.gtr_t, BE.gtr_f, BE.geq_t, BE.geq_f, BE.eql_t, BE.eql_f, BE.neq_t, BE.neq_f, BE.not_t, BE.not_f, BE.var_d, BE.lit_d, BE.seq_t, BE.seq_f, BE.beq_t, BE.beq_f, IE.var_d, IE.lit_d, IE.nat_d, IE.len_d, IE.sum_d, IE.u8_d, ncast, Int.ofNat_lt, Int.ofNat_le, Int.ofNat_inj] at hs
  · exact absurd hs (by omega)
  clear hs
  refine SplitP.mk (fun hs => ?_) (fun hs => ?_) <;> simp only [BE.lss_t, BE.lss_f, BE.leq_t, BE.leq_f, BE.gtr_t, BE.gtr_f, BE.geq_t, BE.geq_f, BE.eql_t, BE.eql_f, BE.neq_t, BE.neq_f, BE.not_t, BE.not_f, BE.var_d, BE.lit_d, BE.seq_t, BE.seq_f, BE.beq_t, BE.beq_f, IE.var_d, IE.lit_d, IE.nat_d, IE.len_d, IE.sum_d, IE.u8_d, ncast, Int.ofNat_lt, Int.ofNat_le, Int.ofNat_inj] at hs
  · exact absurd hs (by omega)
  clear hs
  refine SplitP.mk (fun hs => ?_) (fun hs => ?_) <;> simp only [BE.lss_t, BE.lss_f, BE.leq_t, BE.leq_f, BE.gtr_t, BE.gtr_f, BE.geq_t, BE.geq_f, BE.eql_t, BE.eql_f, BE.neq_t, BE.neq_f, BE.not_t, BE.not_f, BE.var_d, BE.lit_d, BE.seq_t, BE.seq_f, BE.beq_t, BE.beq_f, IE.var_d, IE.lit_d, IE.nat_d, IE.len_d, IE.sum_d, IE.u8_d, ncast, Int.ofNat_lt, Int.ofNat_le, Int.ofNat_inj] at hs
  · exact absurd hs (by omega)
  clear hs
  have em : binDen .mul .i64 (secret.length : Int) 1 = 32 := by rw [hl]; rfl
  refine SplitP.mk (fun hs => ?_) (fun hs => ?_)
  · replace hs : (!decide ((coins.length : Int) = binDen .mul .i64 (secret.length : Int) 1)) = true := hs
    rw [em] at hs
    have hc : coins.length ≠ 32 := fun e => by rw [e] at hs; cases hs
    exact .mk (.cons (.eq (.nil0 (by rw [hrl]; unfold splitL; rw [if_neg hc]))) (.cons (.eq (.int (by rw [IE.lit_d, IE.var_d, hre]; unfold splitE; rw [if_neg hc]))) .nil)) rfl
  replace hs : (!decide ((coins.length : Int) = binDen .mul .i64 (secret.length : Int) 1)) = false := hs
  rw [em] at hs
  have hc : coins.length = 32 := by
    have h3 : decide ((coins.length : Int) = 32) = true := by simpa using hs
    have := of_decide_eq_true h3
    omega
  clear hs em
  obtain ⟨ps, hps⟩ : ∃ ps, ps = secret.zip coins := ⟨_, rfl⟩
  have hpl : ps.length = 32 := by rw [hps, List.length_zip, hl, hc]; rfl
  have hpg : ∀ (i : Nat) (p : BitVec 8 × BitVec 8), ps[i]? = some p → secret[i]? = some p.1 ∧ coins[i]? = some p.2 := fun i p h => by
    rw [hps, List.getElem?_zip_eq_some] at h
    exact h
  have hre0 : re = 0 := by rw [hre]; unfold splitE; rw [if_pos hc]
  have hrl0 : rl = (List.range many.toNat).map (shareAt ps many) := by rw [hrl]; unfold splitL; rw [if_pos hc, hps]
  clear hrl hre hps
  refine CallP.post ?_
  refine (CallP.inl hT hm (hP ▸ Try.func50) rfl (by kernel_rfl) (rs := [.tmp 4]) rfl (by kernel_rfl) ?_)
  unfold Try.f50
  dsimp only
  cbv
  refine CodeP.virt 4 36 1 rfl ?_
  refine CodeP.loopm hT hm (X := Nat × List (BitVec 8 × BitVec 8)) (fun x => [(7, .int .i64 (.nat x.1)), (4, .osl 1 5 (x.1 + 1) (.cmp .eql (.nat x.1) (.lit 0)) (.lit 0) (.nat x.1))])
    (fun x => [.cells [.slm 1 nb u8C secret], .cells [.int .i64 (.lit 0)], .cells [.int .i64 (.lit 2)], .cells [.int .i64 (.var many)], .cells [.slm 1 nb' u8C coins], .row 36 1 (x.1 + 1) (.map pairC x.2)]) (fun x => x.1 ≤ 32 ∧ x.2 = ps.take x.1) (fun x => 32 - x.1) (0, []) ⟨by simp, rfl⟩ (fun _ => by simp) ⟨?_, ?_, rfl⟩ ?_
  · (cbv; (repeat' (first | exact SnD.refl _ | exact trivial | exact SnD.nat0 | refine And.intro ?_ ?_)))
    exact osl_start
  · (cbv; (repeat' (first | exact trivial | exact BkEq.refl _ | exact SnD.refl _ | exact SnDs.nil | refine BkEq.cells ?_ | refine SnDs.cons ?_ ?_ | refine And.intro ?_ ?_)))
    exact .row rfl
  · intro ⟨k, cur⟩ ⟨hk, hcur⟩
    replace hk : k ≤ 32 := hk
    replace hcur : cur = ps.take k := hcur
    cbv
    have hcl : cur.length = k := by rw [hcur, List.length_take]; omega
    refine SplitP.mk (fun hs => ?_) (fun hs => ?_)
    · have hkn : k < secret.length := by
        have h5 : decide ((k : Int) < (secret.length : Int)) = true := hs
        have := of_decide_eq_true h5
        omega
      clear hs
      refine (CallP.inl hT hm (hP ▸ Try.func51) rfl (by kernel_rfl) (rs := [.tmp 5]) rfl (by kernel_rfl) ?_)
      unfold Try.f51
      dsimp only
      cbv
      obtain ⟨p, hp⟩ : ∃ p, ps[k]? = some p := ⟨_, List.getElem?_eq_getElem (by omega)⟩
      obtain ⟨g1, g2⟩ := hpg k p hp
      obtain ⟨s, c⟩ := p
      refine CallP.pure _ (hPoly k s c g1 g2 (by omega)) rfl ?_
      cbv
      refine ReqP.mk (app_ok hcl (by omega) (fun _ => rfl) rfl (by decide)) (fun _ => ?_)
      cbv
      obtain ⟨cur', hcur'⟩ : ∃ cur', cur' = cur ++ [(s, c)] := ⟨_, rfl⟩
      refine BackP.intro (k + 1, cur') ⟨by show k + 1 ≤ 32; omega, ?_⟩ (by show 32 - (k + 1) < 32 - k; omega) ⟨?_, ?_, rfl⟩
      · show cur' = ps.take (k + 1)
        rw [hcur', hcur, List.take_add_one, hp]
        rfl
      · (cbv; (repeat' (first | exact SnD.refl _ | exact trivial | exact SnD.nat0 | refine And.intro ?_ ?_)))
        · exact .inc (by omega)
        · exact osl_step k
      · (cbv; (repeat' (first | exact trivial | exact BkEq.refl _ | exact SnD.refl _ | exact SnDs.nil | refine BkEq.cells ?_ | refine SnDs.cons ?_ ?_ | refine And.intro ?_ ?_)))
        exact row_app (s, c) hcur' (.cons (.refl _) .nil)
    · have hkn : secret.length ≤ k := by
        have h5 : decide ((k : Int) < (secret.length : Int)) = false := hs
        have := of_decide_eq_false h5
        omega
      clear hs
      have hk2 : k = 32 := by omega
      have hcp : cur = ps := by rw [hcur, hk2, ← hpl, List.take_length]
      subst hcp
      refine ⟨.slm 1 none pairC cur, [.cells [.slm 1 nb u8C secret], .cells [.int .i64 (.lit 0)], .cells [.int .i64 (.lit 2)], .cells [.int .i64 (.var many)], .cells [.slm 1 nb' u8C coins]], ?_, ?_, ?_, rfl, ?_⟩
      · refine .slm rfl (.inl ⟨_, _, rfl, rfl⟩) rfl ?_ (fun e h => by cases h)
        show (k : Int) = (cur.length : Int)
        omega
      · (cbv; (repeat' (first | exact trivial | exact BkEq.refl _ | exact SnD.refl _ | exact SnDs.nil | refine BkEq.cells ?_ | refine SnDs.cons ?_ ?_ | refine And.intro ?_ ?_)))
      · simp
      clear hcur hpg hk hkn hk2 hcl k hPoly
      have hEv := fun s c a => Eval_pure [s, c] none a (by simp)
      obtain ⟨gm, hgm⟩ : ∃ g : BitVec 8 → BitVec 8 → BitVec 8 → BitVec 8, g = fun s c a => geval [s, c] a := ⟨_, rfl⟩
      have hEv2 : ∀ s c a, Pure Try.prog 57 [.slm 1 none u8C [s, c], u8D a] (u8D (gm s c a)) := fun s c a => by rw [hgm]; exact hEv s c a
      clear hEv
      rw [hP] at hEv2
      obtain ⟨shA, hshA⟩ : ∃ f, f = shareAt cur many := ⟨_, rfl⟩
      have hsh : ∀ k : Nat, shA k = ⟨0, (k : Int) + 1, 2, many, false, cur.map fun p => gm p.1 p.2 (BitVec.ofInt 8 ((k : Int) + 1))⟩ := fun k => by rw [hshA, hgm]; rfl
      rw [← hshA] at hrl0
      clear hshA hgm
      obtain ⟨mn, hmn⟩ : ∃ mn : Nat, (mn : Int) = many := ⟨many.toNat, by omega⟩
      have hm2 : many.toNat = mn := by omega
      have hm4 : mn ≤ 4 := by omega
      rw [hm2] at hrl0
      clear hm2
      cbv
      refine (CallP.inl hT hm (hP ▸ Try.func53) rfl (by kernel_rfl) (rs := [.tmp 4]) rfl (by kernel_rfl) ?_)
      unfold Try.f53
      dsimp only
      cbv
      refine CodeP.virt 4 39 5 rfl ?_
      refine CodeP.loopm hT hm (X := Nat × List ShareD) (fun x => [(7, .int .i64 (.nat x.1)), (4, .osl 5 6 (x.1 + 1) (.cmp .eql (.nat x.1) (.lit 0)) (.lit 0) (.nat x.1))])
        (fun x => [.cells [.slm 1 nb u8C secret], .cells [.int .i64 (.lit 0)], .cells [.int .i64 (.lit 2)], .cells [.int .i64 (.var many)], .cells [.slm 1 nb' u8C coins], .cells [.slm 1 none pairC cur], .row 39 5 (x.1 + 1) (.map ShareD.c x.2)]) (fun x => x.1 ≤ mn ∧ x.2 = (List.range x.1).map shA) (fun x => mn - x.1) (0, []) ⟨by simp, rfl⟩ (fun _ => by simp) ⟨?_, ?_, rfl⟩ ?_
      · (cbv; (repeat' (first | exact SnD.refl _ | exact trivial | exact SnD.nat0 | refine And.intro ?_ ?_)))
        exact osl_start
      · (cbv; (repeat' (first | exact trivial | exact BkEq.refl _ | exact SnD.refl _ | exact SnDs.nil | refine BkEq.cells ?_ | refine SnDs.cons ?_ ?_ | refine And.intro ?_ ?_)))
        exact .row rfl
      · intro ⟨k, acc⟩ ⟨hk, hacc⟩
        replace hk : k ≤ mn := hk
        replace hacc : acc = (List.range k).map shA := hacc
        cbv
        have hcl : acc.length = k := by rw [hacc]; simp
        refine SplitP.mk (fun hs => ?_) (fun hs => ?_) <;> simp only [BE.lss_t, BE.lss_f, BE.leq_t, BE.leq_f, BE.gtr_t, BE.gtr_f, BE.geq_t, BE.geq_f, BE.eql_t, BE.eql_f, BE.neq_t, BE.neq_f, BE.not_t, BE.not_f, BE.var_d, BE.lit_d, BE.seq_t, BE.seq_f, BE.beq_t, BE.beq_f, IE.var_d, IE.lit_d, IE.nat_d, IE.len_d, IE.sum_d, IE.u8_d, ncast, Int.ofNat_lt, Int.ofNat_le, Int.ofNat_inj] at hs
        · have hlt : k < mn := by ((try simp only [ncast] at *); omega)
          clear hs
          refine CallP.post ?_
          refine (CallP.inl hT hm (hP ▸ Try.func54) rfl (by kernel_rfl) (rs := [.cell 7 39]) rfl (by kernel_rfl) ?_)
          unfold Try.f54
          dsimp only
          cbv
          refine (CallP.inl hT hm (hP ▸ Try.func55) rfl (by kernel_rfl) (rs := [.tmp 4]) rfl (by kernel_rfl) ?_)
          unfold Try.f55
          dsimp only
          cbv
          refine CodeP.virt 4 5 1 rfl ?_
          obtain ⟨at_, hat⟩ : ∃ a : BitVec 8, a = BitVec.ofInt 8 ((k : Int) + 1) := ⟨_, rfl⟩
          refine CodeP.loopm hT hm (X := Nat × List (BitVec 8)) (fun x => [(7, .int .i64 (.nat x.1)), (4, .osl 1 9 (x.1 + 1) (.cmp .eql (.nat x.1) (.lit 0)) (.lit 0) (.nat x.1))])
            (fun x => [.cells [.slm 1 nb u8C secret], .cells [.int .i64 (.lit 0)], .cells [.int .i64 (.lit 2)], .cells [.int .i64 (.var many)], .cells [.slm 1 nb' u8C coins], .cells [.slm 1 none pairC cur], .row 39 5 (k + 1) (.map ShareD.c acc), .cells [.int .i64 (.nat k)], .cells [.int .i64 (.lit 0), .int .i64 (.lit 0), .int .i64 (.lit 0), .int .i64 (.lit 0), .nils], .row 5 1 (x.1 + 1) (.map u8C x.2)]) (fun x => x.1 ≤ 32 ∧ x.2 = (cur.take x.1).map fun p => gm p.1 p.2 at_) (fun x => 32 - x.1) (0, []) ⟨by simp, rfl⟩ (fun _ => by simp) ⟨?_, ?_, rfl⟩ ?_
          · (cbv; (repeat' (first | exact SnD.refl _ | exact trivial | exact SnD.nat0 | refine And.intro ?_ ?_)))
            exact osl_start
          · (cbv; (repeat' (first | exact trivial | exact BkEq.refl _ | exact SnD.refl _ | exact SnDs.nil | refine BkEq.cells ?_ | refine SnDs.cons ?_ ?_ | refine And.intro ?_ ?_)))
            exact .row rfl
          · intro ⟨j, bs⟩ ⟨hj, hbs⟩
            replace hj : j ≤ 32 := hj
            replace hbs : bs = (cur.take j).map fun p => gm p.1 p.2 at_ := hbs
            cbv
            have hbl : bs.length = j := by rw [hbs, List.length_map, List.length_take]; omega
            refine SplitP.mk (fun hs2 => ?_) (fun hs2 => ?_)
            · have hkn : j < secret.length := by
                have h5 : decide ((j : Int) < (secret.length : Int)) = true := hs2
                have := of_decide_eq_true h5
                omega
              clear hs2
              refine (CallP.inl hT hm (hP ▸ Try.func56) rfl (by kernel_rfl) (rs := [.tmp 4]) rfl (by kernel_rfl) ?_)
              unfold Try.f56
              dsimp only
              cbv
              refine ElemP.mk (by show (0 : Int) ≤ (j : Int) ∧ (j : Int) < (cur.length : Int); omega) (fun p hp => ?_)
              replace hp : cur[j]? = some p := hp
              obtain ⟨s, c⟩ := p
              cbv
              refine PureP.mk _ (Pure.args (.cons (.refl _) (.cons (.byte (b := at_) ?_) .nil)) (hEv2 s c at_)) rfl ?_
              · rw [hat, show (IE.conv .u8 (.bin .add .i64 (.nat k) (.lit 1))).den = (IE.conv .u8 (.var ((k : Int) + 1))).den from congrArg IntKind.u8.wrap (add64 (by show _ ≤ (k : Int) + 1; omega) (by show (k : Int) + 1 ≤ _; omega))]
                exact conv8 _
              cbv
              refine ReqP.mk (app_ok hbl (by omega) (fun _ => rfl) rfl (by decide)) (fun _ => ?_)
              cbv
              obtain ⟨z, hz⟩ : ∃ z, z = gm s c at_ := ⟨_, rfl⟩
              obtain ⟨bs', hbs'⟩ : ∃ cur', cur' = bs ++ [gm s c at_] := ⟨_, rfl⟩
              refine BackP.intro (j + 1, bs') ⟨by show j + 1 ≤ 32; omega, ?_⟩ (by show 32 - (j + 1) < 32 - j; omega) ⟨?_, ?_, rfl⟩
              · show bs' = (cur.take (j + 1)).map fun p => gm p.1 p.2 at_
                rw [hbs', hbs, List.take_add_one, hp]
                simp
              · (cbv; (repeat' (first | exact SnD.refl _ | exact trivial | exact SnD.nat0 | refine And.intro ?_ ?_)))
                · exact .inc (by omega)
                · exact osl_step j
              · (cbv; (repeat' (first | exact trivial | exact BkEq.refl _ | exact SnD.refl _ | exact SnDs.nil | refine BkEq.cells ?_ | refine SnDs.cons ?_ ?_ | refine And.intro ?_ ?_)))
                exact row_app (gm s c at_) hbs' (.cons (.refl _) .nil)
            · have hkn : secret.length ≤ j := by
                have h5 : decide ((j : Int) < (secret.length : Int)) = false := hs2
                have := of_decide_eq_false h5
                omega
              clear hs2
              have hj2 : j = 32 := by omega
              have hbs3 : bs = cur.map fun p => gm p.1 p.2 at_ := by rw [hbs, hj2, ← hpl, List.take_length]
              refine ⟨.agg (ShareD.c (shA k)), [.cells [.slm 1 nb u8C secret], .cells [.int .i64 (.lit 0)], .cells [.int .i64 (.lit 2)], .cells [.int .i64 (.var many)], .cells [.slm 1 nb' u8C coins], .cells [.slm 1 none pairC cur], .row 39 5 (k + 1) (.map ShareD.c acc)], ?_, ?_, ?_, ?_, ?_⟩
              · rw [hsh, ← hat, ← hbs3]
                refine .aggs (.cons (.eq (.int rfl)) (.cons (.eq (.int ?_)) (.cons (.eq (.int rfl)) (.cons (.refl _) (.cons (.slm rfl (.inl ⟨_, _, rfl, rfl⟩) rfl ?_ (fun e h => ?_)) .nil)))))
                · exact add64 (by show _ ≤ (k : Int) + 1; omega) (by show (k : Int) + 1 ≤ _; omega)
                · show (j : Int) = (bs.length : Int)
                  omega
                · cases h
                  show (false : Bool) = decide ((j : Int) = 0)
                  exact (decide_eq_false (by omega)).symm
              · (cbv; (repeat' (first | exact trivial | exact BkEq.refl _ | exact SnD.refl _ | exact SnDs.nil | refine BkEq.cells ?_ | refine SnDs.cons ?_ ?_ | refine And.intro ?_ ?_)))
              · simp
              · rw [hsh]; rfl
              obtain ⟨sk, hsk⟩ : ∃ sk, sk = shA k := ⟨_, rfl⟩
              rw [← hsk]
              obtain ⟨acc', hacc'⟩ : ∃ acc', acc' = acc ++ [sk] := ⟨_, rfl⟩
              have hacc2 : acc' = (List.range (k + 1)).map shA := by rw [hacc', hacc, hsk, List.range_succ]; simp
              clear hsk hacc hbs hbs3 hj hj2 hbl hkn hat
              obtain ⟨e0, i0, t0, m0, n0, d0⟩ := sk
              cbv
              refine ReqP.mk (app_ok hcl (by omega) (fun _ => rfl) rfl (by decide)) (fun _ => ?_)
              cbv
              refine BackP.intro (k + 1, acc') ⟨by show k + 1 ≤ mn; omega, hacc2⟩ (by show mn - (k + 1) < mn - k; omega) ⟨?_, ?_, rfl⟩
              · (cbv; (repeat' (first | exact SnD.refl _ | exact trivial | exact SnD.nat0 | refine And.intro ?_ ?_)))
                · exact .inc (by omega)
                · exact osl_step k
              · (cbv; (repeat' (first | exact trivial | exact BkEq.refl _ | exact SnD.refl _ | exact SnDs.nil | refine BkEq.cells ?_ | refine SnDs.cons ?_ ?_ | refine And.intro ?_ ?_)))
                exact row_app _ hacc' (DsEq.refl _)
        · have hk2 : k = mn := by ((try simp only [ncast] at *); omega)
          subst hk2
          refine .mk (.cons (.slm rfl (.inl ⟨_, _, rfl, ?_⟩) rfl ?_ (fun e h => by cases h)) (.cons (.eq (.int hre0.symm)) .nil)) rfl
          · show acc.map ShareD.c = rl.map ShareD.c
            rw [hacc, hrl0]
          · show (k : Int) = (rl.length : Int)
            rw [hrl0]
            simp
end Go.Proofs.Ytbmcepkccenoaaa
namespace Go.Proofs.Ytbmcepkccenoaaa
open Go.RowKit

/-! testamurref07.Mul: the same product. -/
def rp1 (a b : Nat) : Nat → Nat
  | 0 => 0
  | k + 1 => if b.testBit k then rp1 a b k ^^^ (a <<< k) else rp1 a b k
def rp2 (p : Nat) : Nat → Nat
  | 0 => p
  | m + 1 => if (rp2 p m).testBit (14 - m) then rp2 p m ^^^ (283 <<< (6 - m)) else rp2 p m
def rmul (a b : BitVec 8) : BitVec 8 := BitVec.ofNat 8 (rp2 (rp1 a.toNat b.toNat 8) 7)
theorem rp1_lt (a b : Nat) (ha : a < 256) : ∀ k, k ≤ 8 → rp1 a b k < 65536
  | 0, _ => by simp [rp1]
  | k + 1, hk => by
    have ih := rp1_lt a b ha k (by omega)
    unfold rp1
    split
    · refine Nat.xor_lt_two_pow (n := 16) ih ?_
      rw [Nat.shiftLeft_eq]
      have : 2 ^ k ≤ 2 ^ 7 := Nat.pow_le_pow_right (by omega) (by omega)
      calc a * 2 ^ k ≤ 255 * 2 ^ 7 := Nat.mul_le_mul (by omega) this
        _ < 65536 := by decide
    · exact ih
theorem rp2_lt (p : Nat) (hp : p < 65536) : ∀ m, m ≤ 7 → rp2 p m < 65536
  | 0, _ => hp
  | m + 1, hm => by
    have ih := rp2_lt p hp m (by omega)
    unfold rp2
    split
    · refine Nat.xor_lt_two_pow (n := 16) ih ?_
      rw [Nat.shiftLeft_eq]
      have : 2 ^ (6 - m) ≤ 2 ^ 6 := Nat.pow_le_pow_right (by omega) (by omega)
      calc 283 * 2 ^ (6 - m) ≤ 283 * 2 ^ 6 := Nat.mul_le_mul (by omega) this
        _ < 65536 := by decide
    · exact ih
theorem ofInt64 (n : Nat) (h : n < 65536) : (BitVec.ofInt 64 (n : Int)).toNat = n := by
  simp
  omega
theorem i64_xor (p q : Nat) (hp : p < 65536) (hq : q < 65536) : binDen .xor .i64 (p : Int) (q : Int) = ((p ^^^ q : Nat) : Int) := by
  have h := Nat.xor_lt_two_pow (n := 16) hp hq
  simp only [binDen, IntKind.bits]
  show IntKind.i64.wrap (((BitVec.ofInt 64 (p : Int) ^^^ BitVec.ofInt 64 (q : Int)).toNat : Nat) : Int) = _
  rw [BitVec.toNat_xor, ofInt64 p hp, ofInt64 q hq]
  exact w64 (by omega) (by omega)
theorem i64_shl (a k : Nat) (ha : a < 512) (hk : k ≤ 8) : binDen .shl .i64 (a : Int) (k : Int) = ((a <<< k : Nat) : Int) := by
  simp only [binDen, IntKind.bits]
  rw [show min (k : Int).toNat 64 = k by omega, Nat.shiftLeft_eq]
  have h1 : a * 2 ^ k ≤ 512 * 2 ^ 8 := Nat.mul_le_mul (by omega) (Nat.pow_le_pow_right (by omega) hk)
  have h2 : (a : Int) * 2 ^ k = ((a * 2 ^ k : Nat) : Int) := by push_cast; rfl
  rw [h2]
  exact w64 (by omega) (by omega)
theorem bit_i64 (b k : Nat) (hk : k ≤ 64) : (cmpDen .eql (binDen .rem .i64 (binDen .shr .i64 (b : Int) (k : Int)) 2) 1) = b.testBit k := by
  simp only [binDen, IntKind.bits, cmpDen]
  rw [show min (k : Int).toNat 64 = k by omega]
  have h1 : (b : Int).fdiv (2 ^ k) = ((b >>> k : Nat) : Int) := by
    rw [Int.fdiv_eq_ediv_of_nonneg _ (Int.le_of_lt (Int.pow_pos (by decide))), Nat.shiftRight_eq_div_pow]
    norm_cast
  rw [h1]
  have h2 : ((b >>> k : Nat) : Int).tmod 2 = (((b >>> k) % 2 : Nat) : Int) := rfl
  rw [h2]
  unfold Nat.testBit
  rw [Nat.and_comm, Nat.and_one_is_mod]
  rcases Nat.mod_two_eq_zero_or_one (b >>> k) with h | h <;> rw [h] <;> rfl
end Go.Proofs.Ytbmcepkccenoaaa
namespace Go.Proofs.Ytbmcepkccenoaaa
open Go.RowKit

/-! The laws of the field, from its linearity. -/
def Lin (f : BitVec 8 → BitVec 8) : Prop := ∀ a b, f (a ^^^ b) = f a ^^^ f b
theorem Lin.zero {f : BitVec 8 → BitVec 8} (h : Lin f) : f 0#8 = 0#8 := by
  have := h 0#8 0#8
  rw [BitVec.xor_self] at this
  rw [this, BitVec.xor_self]
def sel (a : BitVec 8) (i : Nat) : BitVec 8 := if a.getLsbD i then 1#8 <<< i else 0#8
theorem bits8 : ∀ a : BitVec 8, a = sel a 0 ^^^ sel a 1 ^^^ sel a 2 ^^^ sel a 3 ^^^ sel a 4 ^^^ sel a 5 ^^^ sel a 6 ^^^ sel a 7 := by decide +kernel
theorem lin_ext {f g : BitVec 8 → BitVec 8} (hf : Lin f) (hg : Lin g) (h : ∀ i, i < 8 → f (1#8 <<< i) = g (1#8 <<< i)) (a : BitVec 8) : f a = g a := by
  have one : ∀ i, i < 8 → f (sel a i) = g (sel a i) := fun i hi => by
    unfold sel
    split
    · exact h i hi
    · rw [hf.zero, hg.zero]
  rw [bits8 a, hf, hf, hf, hf, hf, hf, hf, hg, hg, hg, hg, hg, hg, hg, one 0 (by omega), one 1 (by omega), one 2 (by omega), one 3 (by omega), one 4 (by omega), one 5 (by omega), one 6 (by omega), one 7 (by omega)]
theorem xor4 (a b c d : BitVec 8) : (a ^^^ b) ^^^ (c ^^^ d) = (a ^^^ c) ^^^ (b ^^^ d) := by
  rw [BitVec.xor_assoc, ← BitVec.xor_assoc b c d, BitVec.xor_comm b c, BitVec.xor_assoc c b d, ← BitVec.xor_assoc]
theorem gmulN_add (a b c : BitVec 8) : ∀ k, gmulN a (b ^^^ c) k = gmulN a b k ^^^ gmulN a c k
  | 0 => by simp [gmulN]
  | k + 1 => by
    simp only [gmulN, BitVec.getLsbD_xor, gmulN_add a b c k]
    cases b.getLsbD k <;> cases c.getLsbD k <;> simp only [Bool.xor_false, Bool.xor_true, Bool.false_xor, Bool.not_true, Bool.not_false, if_true, if_false, Bool.false_eq_true]
    · rw [BitVec.xor_assoc]
    · rw [BitVec.xor_assoc, BitVec.xor_assoc]; congr 1; rw [BitVec.xor_comm]
    · rw [xor4, BitVec.xor_self, BitVec.xor_zero]
theorem gmul_lin (a : BitVec 8) : Lin (gmul a) := fun b c => gmulN_add a b c 8
theorem xt_alt : ∀ a : BitVec 8, xt a = (a <<< 1) ^^^ (if a.getLsbD 7 then 27#8 else 0#8) := by decide +kernel
theorem xt_lin : Lin xt := fun a b => by
  rw [xt_alt, xt_alt, xt_alt, BitVec.getLsbD_xor, BitVec.shiftLeft_xor_distrib]
  rw [xor4]
  congr 1
  cases a.getLsbD 7 <;> cases b.getLsbD 7 <;> rfl
theorem xtn_lin : ∀ k, Lin fun a => xtn a k
  | 0 => fun a b => rfl
  | k + 1 => fun a b => by
    show xt (xtn (a ^^^ b) k) = xt (xtn a k) ^^^ xt (xtn b k)
    have h : xtn (a ^^^ b) k = xtn a k ^^^ xtn b k := xtn_lin k a b
    rw [h, xt_lin]
theorem gmulN_add' (a b c : BitVec 8) : ∀ k, gmulN (a ^^^ b) c k = gmulN a c k ^^^ gmulN b c k
  | 0 => by simp [gmulN]
  | k + 1 => by
    have := xtn_lin k a b
    simp only at this
    simp only [gmulN, gmulN_add' a b c k, this]
    split
    · rw [xor4]
    · rfl
theorem gmul_lin' (c : BitVec 8) : Lin fun a => gmul a c := fun a b => gmulN_add' a b c 8
theorem gmul_add (a b c : BitVec 8) : gmul a (b ^^^ c) = gmul a b ^^^ gmul a c := gmul_lin a b c
theorem gmul_add' (a b c : BitVec 8) : gmul (a ^^^ b) c = gmul a c ^^^ gmul b c := gmul_lin' c a b
theorem Lin.comp {f g : BitVec 8 → BitVec 8} (hf : Lin f) (hg : Lin g) : Lin fun a => f (g a) := fun a b => by
  show f (g (a ^^^ b)) = _
  rw [hg, hf]
theorem comm_basis : ∀ i, i < 8 → ∀ j, j < 8 → gmul (1#8 <<< i) (1#8 <<< j) = gmul (1#8 <<< j) (1#8 <<< i) := by decide +kernel
theorem gmul_comm (a b : BitVec 8) : gmul a b = gmul b a := by
  refine lin_ext (f := fun a => gmul a b) (g := gmul b) (gmul_lin' b) (gmul_lin b) (fun i hi => ?_) a
  refine lin_ext (f := gmul (1#8 <<< i)) (g := fun b => gmul b (1#8 <<< i)) (gmul_lin _) (gmul_lin' _) (fun j hj => ?_) b
  exact comm_basis i hi j hj
theorem assoc_basis : ∀ i, i < 8 → ∀ j, j < 8 → ∀ k, k < 8 → gmul (gmul (1#8 <<< i) (1#8 <<< j)) (1#8 <<< k) = gmul (1#8 <<< i) (gmul (1#8 <<< j) (1#8 <<< k)) := by decide +kernel
theorem gmul_assoc (a b c : BitVec 8) : gmul (gmul a b) c = gmul a (gmul b c) := by
  refine lin_ext (f := fun a => gmul (gmul a b) c) (g := fun a => gmul a (gmul b c)) (Lin.comp (gmul_lin' c) (gmul_lin' b)) (gmul_lin' _) (fun i hi => ?_) a
  refine lin_ext (f := fun b => gmul (gmul (1#8 <<< i) b) c) (g := fun b => gmul (1#8 <<< i) (gmul b c)) (Lin.comp (gmul_lin' c) (gmul_lin _)) (Lin.comp (gmul_lin _) (gmul_lin' c)) (fun j hj => ?_) b
  refine lin_ext (f := gmul (gmul (1#8 <<< i) (1#8 <<< j))) (g := fun c => gmul (1#8 <<< i) (gmul (1#8 <<< j) c)) (gmul_lin _) (Lin.comp (gmul_lin _) (gmul_lin _)) (fun k hk => ?_) c
  exact assoc_basis i hi j hj k hk
theorem g_one : ∀ x : BitVec 8, gmul 1#8 x = x := fun x => lin_ext (f := gmul 1#8) (g := fun x => x) (gmul_lin _) (fun _ _ => rfl) (by decide +kernel) x
theorem g_one' (x : BitVec 8) : gmul x 1#8 = x := by rw [gmul_comm, g_one]
theorem pw_add (a : BitVec 8) (m : Nat) : ∀ n, pw a (m + n) = gmul (pw a m) (pw a n)
  | 0 => by simp only [Nat.add_zero, pw]; exact (g_one' _).symm
  | n + 1 => by
    show gmul (pw a (m + n)) a = gmul (pw a m) (gmul (pw a n) a)
    rw [pw_add a m n, gmul_assoc]
/-- the power 254 by squaring -/
def inv13 (a : BitVec 8) : BitVec 8 :=
  let p2 := gmul a a
  let p3 := gmul p2 a
  let p6 := gmul p3 p3
  let p7 := gmul p6 a
  let p14 := gmul p7 p7
  let p15 := gmul p14 a
  let p30 := gmul p15 p15
  let p31 := gmul p30 a
  let p62 := gmul p31 p31
  let p63 := gmul p62 a
  let p126 := gmul p63 p63
  let p127 := gmul p126 a
  gmul p127 p127
theorem ginv_eq (a : BitVec 8) : ginv a = inv13 a := by
  have h1 : pw a 1 = a := g_one a
  have h2 : pw a 2 = gmul a a := by rw [show 2 = 1 + 1 from rfl, pw_add, h1]
  have h3 : pw a 3 = gmul (gmul a a) a := by rw [show 3 = 2 + 1 from rfl, pw_add, h1, h2]
  have d : ∀ m x, pw a m = x → pw a (m + m) = gmul x x := fun m x h => by rw [pw_add, h]
  have s : ∀ m x, pw a m = x → pw a (m + 1) = gmul x a := fun m x h => by rw [pw_add, h, h1]
  have h6 := d 3 _ h3
  have h7 := s 6 _ h6
  have h14 := d 7 _ h7
  have h15 := s 14 _ h14
  have h30 := d 15 _ h15
  have h31 := s 30 _ h30
  have h62 := d 31 _ h31
  have h63 := s 62 _ h62
  have h126 := d 63 _ h63
  have h127 := s 126 _ h126
  exact d 127 _ h127
theorem inv13_mul : ∀ a : BitVec 8, a ≠ 0#8 → gmul a (inv13 a) = 1#8 := by decide +kernel
theorem gmul_inv {a : BitVec 8} (h : a ≠ 0#8) : gmul a (ginv a) = 1#8 := by rw [ginv_eq]; exact inv13_mul a h
theorem inv_unique {a b : BitVec 8} (h : gmul a b = 1#8) (ha : a ≠ 0#8) : b = ginv a := by
  have h1 := gmul_inv ha
  calc b = gmul 1#8 b := (g_one b).symm
    _ = gmul (gmul a (ginv a)) b := by rw [h1]
    _ = gmul (ginv a) (gmul a b) := by rw [gmul_comm a (ginv a), gmul_assoc]
    _ = ginv a := by rw [h, g_one']
end Go.Proofs.Ytbmcepkccenoaaa
namespace Go.Proofs.Ytbmcepkccenoaaa
open Go.RowKit

/-! testamurref07: Mul, Inv, over, Eval, Points, Through. -/
theorem xor4n (a b c d : Nat) : (a ^^^ b) ^^^ (c ^^^ d) = (a ^^^ c) ^^^ (b ^^^ d) := by
  rw [Nat.xor_assoc, ← Nat.xor_assoc b c d, Nat.xor_comm b c, Nat.xor_assoc c b d, ← Nat.xor_assoc]
theorem rp1_left (a a' b : Nat) : ∀ k, rp1 (a ^^^ a') b k = rp1 a b k ^^^ rp1 a' b k
  | 0 => by simp [rp1]
  | k + 1 => by
    simp only [rp1, rp1_left a a' b k, Nat.shiftLeft_xor_distrib]
    split
    · rw [xor4n]
    · rfl
theorem rp1_right (a b b' : Nat) : ∀ k, rp1 a (b ^^^ b') k = rp1 a b k ^^^ rp1 a b' k
  | 0 => by simp [rp1]
  | k + 1 => by
    simp only [rp1, rp1_right a b b' k, Nat.testBit_xor]
    cases b.testBit k <;> cases b'.testBit k <;> simp only [Bool.xor_false, Bool.xor_true, Bool.false_xor, Bool.not_true, Bool.not_false, if_true, if_false, Bool.false_eq_true]
    · rw [Nat.xor_assoc]
    · rw [Nat.xor_assoc, Nat.xor_assoc]; congr 1; rw [Nat.xor_comm]
    · rw [xor4n, Nat.xor_self, Nat.xor_zero]
theorem rp2_xor (p q : Nat) : ∀ m, rp2 (p ^^^ q) m = rp2 p m ^^^ rp2 q m
  | 0 => rfl
  | m + 1 => by
    simp only [rp2, rp2_xor p q m, Nat.testBit_xor]
    cases (rp2 p m).testBit (14 - m) <;> cases (rp2 q m).testBit (14 - m) <;> simp only [Bool.xor_false, Bool.xor_true, Bool.false_xor, Bool.not_true, Bool.not_false, if_true, if_false, Bool.false_eq_true]
    · rw [Nat.xor_assoc]
    · rw [Nat.xor_assoc, Nat.xor_assoc]; congr 1; rw [Nat.xor_comm]
    · rw [xor4n, Nat.xor_self, Nat.xor_zero]
theorem ofNat_xor8 (p q : Nat) : BitVec.ofNat 8 (p ^^^ q) = BitVec.ofNat 8 p ^^^ BitVec.ofNat 8 q := by
  apply BitVec.eq_of_getLsbD_eq
  intro i hi
  simp [hi]
theorem rmul_basis : ∀ i, i < 8 → ∀ j, j < 8 → rmul (1#8 <<< i) (1#8 <<< j) = gmul (1#8 <<< i) (1#8 <<< j) := by decide +kernel
theorem rmul_lin (a : BitVec 8) : Lin (rmul a) := fun b c => by
  unfold rmul
  rw [BitVec.toNat_xor, rp1_right, rp2_xor, ofNat_xor8]
theorem rmul_lin' (b : BitVec 8) : Lin fun a => rmul a b := fun a c => by
  show rmul (a ^^^ c) b = rmul a b ^^^ rmul c b
  unfold rmul
  rw [BitVec.toNat_xor, rp1_left, rp2_xor, ofNat_xor8]
theorem rmul_eq (a b : BitVec 8) : rmul a b = gmul a b := by
  refine lin_ext (f := fun a => rmul a b) (g := fun a => gmul a b) (rmul_lin' b) (gmul_lin' b) (fun i hi => ?_) a
  refine lin_ext (f := rmul (1#8 <<< i)) (g := gmul (1#8 <<< i)) (rmul_lin _) (gmul_lin _) (fun j hj => ?_) b
  exact rmul_basis i hi j hj
set_option maxRecDepth 100000 in
set_option maxHeartbeats 4000000 in
theorem RMul_pure (a b : BitVec 8) : Pure Try.prog 82 [u8D a, u8D b] (u8D (gmul a b)) := by
  obtain ⟨r, hr⟩ : ∃ r, r = gmul a b := ⟨_, rfl⟩
  rw [← hr]
  obtain ⟨na, hna⟩ : ∃ n : Nat, n = a.toNat := ⟨_, rfl⟩
  obtain ⟨nb, hnb⟩ : ∃ n : Nat, n = b.toNat := ⟨_, rfl⟩
  have ha : na < 256 := by rw [hna]; exact a.isLt
  have hb : nb < 256 := by rw [hnb]; exact b.isLt
  refine Pure.intro (want := [u8D r]) T_ok follows Try.func82 rfl (by kernel_rfl) (rs := [.tmp 4]) rfl (by kernel_rfl) ?_
  generalize hP : Try.prog = P
  have hT : T.ok P := hP ▸ T_ok
  have hm : P.follows .mixedOrders = true := hP ▸ follows
  unfold Try.f82
  dsimp only
  cbv
  refine CodeP.loopc hT hm (X := Nat × Nat) (fun x => [(6, .int .i64 (.nat x.1)), (5, .int .i64 (.nat x.2))]) (fun x => x.1 ≤ 8 ∧ x.2 = rp1 na nb x.1) (fun x => 8 - x.1) (0, 0) ⟨by simp, rfl⟩ (Nat.zero_le _) ?_ rfl ?_
  · (cbv; (repeat' (first | exact SnD.refl _ | exact trivial | exact SnD.nat0 | refine And.intro ?_ ?_)))
  intro ⟨k, p⟩ ⟨hk, hp⟩
  replace hk : k ≤ 8 := hk
  replace hp : p = rp1 na nb k := hp
  cbv
  refine SplitP.mk (fun hs => ?_) (fun hs => ?_)
  · have hk8 : k < 8 := by
      have h : decide ((k : Int) < 8) = true := hs
      have := of_decide_eq_true h
      omega
    refine ReqP.mk (by show (0 : Int) ≤ (k : Int); omega) (fun _ => ?_)
    cbv
    have hconv : IntKind.i64.wrap (b.toNat : Int) = (nb : Int) := by rw [← hnb]; exact w64 (by omega) (by omega)
    have hcond : ∀ c : Bool, (BE.cmp .eql (.bin .rem .i64 (.bin .shr .i64 (.conv .i64 (.u8 b)) (.nat k)) (.lit 2)) (.lit 1)).den = c → nb.testBit k = c := fun c hc => by
      rw [← hc]
      show _ = cmpDen .eql (binDen .rem .i64 (binDen .shr .i64 (IntKind.i64.wrap (b.toNat : Int)) (k : Int)) 2) 1
      rw [hconv, bit_i64 nb k (by omega)]
    refine SplitP.mk (fun hs2 => ?_) (fun hs2 => ?_)
    · have hb1 := hcond _ hs2
      obtain ⟨p', hp'⟩ : ∃ p', p' = p ^^^ (na <<< k) := ⟨_, rfl⟩
      refine ReqP.mk (by show (0 : Int) ≤ (k : Int); omega) (fun _ => ?_)
      cbv
      refine BackP.intro (k + 1, p') ⟨by show k + 1 ≤ 8; omega, ?_⟩ (by show 8 - (k + 1) < 8 - k; omega) ⟨?_, HEnt.refl _, rfl⟩
      · show p' = rp1 na nb (k + 1)
        rw [hp', hp]
        simp only [rp1, hb1, if_true]
      · (cbv; (repeat' (first | exact SnD.refl _ | exact trivial | exact SnD.nat0 | refine And.intro ?_ ?_)))
        · exact .inc (by omega)
        · refine .eq (.int ?_)
          show binDen .xor .i64 (p : Int) (binDen .shl .i64 (IntKind.i64.wrap (a.toNat : Int)) (k : Int)) = (p' : Int)
          have hconv2 : IntKind.i64.wrap (a.toNat : Int) = (na : Int) := by rw [← hna]; exact w64 (by omega) (by omega)
          have hsh : na <<< k < 65536 := by
            rw [Nat.shiftLeft_eq]
            have : 2 ^ k ≤ 2 ^ 7 := Nat.pow_le_pow_right (by omega) (by omega)
            calc na * 2 ^ k ≤ 255 * 2 ^ 7 := Nat.mul_le_mul (by omega) this
              _ < 65536 := by decide
          rw [hconv2, i64_shl na k (by omega) hk, i64_xor p (na <<< k) (by rw [hp]; exact rp1_lt na nb ha k hk) hsh, hp']
    · have hb1 := hcond _ hs2
      refine BackP.intro (k + 1, p) ⟨by show k + 1 ≤ 8; omega, ?_⟩ (by show 8 - (k + 1) < 8 - k; omega) ⟨?_, HEnt.refl _, rfl⟩
      · show p = rp1 na nb (k + 1)
        rw [hp]
        simp only [rp1, hb1, Bool.false_eq_true, if_false]
      · (cbv; (repeat' (first | exact SnD.refl _ | exact trivial | exact SnD.nat0 | refine And.intro ?_ ?_)))
        exact .inc (by omega)
  have hk8 : k = 8 := by
    have h : decide ((k : Int) < 8) = false := hs
    have := of_decide_eq_false h
    omega
  subst hk8
  have hp16 : p < 65536 := by rw [hp]; exact rp1_lt na nb ha 8 (by omega)
  refine CodeP.loopc hT hm (X := Nat × Nat) (fun x => [(7, .int .i64 (.dif (.lit 14) (.nat x.1))), (5, .int .i64 (.nat x.2))]) (fun x => x.1 ≤ 7 ∧ x.2 = rp2 p x.1) (fun x => 7 - x.1) (0, p) ⟨by simp, rfl⟩ (Nat.zero_le _) ?_ rfl ?_
  · (cbv; (repeat' (first | exact SnD.refl _ | exact trivial | exact SnD.nat0 | refine And.intro ?_ ?_)))
    exact .eq (.int rfl)
  intro ⟨m, q⟩ ⟨hm7, hq⟩
  replace hm7 : m ≤ 7 := hm7
  replace hq : q = rp2 p m := hq
  have hq16 : q < 65536 := by rw [hq]; exact rp2_lt p hp16 m hm7
  cbv
  refine SplitP.mk (fun hs2 => ?_) (fun hs2 => ?_)
  · have hm6 : m < 7 := by
      have h : decide ((14 : Int) - (m : Int) ≥ 8) = true := hs2
      have := of_decide_eq_true h
      omega
    have e14 : (14 : Int) - (m : Int) = ((14 - m : Nat) : Int) := by omega
    refine ReqP.mk (by show (0 : Int) ≤ (14 : Int) - (m : Int); omega) (fun _ => ?_)
    cbv
    have hcond : ∀ c : Bool, (BE.cmp .eql (.bin .rem .i64 (.bin .shr .i64 (.nat q) (.dif (.lit 14) (.nat m))) (.lit 2)) (.lit 1)).den = c → q.testBit (14 - m) = c := fun c hc => by
      rw [← hc]
      show _ = cmpDen .eql (binDen .rem .i64 (binDen .shr .i64 (q : Int) ((14 : Int) - (m : Int))) 2) 1
      rw [e14, bit_i64 q (14 - m) (by omega)]
    refine SplitP.mk (fun hs3 => ?_) (fun hs3 => ?_)
    · have hb1 := hcond _ hs3
      obtain ⟨q', hq'⟩ : ∃ q', q' = q ^^^ (283 <<< (6 - m)) := ⟨_, rfl⟩
      have e6 : binDen .sub .i64 ((14 : Int) - (m : Int)) 8 = ((6 - m : Nat) : Int) := by rw [sub64 (by omega) (by omega)]; omega
      refine ReqP.mk (by show (0 : Int) ≤ binDen .sub .i64 ((14 : Int) - (m : Int)) 8; rw [e6]; omega) (fun _ => ?_)
      cbv
      refine BackP.intro (m + 1, q') ⟨by show m + 1 ≤ 7; omega, ?_⟩ (by show 7 - (m + 1) < 7 - m; omega) ⟨?_, HEnt.refl _, rfl⟩
      · show q' = rp2 p (m + 1)
        rw [hq', hq]
        rw [hq] at hb1
        simp only [rp2, hb1, if_true]
      · (cbv; (repeat' (first | exact SnD.refl _ | exact trivial | exact SnD.nat0 | refine And.intro ?_ ?_)))
        · refine .eq (.int ?_)
          show binDen .sub .i64 ((14 : Int) - (m : Int)) 1 = (14 : Int) - ((m + 1 : Nat) : Int)
          rw [sub64 (by omega) (by omega)]
          omega
        · refine .eq (.int ?_)
          show binDen .xor .i64 (q : Int) (binDen .shl .i64 283 (binDen .sub .i64 ((14 : Int) - (m : Int)) 8)) = (q' : Int)
          have hsh : 283 <<< (6 - m) < 65536 := by
            rw [Nat.shiftLeft_eq]
            have : 2 ^ (6 - m) ≤ 2 ^ 6 := Nat.pow_le_pow_right (by omega) (by omega)
            calc 283 * 2 ^ (6 - m) ≤ 283 * 2 ^ 6 := Nat.mul_le_mul (by omega) this
              _ < 65536 := by decide
          rw [e6, show (283 : Int) = ((283 : Nat) : Int) from rfl, i64_shl 283 (6 - m) (by omega) (by omega), i64_xor q _ hq16 hsh, hq']
    · have hb1 := hcond _ hs3
      refine BackP.intro (m + 1, q) ⟨by show m + 1 ≤ 7; omega, ?_⟩ (by show 7 - (m + 1) < 7 - m; omega) ⟨?_, HEnt.refl _, rfl⟩
      · show q = rp2 p (m + 1)
        rw [hq] at hb1
        rw [hq]
        simp only [rp2, hb1, Bool.false_eq_true, if_false]
      · (cbv; (repeat' (first | exact SnD.refl _ | exact trivial | exact SnD.nat0 | refine And.intro ?_ ?_)))
        refine .eq (.int ?_)
        show binDen .sub .i64 ((14 : Int) - (m : Int)) 1 = (14 : Int) - ((m + 1 : Nat) : Int)
        rw [sub64 (by omega) (by omega)]
        omega
  · have hm8 : m = 7 := by
      have h : decide ((14 : Int) - (m : Int) ≥ 8) = false := hs2
      have := of_decide_eq_false h
      omega
    subst hm8
    refine .mk (.cons (.eq (.int ?_)) .nil) rfl
    show IntKind.u8.wrap (q : Int) = (r.toNat : Int)
    rw [hr, ← rmul_eq, hq, hp, hna, hnb]
    unfold rmul
    rw [BitVec.toNat_ofNat]
    simp [IntKind.wrap, IntKind.signed, IntKind.bits]
end Go.Proofs.Ytbmcepkccenoaaa
