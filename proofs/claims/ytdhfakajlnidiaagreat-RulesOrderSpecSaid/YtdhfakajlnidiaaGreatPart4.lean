/- Part 4 of the walks and laws that these claims rest on. No condition. -/
import Derived.Test.YtdhfakajlnidiaaGreatPart3
set_option linter.all false
set_option linter.unusedSimpArgs false
set_option linter.unusedVariables false
set_option linter.unnecessarySimpa false
namespace Go.Proofs.YtdhfakajlnidiaaGreat
open Go.RowKit

/-! append to a slice of the call's own. -/
/-- the elements that are appended: how wide, which, how many -/
def elemsOf (H : List Bk) : D → Option (Nat × RE × IE)
  | .slm n _ c l => some (n, .map c l, .len l)
  | .sll n es => some (n, .lits es, .lit es.length)
  | .osl n b ver _ lo len => match H[b]?, lo with
    | some (.row _ n' ver' r), .lit 0 => if n' = n ∧ ver' = ver then some (n, r, len) else none
    | _, _ => none
  | _ => none
theorem elemsOf_rep {B : Base} {H : List Bk} {E : Env} {w : World} (hw : WRel B H E w) {x : D} {vx : Value} (hx : DRep w E x vx) {n : Nat} {r : RE} {m : IE} (he : elemsOf H x = some (n, r, m)) (hm : m.den = r.den.length) :
    ∃ (a : Option Addr) (c : Nat), vx = .slice a r.den.length c ∧ (r.den ≠ [] → ∃ b off, a = some ⟨b, off, none⟩ ∧ ∀ (i : Nat) e, r.den[i]? = some e → e.length = n ∧ ∀ (j : Nat) d, e[j]? = some d → ∃ v, w.cell? ⟨b, off + i * n + j, none⟩ = some v ∧ DRep w E.data d v) := by
  unfold elemsOf at he
  split at he
  · next α n' nb c l =>
    simp only [Option.some.injEq, Prod.mk.injEq] at he
    obtain ⟨rfl, rfl, rfl⟩ := he
    cases hx with | @slm _ _ _ _ _ _ a cap u hnb hc hmm hxx ha hh =>
    refine ⟨a, cap, by simp [RE.den], fun hne => ?_⟩
    obtain ⟨b, base, rfl, hG, hcell⟩ := ha (by intro e; subst e; exact hne rfl)
    refine ⟨b, base, rfl, fun i e hi => ?_⟩
    simp only [RE.den, List.getElem?_map, Option.map_eq_some_iff] at hi
    obtain ⟨y, hy, rfl⟩ := hi
    have hlen := hxx y (List.mem_of_getElem? hy)
    refine ⟨hlen, fun j d hd => ⟨u i j, hcell i j (List.getElem?_eq_some_iff.1 hy).1 (by rw [← hlen]; exact (List.getElem?_eq_some_iff.1 hd).1), hh i y j d hy hd⟩⟩
  · next n' es =>
    simp only [Option.some.injEq, Prod.mk.injEq] at he
    obtain ⟨rfl, rfl, rfl⟩ := he
    cases hx with | @sll _ _ _ a cap u hc hmm hxx ha hh =>
    obtain ⟨b, base, rfl, hG, hcell⟩ := ha
    refine ⟨_, cap, rfl, fun _ => ⟨b, base, rfl, fun i e hi => ?_⟩⟩
    have hlen := hxx e (List.mem_of_getElem? hi)
    exact ⟨hlen, fun j d hd => ⟨u i j, hcell i j (List.getElem?_eq_some_iff.1 hi).1 (by rw [← hlen]; exact (List.getElem?_eq_some_iff.1 hd).1), hh i e j d hi hd⟩⟩
  · next n' b ver nb lo len =>
    split at he
    · next ty n2 ver2 r2 hb =>
      split at he
      · next hc =>
        obtain ⟨rfl, rfl⟩ := hc
        simp only [Option.some.injEq, Prod.mk.injEq] at he
        obtain ⟨rfl, rfl, rfl⟩ := he
        cases hx with
        | @oslc _ _ _ _ _ _ _ cc mm cap hk hs hnb hl hn hc hmx hsz =>
          rcases hw.heap b _ hb with q | ⟨_, q2, _⟩
          · rw [q.2] at hs; cases hs
          · obtain ⟨cs, tt, _, g1, g2, g3, g4⟩ := q2 cc hs
            refine ⟨some ⟨cc, 0, none⟩, cap, ?_, fun _ => ⟨cc, 0, rfl, fun i e hi => ?_⟩⟩
            · have : mm = r2.den.length := by omega
              subst this
              simp [IE.den]
            · obtain ⟨k1, k2⟩ := g4 i e hi
              refine ⟨k1, fun j d hd => ?_⟩
              obtain ⟨v, k3, k4⟩ := k2 j d hd
              exact ⟨v, by rw [Nat.zero_add]; simp [World.cell?, g1, k3], k4⟩
        | osln hk hs hnb hl hn =>
          have : r2.den = [] := List.length_eq_zero_iff.1 (by omega)
          exact ⟨none, 0, by simp [this], fun h => absurd this h⟩
        | osls hk =>
          rcases hw.heap b _ hb with q | ⟨q, _⟩
          · omega
          · simp only [Bk.ver] at q; omega
      · cases he
    · cases he
  · cases he
/-- the cells of elements, one behind the other -/
theorem flat_cells {w : World} {E : Env} {n : Nat} {b off : Nat} {es : List (List D)} (h : ∀ (i : Nat) e, es[i]? = some e → e.length = n ∧ ∀ (j : Nat) d, e[j]? = some d → ∃ v, w.cell? ⟨b, off + i * n + j, none⟩ = some v ∧ DRep w E d v) (hcell : ∀ e ∈ es, e.all D.cellB = true) :
    ∃ news : List Value, news.length = es.length * n ∧ (∀ (j : Nat) u, news[j]? = some u → w.cell? ((⟨b, off, none⟩ : Addr).add j) = some u) ∧ (∀ u ∈ news, u.oneCell' = true) ∧
      ∀ (i : Nat) e, es[i]? = some e → ∀ (j : Nat) d, e[j]? = some d → ∃ v, news[i * n + j]? = some v ∧ DRep w E d v := by
  have at_ : ∀ k, k < es.length * n → ∃ v, w.cell? ⟨b, off + k, none⟩ = some v ∧ v.oneCell' = true := fun k hk => by
    have hn : 0 < n := by rcases Nat.eq_zero_or_pos n with q | q; subst q; simp at hk; exact q
    have hi : k / n < es.length := Nat.div_lt_of_lt_mul (by rw [Nat.mul_comm]; exact hk)
    obtain ⟨h1, h2⟩ := h (k / n) _ (List.getElem?_eq_getElem hi)
    have hj : k % n < (es[k / n]).length := by rw [h1]; exact Nat.mod_lt _ hn
    obtain ⟨v, h3, h4⟩ := h2 (k % n) _ (List.getElem?_eq_getElem hj)
    refine ⟨v, ?_, h4.one (List.all_eq_true.1 (hcell _ (List.getElem_mem hi)) _ (List.getElem_mem hj))⟩
    rw [← h3]
    have := Nat.div_add_mod k n
    rw [Nat.mul_comm] at this
    rw [show off + k = off + k / n * n + k % n by omega]
  refine ⟨(List.range (es.length * n)).map fun k => (w.cell? ⟨b, off + k, none⟩).getD undef, by simp, fun j u hu => ?_, fun u hu => ?_, fun i e hi j d hd => ?_⟩
  · simp only [List.getElem?_map, Option.map_eq_some_iff] at hu
    obtain ⟨k, hk, rfl⟩ := hu
    obtain ⟨hk1, hk2⟩ := List.getElem?_eq_some_iff.1 hk
    simp at hk1 hk2
    subst hk2
    obtain ⟨v, h3, _⟩ := at_ j hk1
    rw [Addr.add_mid, h3]
    rfl
  · simp only [List.mem_map, List.mem_range] at hu
    obtain ⟨k, hk, rfl⟩ := hu
    obtain ⟨v, h3, h4⟩ := at_ k hk
    rw [h3]
    exact h4
  · obtain ⟨h1, h2⟩ := h i e hi
    obtain ⟨v, h3, h4⟩ := h2 j d hd
    have hj : j < n := by rw [← h1]; exact (List.getElem?_eq_some_iff.1 hd).1
    have hil : i < es.length := (List.getElem?_eq_some_iff.1 hi).1
    have hlt : i * n + j < es.length * n := by
      have : (i + 1) * n ≤ es.length * n := Nat.mul_le_mul_right _ hil
      rw [Nat.add_mul, Nat.one_mul] at this
      omega
    refine ⟨v, ?_, h4⟩
    simp only [List.getElem?_map]
    rw [List.getElem?_range hlt]
    simp only [Option.map_some, Option.some.injEq]
    rw [show off + (i * n + j) = off + i * n + j by omega, h3]
    rfl
def RE.mkApps : RE → RE → RE
  | .lits a, .lits b => .lits (a ++ b)
  | r, .lits [e] => .app r e
  | r, s => .apps r s
theorem RE.mkApps_den (r s : RE) : (RE.mkApps r s).den = r.den ++ s.den := by
  unfold RE.mkApps
  split <;> simp [RE.den]
def litsOK (r : RE) (m : IE) : Bool := match r, m with
  | .lits es, .lit k => decide (k = es.length) && es.all (fun e => e.all D.cellB) && decide (es.length ≤ 1000000)
  | _, _ => false
theorem litsOK_spec {r : RE} {m : IE} (h : litsOK r m = true) : m.den = r.den.length ∧ (∀ e ∈ r.den, e.all D.cellB = true) ∧ m.den ≤ 1000000 := by
  unfold litsOK at h
  split at h
  · simp only [Bool.and_eq_true, decide_eq_true_eq, List.all_eq_true] at h
    obtain ⟨⟨h1, h2⟩, h3⟩ := h
    refine ⟨h1, fun e he => List.all_eq_true.2 (h2 e he), ?_⟩
    show _ ≤ _
    simp only [IE.den]
    omega
  · cases h
theorem small_bytes {m : Int} {b : Nat} (h : m ≤ 2000000) (hb : b ≤ 60000000) : m * (b : Int) ≤ 140737488355328 := by
  rcases Int.le_total 0 m with h0 | h0
  · have : m * (b : Int) ≤ 2000000 * 60000000 := Int.mul_le_mul h (by omega) (by omega) (by omega)
    omega
  · have : m * (b : Int) ≤ 0 := Int.mul_nonpos_of_nonpos_of_nonneg h0 (by omega)
    omega
/-- what append does to the blocks -/
def sAppend (T : Tab) (H : List Bk) (o : Oper) (t : Nat) (s x : D) (K : List Bk → D → Prop) : Prop := match T.get t, elemsOf H x with
  | some ⟨.slice e, _, _, _⟩, some (n, rx, m) => (match T.get e with
    | some te => if te.size = n ∧ 0 < n ∧ te.zero.cells.size = n then (match s with
      | .nils => ReqQ (litsOK rx m && decide (te.bytes ≤ 60000000)) (fun _ => m.den = rx.den.length ∧ (∀ e ∈ rx.den, e.all D.cellB = true) ∧ m.den ≤ 9223372036854775807 ∧ m.den * te.bytes ≤ 140737488355328) (K (H ++ [.row e n 1 rx]) (.osl n H.length 1 (BE.mk2 .eql m (.lit 0)) (.lit 0) m))
      | .osl n' b ver nb (.lit 0) len => (match H[b]? with
        | some (.row ty n2 ver2 r) => if n' = n ∧ n2 = n ∧ ver2 = ver ∧ ty = e ∧ e < 1000000 then
            ReqQ (litsOK rx m && litsOK r len && decide (te.bytes ≤ 60000000)) (fun _ => m.den = rx.den.length ∧ len.den = r.den.length ∧ (∀ e ∈ rx.den, e.all D.cellB = true) ∧ (∀ e ∈ r.den, e.all D.cellB = true) ∧ len.den + m.den ≤ 9223372036854775807 ∧ (len.den + m.den) * te.bytes ≤ 140737488355328)
              (K (H.set b (.row e n (ver + 1) (RE.mkApps r rx))) (.osl n b (ver + 1) (BE.mkAnd nb (BE.mk2 .eql m (.lit 0))) (.lit 0) (IE.mkSum len m))) else StuckP o [s, x]
        | _ => StuckP o [s, x])
      | _ => StuckP o [s, x]) else StuckP o [s, x]
    | none => StuckP o [s, x])
  | _, _ => StuckP o [s, x]
/-- one own block lies elsewhere, or holds something else -/
def Env.upd (E : Env) (x : Nat) (c : Option Nat) (k z : Nat) : Env := ⟨E.G, fun y => if y = x then c else E.σ y, fun y => if y = x then k else E.κ y, fun y => if y = x then z else E.ζ y⟩
theorem upd_same {H H' : List Bk} {E : Env} {x k z : Nat} {c : Option Nat} (h : H'[x]? ≠ H[x]?) : ∀ y : Nat, H'[y]? = H[y]? → (E.upd x c k z).σ y = E.σ y ∧ (E.upd x c k z).κ y = E.κ y := fun y hy => by
  have : y ≠ x := fun e => h (by rw [← e]; exact hy)
  simp [Env.upd, this]
theorem row_ne {H : List Bk} {b ty n ver ty' n' : Nat} {r r' : RE} (h : H[b]? = some (.row ty n ver r)) : (H.set b (.row ty' n' (ver + 1) r'))[b]? ≠ H[b]? := by
  have hl := (List.getElem?_eq_some_iff.1 h).1
  rw [List.getElem?_set_self hl, h]
  intro e
  simp only [Option.some.injEq, Bk.row.injEq] at e
  omega
theorem WRel.redo {B : Base} {H : List Bk} {E : Env} {w w' : World} (h : WRel B H E w) {x k z : Nat} {c : Option Nat} {b' : Bk} (hx : x < H.length) (hk : E.κ x < k) (hold : ∀ j, j < w.heap.size → (∀ d, E.σ x = some d → j ≠ d) → w'.heap[j]? = w.heap[j]?)
    (hsz : w.heap.size ≤ w'.heap.size) (hbel : Below B.w0.heap.size B.w0 w') (hc : ∀ d, c = some d → (E.σ x = some d ∨ w.heap.size ≤ d) ∧ d < w'.heap.size) (hv : b'.ver k)
    (hb : E.le w w' (E.upd x c k z) → E.own (E.upd x c k z) → ∀ d, c = some d → BRep w' (E.upd x c k z) x d b') (hvirt : c = none → b'.virt) :
    WRel B (H.set x b') (E.upd x c k z) w' ∧ E.le w w' (E.upd x c k z) ∧ E.own (E.upd x c k z) := by
  have hle : E.le w w' (E.upd x c k z) := ⟨fun _ h => h, fun b hb => hold b (h.good b hb) fun d hd e => (h.own x d hd).2.2 (by rw [← e]; exact hb)⟩
  have hown : E.own (E.upd x c k z) := by
    refine ⟨fun b => ?_, fun b e => ?_⟩
    · simp only [Env.upd]; split
      · next q => subst q; omega
      · exact Nat.le_refl _
    · simp only [Env.upd] at e ⊢
      by_cases q : b = x
      · subst q; simp at e; omega
      · simp [q]
  refine ⟨⟨fun p q d hp hq => ?_, fun p d hp => ?_, fun p hp => ?_, fun p b hp => ?_, fun p hp => ?_, fun b hb => Nat.lt_of_lt_of_le (h.good b hb) hsz, h.g0, h.gn, hbel, B.stab _ _ _ _ hle hown h.phi⟩, hle, hown⟩
  · simp only [Env.upd] at hp hq
    split at hp <;> split at hq
    · omega
    · rcases (hc d hp).1 with e | e
      · exact absurd (h.inj _ _ _ hq e) (by assumption)
      · have := (h.own _ _ hq).2.1; omega
    · rcases (hc d hq).1 with e | e
      · exact absurd (h.inj _ _ _ hp e) (by assumption)
      · have := (h.own _ _ hp).2.1; omega
    · exact h.inj _ _ _ hp hq
  · simp only [Env.upd] at hp
    split at hp
    · obtain ⟨e, e2⟩ := hc d hp
      rcases e with e | e
      · obtain ⟨q1, q2, q3⟩ := h.own _ _ e; exact ⟨q1, e2, q3⟩
      · exact ⟨Nat.le_trans h.bel.size e, e2, fun q => by have := h.good _ q; omega⟩
    · obtain ⟨q1, q2, q3⟩ := h.own _ _ hp; exact ⟨q1, by omega, q3⟩
  · simp only [Env.upd] at hp ⊢
    split at hp
    · omega
    · next q => rw [if_neg q]; exact h.wf p hp
  · by_cases e : p = x
    · subst e
      rw [List.getElem?_set_self hx] at hp
      cases hp
      have k1 : (E.upd p c k z).κ p = k := by simp [Env.upd]
      have k2 : (E.upd p c k z).σ p = c := by simp [Env.upd]
      rw [k1, k2]
      exact .inr ⟨hv, fun d hd => hb hle hown d hd, hvirt⟩
    · rw [List.getElem?_set_ne (fun q => e q.symm)] at hp
      have k1 : (E.upd x c k z).κ p = E.κ p := by simp [Env.upd, e]
      have k2 : (E.upd x c k z).σ p = E.σ p := by simp [Env.upd, e]
      have k3 : (E.upd x c k z).ζ p = E.ζ p := by simp [Env.upd, e]
      rw [k1, k2]
      rcases h.heap p b hp with q | ⟨q1, q2, q3⟩
      · exact .inl q
      · exact .inr ⟨q1, fun d hd => (q2 d hd).move hle hown (hold d (h.own p d hd).2.1 fun d' hd' e2 => e (h.inj _ _ _ hd (e2 ▸ hd'))) k3, q3⟩
  · simp at hp
    have := h.out p hp
    simp only [Env.upd]
    rw [if_neg (by omega), if_neg (by omega)]
    exact this
theorem run_append_zero {P : Program} {w : World} {t ty e : Nat} {i : TypeInfo} (ht : P.underlying t = some (.slice e)) (hi : P.info? e = some i) {base a : Option Addr} {n cap c : Nat} (h : n ≤ cap) :
    (Builtin.append_ #[t, t] ty #[.slice base n cap, .slice a 0 c]).run P w = .ok (.slice base n cap) w := by
  cases a <;> cases base <;> simp [Builtin.append_, run_underlying ht, sizeOf, typeInfo, hi, Builtin.lenOf, Builtin.firstCells, loadCells, loadCellsFrom, h, storeCells]
section
variable {P : Program} {T : Tab} {H : List Bk} {ρ : Operand → D} {o : Oper}
theorem sAppend_eff (hT : T.ok P) {t : Nat} {s x : Operand} (ho : o.op = .call ⟨.builtin .append, #[s, x], #[t, t]⟩) {K : List Bk → D → Prop} (hk : sAppend T H o t (ρ s) (ρ x) K) : ∃ H' d, EEff P H ρ o H' d ∧ K H' d := by
  have hx : ∀ (ev : Operand → Value) (w : World), (execOp ev o).run P w = (do pure (.value (← Builtin.append_ #[t, t] o.type #[ev s, ev x])) : Sem Next).run P w := fun ev w => by
    obtain ⟨cs, h⟩ := execOp_blt (P := P) (ev := ev) ho
    rw [h w]
    simp [builtin]
  unfold sAppend at hk
  split at hk
  · next e sz by_ z n rx m ht hel =>
    split at hk
    · next te hte =>
      split at hk
      · next hc =>
        obtain ⟨hsz, hn0, hzs⟩ := hc
        obtain ⟨ti, d, g1, g2, _, _, _, g6⟩ := TI.of_spec (Tab.get_ok hT ht)
        obtain ⟨ti', d', f1, f2, f3, f4, f5, f6⟩ := TI.of_spec (Tab.get_ok hT hte)
        have hu : P.underlying t = some (.slice e) := by
          cases d with
          | slice e2 => simp only [TK.of, TK.slice.injEq] at g6; rw [g2, g6]
          | _ => simp [TK.of] at g6
        have hisz : ti'.size = n := f4.trans hsz
        split at hk
        · -- the nil slice
          next hs =>
          obtain ⟨⟨hm, hcell, h63, hby⟩, hk⟩ := ReqQ.get hk (fun hb => by
            simp only [Bool.and_eq_true, decide_eq_true_eq] at hb
            obtain ⟨k1, k2, k3⟩ := litsOK_spec hb.1
            exact ⟨k1, k2, by omega, small_bytes (by omega) hb.2⟩)
          refine ⟨_, _, fun B w E ev hev hw => ?_, hk⟩
          have hvs := hev s
          rw [hs] at hvs
          generalize hvsv : ev s = vs at hvs
          cases hvs
          obtain ⟨a, c, hvx, hcells⟩ := elemsOf_rep hw (hev x) hel hm
          have hw2 := hw.ext [.dead]
          have hlen : H.length < (H ++ [Bk.dead]).length := by simp
          have hκ := (hw.out H.length (Nat.le_refl _)).2
          have hσ := (hw.out H.length (Nat.le_refl _)).1
          have hset : (H ++ [Bk.dead]).set H.length (.row e n 1 rx) = H ++ [.row e n 1 rx] := by
            rw [List.set_append_right _ _ (Nat.le_refl _)]; simp
          by_cases h0 : rx.den = []
          · obtain ⟨r1, r2, r3⟩ := hw2.redo (w' := w) (x := H.length) (k := 1) (z := 0) (c := none) (b' := .row e n 1 rx) hlen (by omega) (fun _ _ _ => rfl) (Nat.le_refl _) hw.bel (fun d hd => by cases hd) rfl (fun _ _ d hd => by cases hd) (fun _ => h0)
            rw [hset] at r1
            have h1 : rx.den.length = 0 := by rw [h0]; rfl
            refine ⟨_, _, w, _, ?_, .inl rfl, r1, r2, r3, .osln (by simp [Env.upd]) (by simp [Env.upd]) (by rw [BE.mk2_den]; simp [cmpDen, IE.den]; omega) rfl (by omega), upd_same (by simp)⟩
            rw [hx, hvsv, hvx, h1]
            simp [run_append_zero hu f1 (Nat.le_refl 0)]
          · obtain ⟨b, off, rfl, hcl⟩ := hcells h0
            obtain ⟨news, n1, n2, n3, n4⟩ := flat_cells hcl hcell
            have hpos : 0 < rx.den.length := List.length_pos_iff.2 h0
            have hby' : rx.den.length * te.bytes ≤ 140737488355328 := by
              have : ((rx.den.length * te.bytes : Nat) : Int) ≤ 140737488355328 := by rw [Int.natCast_mul, ← hm]; exact hby
              omega
            have hrun := run_append_nil (P := P) (w := w) t o.type e ti' te.zero hu f1 f3 ⟨b, off, none⟩ rx.den.length c news (by rw [hisz]; exact n1) n2 hpos (by omega) (by rw [f5]; omega)
            generalize hcap : grownCap w rx.den.length 0 e = cap at hrun
            have hge : rx.den.length ≤ cap := by rw [← hcap]; exact grownCap_ge _ _ _ _
            have hcm : cap ≤ maxLen := by rw [← hcap]; exact grownCap_le_maxLen _ _ _ _ (by unfold maxLen; omega)
            generalize hcur : news.toArray ++ Builtin.zeroCells te.zero.cells (cap - rx.den.length) = cur at hrun
            have hcs : cur.size = cap * n := by
              rw [← hcur, Array.size_append, size_zeroCells, hzs, List.size_toArray, n1, ← Nat.add_mul]
              congr 1
              omega
            obtain ⟨r1, r2, r3⟩ := hw2.redo (w' := w.drew.alloc (.cells cur e)) (x := H.length) (k := 1) (z := cur.size) (c := some w.heap.size) (b' := .row e n 1 rx) hlen (by omega) (fun j hj _ => alloc_heap w.drew _ j hj) (by simp) (hw.bel.drew.alloc hw.bel.size _)
              (fun d hd => by cases hd; exact ⟨.inr (Nat.le_refl _), by simp⟩) rfl (fun hle hown d hd => by
                cases hd
                refine ⟨cur, e, .inr rfl, heap_alloc_last w.drew _, by simp [Env.upd], by rw [hcs]; exact Nat.mul_le_mul_right _ hge, fun k el hk2 => ?_⟩
                obtain ⟨q1, q2⟩ := hcl k el hk2
                refine ⟨q1, fun j d hd => ?_⟩
                obtain ⟨v, q3, q4⟩ := n4 k el hk2 j d hd
                have hlt := (List.getElem?_eq_some_iff.1 q3).1
                exact ⟨v, by rw [← hcur, Array.getElem?_append_left (by simpa using hlt)]; simpa using q3, q4.move hle.data Env.own.data⟩) (fun h => by cases h)
            rw [hset] at r1
            have hd := DRep.oslc (w := w.drew.alloc (.cells cur e)) (E := E.upd H.length (some w.heap.size) 1 cur.size) (n := n) (b := H.length) (ver := 1) (nb := BE.mk2 .eql m (.lit 0)) (lo := .lit 0) (len := m) (c := w.heap.size) (m := rx.den.length) (cap := cap) (by simp [Env.upd]) (by simp [Env.upd]) (by rw [BE.mk2_den]; simp [cmpDen, IE.den]; omega) (Int.le_refl _) hm hge hcm (by simp [IE.den, Env.upd, hcs])
            refine ⟨_, _, _, _, ?_, .inl rfl, r1, r2, r3, hd, upd_same (by simp)⟩
            rw [hx, hvsv, hvx]
            simp [hrun, IE.den]
        · -- a row of the call's own
          next n' bb ver nb len hs =>
          split at hk
          · next ty n2 ver2 r hb =>
            split at hk
            · next hcc =>
              obtain ⟨rfl, rfl, rfl, rfl, hbig⟩ := hcc
              obtain ⟨⟨hm, hlenr, hcell, hcell0, h63, hby⟩, hk⟩ := ReqQ.get hk (fun hb => by
                simp only [Bool.and_eq_true, decide_eq_true_eq] at hb
                obtain ⟨k1, k2, k3⟩ := litsOK_spec hb.1.1
                obtain ⟨j1, j2, j3⟩ := litsOK_spec hb.1.2
                exact ⟨k1, j1, k2, j2, by omega, small_bytes (by omega) hb.2⟩)
              refine ⟨_, _, fun B w E ev hev hw => ?_, hk⟩
              have hvs := hev s
              rw [hs] at hvs
              generalize hvsv : ev s = vs at hvs
              obtain ⟨a, c, hvx, hcells⟩ := elemsOf_rep hw (hev x) hel hm
              have hbl : bb < H.length := (List.getElem?_eq_some_iff.1 hb).1
              have hden := RE.mkApps_den r rx
              have hby' : (r.den.length + rx.den.length) * te.bytes ≤ 140737488355328 := by
                have : (((r.den.length + rx.den.length) * te.bytes : Nat) : Int) ≤ 140737488355328 := by rw [Int.natCast_mul, Int.natCast_add, ← hm, ← hlenr]; exact hby
                omega
              have hsum : (IE.mkSum len m).den = ((r.den.length + rx.den.length : Nat) : Int) := by rw [IE.mkSum_den]; omega
              have hnbd : ∀ x : Bool, nb.den = x → (BE.mkAnd nb (BE.mk2 .eql m (.lit 0))).den = (x && decide (rx.den.length = 0)) := fun x hx' => by
                rw [BE.mkAnd_den, BE.mk2_den, hx']
                have : (m.den == 0) = decide (rx.den.length = 0) := by rw [Bool.eq_iff_iff, beq_iff_eq, decide_eq_true_eq]; omega
                rw [← this]
                rfl
              cases hvs with
              | osls hk' =>
                exfalso
                rcases hw.heap bb _ hb with q | ⟨q, _⟩
                · omega
                · simp only [Bk.ver] at q; omega
              | osln hk' hσ hnb hl hn =>
                have hr0 : r.den = [] := List.length_eq_zero_iff.1 (by omega)
                by_cases h0 : rx.den = []
                · obtain ⟨r1, r2, r3⟩ := hw.redo (w' := w) (x := bb) (k := ver2 + 1) (z := 0) (c := none) (b' := .row ty n2 (ver2 + 1) (RE.mkApps r rx)) hbl (by omega) (fun _ _ _ => rfl) (Nat.le_refl _) hw.bel (fun d hd => by cases hd) rfl (fun _ _ d hd => by cases hd) (fun _ => by simp [Bk.virt, hden, hr0, h0])
                  have h1 : rx.den.length = 0 := by rw [h0]; rfl
                  refine ⟨_, _, w, _, ?_, .inl rfl, r1, r2, r3, .osln (by simp [Env.upd]) (by simp [Env.upd]) (by rw [hnbd _ hnb]; simp [h1]) rfl (by rw [hsum, hr0, h1]; rfl), upd_same (row_ne hb)⟩
                  rw [hx, hvsv, hvx, h1]
                  simp [run_append_zero hu f1 (Nat.le_refl 0)]
                · obtain ⟨b, off, rfl, hcl⟩ := hcells h0
                  obtain ⟨news, n1, n2', n3, n4⟩ := flat_cells hcl hcell
                  have hpos : 0 < rx.den.length := List.length_pos_iff.2 h0
                  have hr1 : r.den.length = 0 := by rw [hr0]; rfl
                  have hrun := run_append_nil (P := P) (w := w) t o.type ty ti' te.zero hu f1 f3 ⟨b, off, none⟩ rx.den.length c news (by rw [hisz]; exact n1) n2' hpos (by omega) (by rw [f5]; rw [hr1, Nat.zero_add] at hby'; omega)
                  generalize hcap : grownCap w rx.den.length 0 ty = cap at hrun
                  have hge : rx.den.length ≤ cap := by rw [← hcap]; exact grownCap_ge _ _ _ _
                  have hcm : cap ≤ maxLen := by rw [← hcap]; exact grownCap_le_maxLen _ _ _ _ (by unfold maxLen; omega)
                  generalize hcur : news.toArray ++ Builtin.zeroCells te.zero.cells (cap - rx.den.length) = cur at hrun
                  have hcs : cur.size = cap * n2 := by
                    rw [← hcur, Array.size_append, size_zeroCells, hzs, List.size_toArray, n1, ← Nat.add_mul]
                    congr 1
                    omega
                  obtain ⟨r1, r2, r3⟩ := hw.redo (w' := w.drew.alloc (.cells cur ty)) (x := bb) (k := ver2 + 1) (z := cur.size) (c := some w.heap.size) (b' := .row ty n2 (ver2 + 1) (RE.mkApps r rx)) hbl (by omega) (fun j hj _ => alloc_heap w.drew _ j hj) (by simp) (hw.bel.drew.alloc hw.bel.size _)
                    (fun d hd => by cases hd; exact ⟨.inr (Nat.le_refl _), by simp⟩) rfl (fun hle hown d hd => by
                      cases hd
                      refine ⟨cur, ty, .inr rfl, heap_alloc_last w.drew _, by simp [Env.upd], by rw [hcs, hden, hr0, List.nil_append]; exact Nat.mul_le_mul_right _ hge, fun k el hk2 => ?_⟩
                      rw [hden, hr0, List.nil_append] at hk2
                      obtain ⟨q1, q2⟩ := hcl k el hk2
                      refine ⟨q1, fun j d hd => ?_⟩
                      obtain ⟨v, q3, q4⟩ := n4 k el hk2 j d hd
                      have hlt := (List.getElem?_eq_some_iff.1 q3).1
                      exact ⟨v, by rw [← hcur, Array.getElem?_append_left (by simpa using hlt)]; simpa using q3, q4.move hle.data Env.own.data⟩) (fun h => by cases h)
                  have hd := DRep.oslc (w := w.drew.alloc (.cells cur ty)) (E := E.upd bb (some w.heap.size) (ver2 + 1) cur.size) (n := n2) (b := bb) (ver := ver2 + 1) (nb := BE.mkAnd nb (BE.mk2 .eql m (.lit 0))) (lo := .lit 0) (len := IE.mkSum len m) (c := w.heap.size) (m := rx.den.length) (cap := cap) (by simp [Env.upd]) (by simp [Env.upd]) (by rw [hnbd _ hnb]; simp; exact h0) (Int.le_refl _) (by rw [hsum, hr1, Nat.zero_add]) hge hcm (by simp [IE.den, Env.upd, hcs])
                  refine ⟨_, _, _, _, ?_, .inl rfl, r1, r2, r3, hd, upd_same (row_ne hb)⟩
                  rw [hx, hvsv, hvx]
                  simp [hrun, IE.den]
              | @oslc _ _ _ _ _ _ _ cc mm cap0 hk' hσ hnb hl hn hc' hmx hsz' =>
                have hmm : mm = r.den.length := by omega
                subst hmm
                rcases hw.heap bb _ hb with q | ⟨_, q2, _⟩
                · rw [q.2] at hσ; cases hσ
                obtain ⟨cs, tt, gt', g1', g2', g3', g4'⟩ := q2 cc hσ
                obtain rfl : ty = tt := (gt'.resolve_left (by omega)).symm
                simp only [IE.den, Int.toNat_zero, Nat.zero_add, Nat.zero_mul] at hsz' hvsv
                have hcs0 : cs.size = cap0 * n2 := by rw [g2', ← hsz']
                -- the old cells
                have holdc : ∀ (i : Nat) el, r.den[i]? = some el → el.length = n2 ∧ ∀ (j : Nat) d, el[j]? = some d → ∃ v, (cs.toList.take (r.den.length * n2))[i * n2 + j]? = some v ∧ DRep w E.data d v := fun i el hi => by
                  obtain ⟨q1, q3⟩ := g4' i el hi
                  refine ⟨q1, fun j d hd => ?_⟩
                  obtain ⟨v, q4, q5⟩ := q3 j d hd
                  have hil := (List.getElem?_eq_some_iff.1 hi).1
                  have hj : j < n2 := by rw [← q1]; exact (List.getElem?_eq_some_iff.1 hd).1
                  have hlt : i * n2 + j < r.den.length * n2 := by
                    have : (i + 1) * n2 ≤ r.den.length * n2 := Nat.mul_le_mul_right _ hil
                    rw [Nat.add_mul, Nat.one_mul] at this
                    omega
                  exact ⟨v, by rw [List.getElem?_take, if_pos hlt, Array.getElem?_toList]; exact q4, q5⟩
                have holdl : (cs.toList.take (r.den.length * n2)).length = r.den.length * n2 := by simp; omega
                by_cases h0 : rx.den = []
                · have h1 : rx.den.length = 0 := by rw [h0]; rfl
                  obtain ⟨r1, r2, r3⟩ := hw.redo (w' := w) (x := bb) (k := ver2 + 1) (z := E.ζ bb) (c := some cc) (b' := .row ty n2 (ver2 + 1) (RE.mkApps r rx)) hbl (by omega) (fun _ _ _ => rfl) (Nat.le_refl _) hw.bel (fun d hd => by cases hd; exact ⟨.inl hσ, (hw.own _ _ hσ).2.1⟩) rfl (fun hle hown d hd => by
                    cases hd
                    exact ⟨cs, _, .inr rfl, g1', by simp [Env.upd, g2'], by rw [hden, h0, List.append_nil]; exact g3', fun k el hk2 => by
                      rw [hden, h0, List.append_nil] at hk2
                      obtain ⟨q1, q3⟩ := g4' k el hk2
                      exact ⟨q1, fun j d hd => by obtain ⟨v, q4, q5⟩ := q3 j d hd; exact ⟨v, q4, q5.move hle.data Env.own.data⟩⟩⟩) (fun h => by cases h)
                  have hd := DRep.oslc (w := w) (E := E.upd bb (some cc) (ver2 + 1) (E.ζ bb)) (n := n2) (b := bb) (ver := ver2 + 1) (nb := BE.mkAnd nb (BE.mk2 .eql m (.lit 0))) (lo := .lit 0) (len := IE.mkSum len m) (c := cc) (m := r.den.length) (cap := cap0) (by simp [Env.upd]) (by simp [Env.upd]) (by rw [hnbd _ hnb]; rfl) (Int.le_refl _) (by rw [hsum, h1, Nat.add_zero]) hc' hmx (by simp [IE.den, Env.upd, hsz'])
                  refine ⟨_, _, _, _, ?_, .inl rfl, r1, r2, r3, hd, upd_same (row_ne hb)⟩
                  rw [hx, hvsv, hvx, h1]
                  simp [run_append_zero hu f1 hc', IE.den]
                · obtain ⟨b, off, rfl, hcl⟩ := hcells h0
                  obtain ⟨news, n1, n2', n3, n4⟩ := flat_cells hcl hcell
                  have hpos : 0 < rx.den.length := List.length_pos_iff.2 h0
                  have both : ∀ {w2 : World} {E2 : Env} (restL : List Value), E.le w w2 E2 → ∀ (k : Nat) el, (RE.mkApps r rx).den[k]? = some el → el.length = n2 ∧ ∀ (j : Nat) d, el[j]? = some d → ∃ v, ((cs.toList.take (r.den.length * n2)) ++ news ++ restL)[k * n2 + j]? = some v ∧ DRep w2 E2.data d v := by
                    intro w2 E2 restL hle k el hk2
                    rw [hden] at hk2
                    by_cases hkr : k < r.den.length
                    · rw [List.getElem?_append_left hkr] at hk2
                      obtain ⟨q1, q3⟩ := holdc k el hk2
                      refine ⟨q1, fun j d hd => ?_⟩
                      obtain ⟨v, q4, q5⟩ := q3 j d hd
                      have := (List.getElem?_eq_some_iff.1 q4).1
                      exact ⟨v, by rw [List.append_assoc, List.getElem?_append_left this]; exact q4, q5.move hle.data Env.own.data⟩
                    · rw [List.getElem?_append_right (by omega)] at hk2
                      obtain ⟨q1, _⟩ := hcl _ el hk2
                      refine ⟨q1, fun j d hd => ?_⟩
                      obtain ⟨v, q4, q5⟩ := n4 _ el hk2 j d hd
                      have hlt := (List.getElem?_eq_some_iff.1 q4).1
                      have e1 : k * n2 + j = r.den.length * n2 + ((k - r.den.length) * n2 + j) := by
                        rw [← Nat.add_assoc, ← Nat.add_mul]
                        congr 2
                        omega
                      refine ⟨v, ?_, q5.move hle.data Env.own.data⟩
                      rw [List.append_assoc, List.getElem?_append_right (by rw [holdl, e1]; omega), holdl, e1, Nat.add_sub_cancel_left, List.getElem?_append_left hlt]
                      exact q4
                  by_cases hroom : r.den.length + rx.den.length ≤ cap0
                  · have hfit : r.den.length * ti'.size + news.length ≤ cs.size := by rw [hisz, n1, hcs0, ← Nat.add_mul]; exact Nat.mul_le_mul_right _ hroom
                    have hrun := run_append_room (P := P) (w := w) t o.type _ ti' hu f1 cc r.den.length cap0 cs g1' ⟨b, off, none⟩ rx.den.length c news (by rw [hisz]; exact n1) n2' n3 hroom hfit
                    rw [hisz] at hrun
                    generalize hrest : cs.toList.drop (r.den.length * n2 + news.length) = restL at hrun
                    have hnl : ((cs.toList.take (r.den.length * n2)) ++ news ++ restL).length = cs.size := by
                      rw [← hrest]
                      rw [hisz] at hfit
                      simp
                      omega
                    have hso : (w.setRow cc ((cs.toList.take (r.den.length * n2)) ++ news ++ restL).toArray).heap.size = w.heap.size := by simp [World.setRow]
                    obtain ⟨r1, r2, r3⟩ := hw.redo (w' := w.setRow cc ((cs.toList.take (r.den.length * n2)) ++ news ++ restL).toArray) (x := bb) (k := ver2 + 1) (z := E.ζ bb) (c := some cc) (b' := .row ty n2 (ver2 + 1) (RE.mkApps r rx)) hbl (by omega) (fun j hj hne => setRow_other w cc j _ (hne cc hσ)) (by rw [hso]; exact Nat.le_refl _)
                      (hw.bel.trans ⟨rfl, rfl, rfl, by rw [hso]; exact Nat.le_refl _, fun k hk3 => setRow_other w cc k _ (by have := (hw.own _ _ hσ).1; omega)⟩)
                      (fun d hd => by cases hd; exact ⟨.inl hσ, by rw [hso]; exact (hw.own _ _ hσ).2.1⟩) rfl (fun hle hown d hd => by
                        cases hd
                        refine ⟨_, _, .inr rfl, setRow_heap w cc cs _ _ (0, 0) g1', by simp only [List.size_toArray]; rw [hnl]; simp [Env.upd, g2'], ?_, fun k el hk2 => ?_⟩
                        · simp only [List.size_toArray]
                          rw [hnl, hden, List.length_append, hcs0]
                          exact Nat.mul_le_mul_right _ hroom
                        · obtain ⟨q1, q3⟩ := both restL hle k el hk2
                          exact ⟨q1, fun j d hd => by obtain ⟨v, q4, q5⟩ := q3 j d hd; exact ⟨v, by simpa using q4, q5⟩⟩) (fun h => by cases h)
                    have hd := DRep.oslc (w := w.setRow cc ((cs.toList.take (r.den.length * n2)) ++ news ++ restL).toArray) (E := E.upd bb (some cc) (ver2 + 1) (E.ζ bb)) (n := n2) (b := bb) (ver := ver2 + 1) (nb := BE.mkAnd nb (BE.mk2 .eql m (.lit 0))) (lo := .lit 0) (len := IE.mkSum len m) (c := cc) (m := r.den.length + rx.den.length) (cap := cap0) (by simp [Env.upd]) (by simp [Env.upd]) (by rw [hnbd _ hnb]; rfl) (Int.le_refl _) hsum hroom hmx (by simp [IE.den, Env.upd, hsz'])
                    refine ⟨_, _, _, _, ?_, .inl rfl, r1, r2, r3, hd, upd_same (row_ne hb)⟩
                    rw [hx, hvsv, hvx]
                    simp [hrun, IE.den]
                  · have hrun := run_append_grow (P := P) (w := w) t o.type ty ti' te.zero hu f1 f3 ⟨cc, 0, none⟩ r.den.length cap0 (cs.toList.take (r.den.length * n2)) (by rw [hisz]; exact holdl) (fun j v hv => by
                      rw [Addr.add_mid, Nat.zero_add]
                      rw [List.getElem?_take] at hv
                      split at hv
                      · rw [Array.getElem?_toList] at hv
                        simp [World.cell?, g1', hv]
                      · cases hv) ⟨b, off, none⟩ rx.den.length c news (by rw [hisz]; exact n1) n2' (by omega) (by omega) (by rw [f5]; exact growslice_fits (by omega) hby')
                    generalize hcap : grownCap w (r.den.length + rx.den.length) cap0 ty = cap at hrun
                    have hge : r.den.length + rx.den.length ≤ cap := by rw [← hcap]; exact grownCap_ge _ _ _ _
                    have hcm : cap ≤ maxLen := by rw [← hcap]; exact grownCap_le_maxLen _ _ _ _ (by unfold maxLen; omega)
                    generalize hz : Builtin.zeroCells te.zero.cells (cap - (r.den.length + rx.den.length)) = zc at hrun
                    have hzc : zc.size = (cap - (r.den.length + rx.den.length)) * n2 := by rw [← hz, size_zeroCells, hzs]
                    generalize hcur : (cs.toList.take (r.den.length * n2)).toArray ++ news.toArray ++ zc = cur at hrun
                    have hcurl : cur.toList = (cs.toList.take (r.den.length * n2)) ++ news ++ zc.toList := by rw [← hcur]; simp
                    have hcs : cur.size = cap * n2 := by
                      have hzl : zc.toList.length = zc.size := Array.length_toList
                      rw [← Array.length_toList, hcurl, List.length_append, List.length_append, holdl, n1, hzl, hzc, ← Nat.add_mul, ← Nat.add_mul]
                      congr 1
                      omega
                    obtain ⟨r1, r2, r3⟩ := hw.redo (w' := w.drew.alloc (.cells cur ty)) (x := bb) (k := ver2 + 1) (z := cur.size) (c := some w.heap.size) (b' := .row ty n2 (ver2 + 1) (RE.mkApps r rx)) hbl (by omega) (fun j hj _ => alloc_heap w.drew _ j hj) (by simp) (hw.bel.drew.alloc hw.bel.size _)
                      (fun d hd => by cases hd; exact ⟨.inr (Nat.le_refl _), by simp⟩) rfl (fun hle hown d hd => by
                        cases hd
                        refine ⟨cur, _, .inr rfl, heap_alloc_last w.drew _, by simp [Env.upd], by rw [hcs, hden, List.length_append]; exact Nat.mul_le_mul_right _ hge, fun k el hk2 => ?_⟩
                        obtain ⟨q1, q3⟩ := both zc.toList hle k el hk2
                        exact ⟨q1, fun j d hd => by obtain ⟨v, q4, q5⟩ := q3 j d hd; exact ⟨v, by rw [← Array.getElem?_toList, hcurl]; exact q4, q5⟩⟩) (fun h => by cases h)
                    have hd := DRep.oslc (w := w.drew.alloc (.cells cur ty)) (E := E.upd bb (some w.heap.size) (ver2 + 1) cur.size) (n := n2) (b := bb) (ver := ver2 + 1) (nb := BE.mkAnd nb (BE.mk2 .eql m (.lit 0))) (lo := .lit 0) (len := IE.mkSum len m) (c := w.heap.size) (m := r.den.length + rx.den.length) (cap := cap) (by simp [Env.upd]) (by simp [Env.upd]) (by rw [hnbd _ hnb]; rfl) (Int.le_refl _) hsum hge hcm (by simp [IE.den, Env.upd, hcs])
                    refine ⟨_, _, _, _, ?_, .inl rfl, r1, r2, r3, hd, upd_same (row_ne hb)⟩
                    rw [hx, hvsv, hvx]
                    simp [hrun, IE.den]
            · cases hk
          · cases hk
        · cases hk
      · cases hk
    · cases hk
  · cases hk
end
end Go.Proofs.YtdhfakajlnidiaaGreat
namespace Go.Proofs.YtdhfakajlnidiaaGreat
open Go.RowKit

/-! Updates of own maps. -/
theorem MapOK.congr {w : World} {E : Env} {kk : IntKind} {es : List MapEntry} {clock : Nat} {F F' : Int → Option D} (h : MapOK w E kk es clock F) (e : ∀ x, F' x = F x) : MapOK w E kk es clock F' := by
  obtain rfl : F' = F := funext e
  exact h
theorem MapOK.move {w w' : World} {E E' : Env} {kk : IntKind} {es : List MapEntry} {clock : Nat} {F : Int → Option D} (h : MapOK w E.data kk es clock F) (hle : E.le w w' E') : MapOK w' E'.data kk es clock F :=
  ⟨fun e he => by obtain ⟨x, d, h1, h2, h3, h4⟩ := h.val e he; exact ⟨x, d, h1, h2, h3, h4.move hle.data Env.own.data⟩, h.has, h.apart, h.clock⟩
theorem MapOK.modify {w : World} {E : Env} {kk : IntKind} {es : List MapEntry} {clock : Nat} {F : Int → Option D} (h : MapOK w E kk es clock F) {j : Nat} {e : MapEntry} {n : Int} {d : D} {v : Value} (hj : es[j]? = some e) (hk : e.key = .int kk n) (hn : InR kk n) (hd : DRep w E d v) :
    MapOK w E kk (es.modify j fun e => { e with key := .int kk n, val := v }) clock (fun x => if x = n then some d else F x) := by
  have hmap : (es.modify j fun e => { e with key := .int kk n, val := v }).map (fun e => (e.key, e.born)) = es.map fun e => (e.key, e.born) := by
    apply List.ext_getElem?
    intro i
    simp only [List.getElem?_map, List.getElem?_modify]
    by_cases q : j = i
    · subst q; simp [hj, hk]
    · simp [q]
  refine ⟨fun e' he => ?_, fun x d' hF => ?_, ?_, fun e' he => ?_⟩
  · obtain ⟨i, hi⟩ := List.getElem?_of_mem he
    rw [List.getElem?_modify] at hi
    by_cases q : j = i
    · subst q
      simp [hj] at hi
      subst hi
      exact ⟨n, d, rfl, hn, by simp, hd⟩
    · simp [q] at hi
      obtain ⟨x, d', h1, h2, h3, h4⟩ := h.val e' (List.mem_of_getElem? hi)
      refine ⟨x, d', h1, h2, ?_, h4⟩
      rw [if_neg (fun c => ?_)]
      · exact h3
      · subst c
        have ha := h.apart
        rw [List.pairwise_iff_getElem] at ha
        obtain ⟨hj1, hj2⟩ := List.getElem?_eq_some_iff.1 hj
        obtain ⟨hi1, hi2⟩ := List.getElem?_eq_some_iff.1 hi
        rcases Nat.lt_or_gt_of_ne q with c | c
        · have := (ha j i hj1 hi1 c).1
          rw [hj2, hi2, hk, h1] at this
          exact this rfl
        · have := (ha i j hi1 hj1 c).1
          rw [hj2, hi2, hk, h1] at this
          exact this rfl
  · by_cases q : x = n
    · subst q
      exact ⟨{ e with key := .int kk x, val := v }, List.mem_of_getElem? (i := j) (by rw [List.getElem?_modify, hj]; simp), rfl⟩
    · rw [if_neg q] at hF
      obtain ⟨e0, he0, hk0⟩ := h.has x d' hF
      obtain ⟨i, hi⟩ := List.getElem?_of_mem he0
      refine ⟨e0, List.mem_of_getElem? (i := i) ?_, hk0⟩
      rw [List.getElem?_modify]
      by_cases c : j = i
      · subst c
        rw [hj] at hi
        cases hi
        rw [hk] at hk0
        exact absurd (by simpa using hk0.symm) q
      · simp [c, hi]
  · have : ((es.modify j fun e => { e with key := .int kk n, val := v }).map (fun e => (e.key, e.born))).Pairwise fun a b => a.1 ≠ b.1 ∧ a.2 ≠ b.2 := by
      rw [hmap, List.pairwise_map]
      exact h.apart
    rw [List.pairwise_map] at this
    exact this
  · have : (e'.key, e'.born) ∈ (es.modify j fun e => { e with key := .int kk n, val := v }).map (fun e => (e.key, e.born)) := List.mem_map.2 ⟨e', he, rfl⟩
    rw [hmap] at this
    obtain ⟨e0, h1, h2⟩ := List.mem_map.1 this
    have := h.clock e0 h1
    simp only [Prod.mk.injEq] at h2
    omega
theorem MapOK.push {w : World} {E : Env} {kk : IntKind} {es : List MapEntry} {clock : Nat} {F : Int → Option D} (h : MapOK w E kk es clock F) {n : Int} {d : D} {v : Value} (hf : F n = none) (hn : InR kk n) (hd : DRep w E d v) :
    MapOK w E kk (es ++ [{ key := .int kk n, val := v, born := clock }]) (clock + 1) (fun x => if x = n then some d else F x) := by
  have hne : ∀ e ∈ es, e.key ≠ .int kk n := fun e he q => by
    obtain ⟨x, d', h1, _, h3, _⟩ := h.val e he
    rw [h1] at q
    obtain rfl : x = n := by simpa using q
    rw [hf] at h3
    cases h3
  refine ⟨fun e he => ?_, fun x d' hF => ?_, ?_, fun e he => ?_⟩
  · rcases List.mem_append.1 he with q | q
    · obtain ⟨x, d', h1, h2, h3, h4⟩ := h.val e q
      refine ⟨x, d', h1, h2, ?_, h4⟩
      rw [if_neg (fun c => ?_)]
      · exact h3
      · subst c; exact hne e q h1
    · simp only [List.mem_singleton] at q
      subst q
      exact ⟨n, d, rfl, hn, by simp, hd⟩
  · by_cases q : x = n
    · subst q; exact ⟨_, List.mem_append_right _ (List.mem_singleton.2 rfl), rfl⟩
    · rw [if_neg q] at hF
      obtain ⟨e, he, hk⟩ := h.has x d' hF
      exact ⟨e, List.mem_append_left _ he, hk⟩
  · refine List.pairwise_append.2 ⟨h.apart, List.pairwise_singleton _ _, fun a ha b hb => ?_⟩
    simp only [List.mem_singleton] at hb
    subst hb
    exact ⟨hne a ha, Nat.ne_of_lt (h.clock a ha)⟩
  · rcases List.mem_append.1 he with q | q
    · exact Nat.lt_succ_of_lt (h.clock e q)
    · simp only [List.mem_singleton] at q
      subst q
      exact Nat.lt_succ_self _
/-- an own block that is laid anew as an object -/
def World.redo (w : World) (c : Nat) (o : Obj) : World := { w with heap := w.heap.setIfInBounds c o }
theorem World.redo_at {w : World} {c : Nat} (h : c < w.heap.size) (o : Obj) : (World.redo w c o).heap[c]? = some o := by simp [World.redo, h]
theorem WRel.le_redo {B : Base} {H : List Bk} {E : Env} {w : World} (h : WRel B H E w) {x c : Nat} (hx : E.σ x = some c) (o : Obj) : E.le w (World.redo w c o) E := ⟨fun _ h => h, fun k hk => by
  have ho := (h.own x c hx).2.2
  have hne : ¬ c = k := fun e => ho (by rw [e]; exact hk)
  simp [World.redo, hne]⟩
theorem WRel.putm {B : Base} {H : List Bk} {E : Env} {w : World} (h : WRel B H E w) {x c : Nat} (hx : E.σ x = some c) {b b' : Bk} (hb : H[x]? = some b) (o : Obj) (hv : b'.ver (E.κ x)) (hnew : BRep (World.redo w c o) E x c b') :
    WRel B (H.set x b') E (World.redo w c o) ∧ E.le w (World.redo w c o) E := by
  obtain ⟨ho1, ho2, ho3⟩ := h.own x c hx
  have hle := h.le_redo hx o
  have hxl : x < H.length := (List.getElem?_eq_some_iff.1 hb).1
  have hsz : (World.redo w c o).heap.size = w.heap.size := by simp [World.redo]
  have hbel : Below B.w0.heap.size w (World.redo w c o) := ⟨rfl, rfl, rfl, by rw [hsz]; exact Nat.le_refl _, fun k hk => by
    have hne : ¬ c = k := by omega
    simp [World.redo, hne]⟩
  refine ⟨⟨h.inj, fun y k hy => ?_, h.wf, fun y b2 hy => ?_, fun y hy => h.out y (by simpa using hy), fun k hk => by rw [hsz]; exact h.good k hk, h.g0, h.gn, h.bel.trans hbel, B.stab _ _ _ _ hle (Env.own.refl _) h.phi⟩, hle⟩
  · obtain ⟨h1, h2, h3⟩ := h.own y k hy
    exact ⟨h1, by rw [hsz]; exact h2, h3⟩
  · by_cases e : y = x
    · subst e
      rw [List.getElem?_set_self hxl] at hy
      cases hy
      refine .inr ⟨hv, fun k hk => ?_, fun hn => by rw [hn] at hx; cases hx⟩
      rw [hx] at hk
      cases hk
      exact hnew
    · rw [List.getElem?_set_ne (fun q => e q.symm)] at hy
      rcases h.heap y b2 hy with q | ⟨q1, q2, q3⟩
      · exact .inl q
      · refine .inr ⟨q1, fun k hk => (q2 k hk).move hle (Env.own.refl _) ?_ rfl, q3⟩
        have hne : ¬ c = k := fun e2 => e (h.inj _ _ _ hk (e2 ▸ hx))
        simp [World.redo, hne]
def updE : List (Int × D) → Int → D → List (Int × D)
  | [], x, d => [(x, d)]
  | (y, e) :: r, x, d => if y = x then (y, d) :: r else (y, e) :: updE r x d
theorem updE_find (es : List (Int × D)) (x : Int) (d : D) (y : Int) : findE (updE es x d) y = if y = x then some d else findE es y := by
  induction es with
  | nil => simp only [updE, findE]; by_cases h : x = y <;> simp [h, eq_comm]
  | cons p r ih =>
    obtain ⟨z, e⟩ := p
    simp only [updE]
    by_cases h : z = x
    · subst h
      rw [if_pos rfl]
      simp only [findE]
      by_cases q : z = y
      · simp [q]
      · simp [q, show ¬ y = z from fun c => q c.symm]
    · rw [if_neg h]
      simp only [findE, ih]
      by_cases q : z = y
      · subst q; simp [h]
      · simp [q]
theorem updE_len (es : List (Int × D)) (x : Int) (d : D) : (updE es x d).length = if (findE es x).isSome then es.length else es.length + 1 := by
  induction es with
  | nil => simp [updE, findE]
  | cons p r ih =>
    obtain ⟨z, e⟩ := p
    simp only [updE, findE]
    by_cases h : z = x
    · simp [h]
    · simp only [if_neg h, List.length_cons, ih]
      split <;> rfl
structure LtMax (n : IE) : Prop where
  h : n.den < maxLen
/-- what an update does to the blocks, and what follows -/
def sMapU (T : Tab) (H : List Bk) (o : Oper) (t : Nat) (m i d : D) (K : List Bk → Prop) : Prop := match T.get t, m, i with
  | some ⟨.map k _, _, _, _⟩, .mapr b, .int ki ie => (match T.get k, H[b]? with
    | some ⟨.int kk, _, _, _⟩, some (.mp kk' me) => if ki = kk ∧ kk' = kk ∧ d.dataB 5 = true then (match me, ie, d with
      | .lits es, .lit x, d => if es.length < maxLen then K (H.set b (.mp kk (.lits (updE es x d)))) else StuckP o [m, i, d]
      | .setb S n, ie, .bool (.lit true) => SplitP (.var (S ie.den)) (K (H.set b (.mp kk (.setb S n)))) (ReqP (fun _ => LtMax n) (K (H.set b (.mp kk (.setb (fun x => x == ie.den || S x) (.sum n (.lit 1)))))))
      | .fi k F n, ie, .int k' e => if k' = k then SplitP (.var (F ie.den).isSome) (K (H.set b (.mp kk (.fi k (fun x => if x = ie.den then some e.den else F x) n))))
          (ReqP (fun _ => LtMax n) (K (H.set b (.mp kk (.fi k (fun x => if x = ie.den then some e.den else F x) (.sum n (.lit 1))))))) else StuckP o [m, i, d]
      | _, _, _ => StuckP o [m, i, d]) else StuckP o [m, i, d]
    | _, _ => StuckP o [m, i, d])
  | _, _, _ => StuckP o [m, i, d]
section
variable {P : Program} {T : Tab} {H : List Bk} {ρ : Operand → D} {o : Oper}
theorem mapU_core {t k e : Nat} {kk : IntKind} {s1 b1 s2 b2 : Nat} {z1 z2 : Value} (h1 : TI.of P t = some ⟨.map k e, s1, b1, z1⟩) (h2 : TI.of P k = some ⟨.int kk, s2, b2, z2⟩) {m i x : Operand} (ho : o.op = .mapUpdate t m i x)
    {b : Nat} (hm : ρ m = .mapr b) {me me' : ME} (hb : H[b]? = some (.mp kk me)) {ie : IE} (hi : ρ i = .int kk ie) {d : D} (hd : ∀ {w : World} {E : Env} {v : Value}, DRep w E (ρ x) v → DRep w E.data d v)
    (hden : ∀ y, me'.den y = if y = ie.den then some d else me.den y) (hsz : me'.size = if (me.den ie.den).isSome = true then me.size else me.size + 1) (hle : me.den ie.den = none → me.size < maxLen) :
    EEff P H ρ o (H.set b (.mp kk me')) (.tup []) := by
  intro B w E ev hev hw
  have hx : execOp ev o = (do Instr.mapUpdate t (ev m) (ev i) (ev x); pure .skip) := by unfold execOp; rw [ho]
  have g1 := hev m
  rw [hm] at g1
  have g2 := hev i
  rw [hi] at g2
  have g3 := hd (hev x)
  generalize hv : ev m = vm at g1
  generalize hvi : ev i = vi at g2
  cases g2 with | int hr =>
  have hbb := hw.heap b _ hb
  cases g1 with
  | maps hκ =>
    rcases hbb with q | ⟨q, _, _⟩
    · omega
    · simp only [Bk.ver] at q; omega
  | @mapr _ _ c hκ hσ =>
    rcases hbb with q | ⟨_, q, _⟩
    · omega
    · obtain ⟨es, clock, q1, q2, q3, q4⟩ := q c hσ
      have und : ∀ {w : World} {E : Env}, DRep w E (.tup []) undef := DRep.tup rfl fun i d v h => by simp at h
      have hlt : c < w.heap.size := (hw.own b c hσ).2.1
      rcases map_find q4 ie.den with ⟨f1, f2⟩ | ⟨j, e', d', f1, f2, f3, f4, _⟩
      · have hrun : (Instr.mapUpdate t (.map (some c)) (.int kk ie.den) (ev x)).run P w = .ok () (World.redo w c (.map (es.push { key := .int kk ie.den, val := ev x, born := clock }) (clock + 1))) := by
          unfold Instr.mapUpdate
          simp only [Sem.run_bind, run_underlying (TI.of_map h1), Result.andThen, MapKept.run_getObj_map q1, MapKept.run_checkKey (TI.of_int h2) (k := .int kk ie.den) rfl, MapKept.run_findKey (TI.of_int h2) f2, MapKept.run_setObj_map _ q1]
          rfl
        obtain ⟨k1, k2⟩ := hw.putm hσ hb (b' := .mp kk me') (.map (es.push { key := .int kk ie.den, val := ev x, born := clock }) (clock + 1)) (by rw [hκ]; rfl)
          ⟨_, _, World.redo_at hlt _, by rw [hsz, f1]; simp [q2], by have := hle f1; rw [Array.size_push]; omega, by
            have := (q4.push f1 hr g3).congr (F' := me'.den) hden
            rw [Array.toList_push]
            exact MapOK.move this (hw.le_redo hσ _)⟩
        exact ⟨.skip, undef, _, E, by rw [hx, hv, hvi]; simp [hrun], .inr ⟨rfl, rfl⟩, k1, k2, Env.own.refl _, und, fun _ _ => ⟨rfl, rfl⟩⟩
      · have hsb : Instr.sameBits 10000 (.int kk ie.den) (.int kk ie.den) = true := by simp [Instr.sameBits]
        have hj : es[j]? = some e' := by rw [← Array.getElem?_toList]; exact f2
        have hrun : (Instr.mapUpdate t (.map (some c)) (.int kk ie.den) (ev x)).run P w = .ok () (World.redo w c (.map (es.modify j fun e => { e with key := .int kk ie.den, val := ev x }) clock)) := by
          unfold Instr.mapUpdate
          simp only [Sem.run_bind, run_underlying (TI.of_map h1), Result.andThen, MapKept.run_getObj_map q1, MapKept.run_checkKey (TI.of_int h2) (k := .int kk ie.den) rfl, MapKept.run_findKey (TI.of_int h2) f1, hj, Option.map_some, Option.getD_some, f3, Instr.keyThatStays, hsb, if_true, Sem.run_pure, MapKept.run_setObj_map _ q1]
          rfl
        obtain ⟨k1, k2⟩ := hw.putm hσ hb (b' := .mp kk me') (.map (es.modify j fun e => { e with key := .int kk ie.den, val := ev x }) clock) (by rw [hκ]; rfl)
          ⟨_, _, World.redo_at hlt _, by rw [hsz, f4]; simp [q2], by rw [Array.size_modify]; exact q3, by
            have := (q4.modify f2 f3 hr g3).congr (F' := me'.den) hden
            rw [Array.toList_modify]
            exact MapOK.move this (hw.le_redo hσ _)⟩
        exact ⟨.skip, undef, _, E, by rw [hx, hv, hvi]; simp [hrun], .inr ⟨rfl, rfl⟩, k1, k2, Env.own.refl _, und, fun _ _ => ⟨rfl, rfl⟩⟩
theorem sMapU_eff (hT : T.ok P) {t : Nat} {m i x : Operand} (ho : o.op = .mapUpdate t m i x) {K : List Bk → Prop} (hk : sMapU T H o t (ρ m) (ρ i) (ρ x) K) : ∃ H', EEff P H ρ o H' (.tup []) ∧ K H' := by
  unfold sMapU at hk
  split at hk
  case h_2 => cases hk
  next k e s1 b1 z1 b ki ie ht hm hi =>
  split at hk
  case h_2 => cases hk
  next kk s2 b2 z2 kk' me hkt hb =>
  split at hk
  case isFalse => cases hk
  next hc =>
  obtain ⟨rfl, rfl, hd⟩ := hc
  have hdr : ∀ {w : World} {E : Env} {v : Value}, DRep w E (ρ x) v → DRep w E.data (ρ x) v := fun {w E v} h => D.dataB_rep (E := E) (E' := E.data) rfl 5 hd h
  have core := fun {me' : ME} {d : D} => mapU_core (me' := me') (d := d) (Tab.get_ok hT ht) (Tab.get_ok hT hkt) ho hm hb hi
  split at hk
  · next es y =>
    split at hk
    · next hlen =>
      refine ⟨_, core (me' := .lits (updE es y (ρ x))) hdr (fun z => ?_) ?_ (fun _ => ?_), hk⟩
      · simp only [ME.den, IE.den]; exact updE_find _ _ _ _
      · show (((updE es y (ρ x)).length : Nat) : Int) = if (findE es y).isSome = true then (es.length : Int) else es.length + 1
        rw [updE_len]
        split <;> simp
      · simp only [ME.size]; omega
    · cases hk
  · next ie _ _ _ S n hd' =>
    obtain ⟨q1, q2⟩ := hk
    cases hS : S ie.den
    · obtain ⟨q3, q4⟩ := q2 hS
      refine ⟨_, core (me' := .setb (fun x => x == ie.den || S x) (.sum n (.lit 1))) hdr (fun z => ?_) ?_ (fun _ => ?_), q4 q3⟩
      · rw [hd']
        simp only [ME.den]
        by_cases c : z = ie.den <;> simp [c]
      · simp [ME.den, ME.size, hS, IE.den]
      · exact q3.h
    · refine ⟨_, core (me' := .setb S n) hdr (fun z => ?_) ?_ (fun c => ?_), q1 hS⟩
      · rw [hd']
        simp only [ME.den]
        by_cases c : z = ie.den <;> simp [c, hS]
      · simp [ME.den, ME.size, hS]
      · simp [ME.den, hS] at c
  · next ie _ _ _ k F n k2 e2 hd' =>
    split at hk
    · next hkk =>
      subst hkk
      obtain ⟨q1, q2⟩ := hk
      have hden : ∀ (n' : IE) (z : Int), (ME.fi k2 (fun x => if x = ie.den then some e2.den else F x) n').den z = if z = ie.den then some (.int k2 (.var e2.den)) else (ME.fi k2 F n).den z := fun n' z => by
        simp only [ME.den]
        by_cases c : z = ie.den <;> simp [c]
      have hdi : ∀ {w : World} {E : Env} {v : Value}, DRep w E (ρ x) v → DRep w E.data (.int k2 (.var e2.den)) v := fun {w E v} h => by
        rw [hd'] at h
        cases h with | int hr => exact .int (e := .var e2.den) hr
      cases hF : F ie.den with
      | none =>
        obtain ⟨q3, q4⟩ := q2 (by simp [BE.den, hF])
        exact ⟨_, core (me' := .fi k2 (fun x => if x = ie.den then some e2.den else F x) (.sum n (.lit 1))) hdi (hden _) (by simp [ME.den, ME.size, hF, IE.den]) (fun _ => q3.h), q4 q3⟩
      | some y =>
        exact ⟨_, core (me' := .fi k2 (fun x => if x = ie.den then some e2.den else F x) n) hdi (hden _) (by simp [ME.den, ME.size, hF]) (fun c => by simp [ME.den, hF] at c), q1 (by simp [BE.den, hF])⟩
    · cases hk
  · cases hk
/-- a map that is emptied -/
def ME.none : ME → ME
  | .lits _ => .lits []
  | .setb _ _ => .setb (fun _ => false) (.lit 0)
  | .fi k _ _ => .fi k (fun _ => Option.none) (.lit 0)
def sClear (T : Tab) (H : List Bk) (o : Oper) (t : Nat) (m : D) (K : List Bk → Prop) : Prop := match T.get t, m with
  | some ⟨.map _ _, _, _, _⟩, .mapr b => (match H[b]? with
    | some (.mp kk me) => K (H.set b (.mp kk me.none))
    | _ => StuckP o [m])
  | _, _ => StuckP o [m]
theorem sClear_eff (hT : T.ok P) {t : Nat} {m : Operand} (ho : o.op = .call ⟨.builtin .clear, #[m], #[t]⟩) {K : List Bk → Prop} (hk : sClear T H o t (ρ m) K) : ∃ H', EEff P H ρ o H' (.tup []) ∧ K H' := by
  unfold sClear at hk
  split at hk
  case h_2 => cases hk
  next k e s1 b1 z1 b ht hm =>
  split at hk
  case h_2 => cases hk
  next kk me hb =>
  refine ⟨_, fun B w E ev hev hw => ?_, hk⟩
  have h1 := Tab.get_ok hT ht
  have g1 := hev m
  rw [hm] at g1
  generalize hv : ev m = vm at g1
  have hbb := hw.heap b _ hb
  cases g1 with
  | maps hκ =>
    rcases hbb with q | ⟨q, _, _⟩
    · omega
    · simp only [Bk.ver] at q; omega
  | @mapr _ _ c hκ hσ =>
    rcases hbb with q | ⟨_, q, _⟩
    · omega
    · obtain ⟨es, clock, q1, q2, q3, q4⟩ := q c hσ
      have hlt : c < w.heap.size := (hw.own b c hσ).2.1
      obtain ⟨cs, hx⟩ := execOp_blt (P := P) (ev := ev) ho
      have hrun : (Builtin.clear_ #[t] o.type #[.map (some c)]).run P w = .ok (.tuple #[]) (World.redo w c (.map #[] clock)) := by
        unfold Builtin.clear_
        simp [run_underlying (TI.of_map h1), Result.andThen, MapKept.run_getObj_map q1, MapKept.run_setObj_map _ q1]
        rfl
      obtain ⟨k1, k2⟩ := hw.putm hσ hb (b' := .mp kk me.none) (.map #[] clock) (by rw [hκ]; rfl)
        ⟨#[], clock, World.redo_at hlt _, by cases me <;> rfl, Nat.zero_le _, ⟨fun e he => by simp at he, fun x d h => by cases me <;> simp [ME.none, ME.den, findE] at h, by simp, fun e he => by simp at he⟩⟩
      refine ⟨.value (.tuple #[]), .tuple #[], _, E, ?_, .inl rfl, k1, k2, Env.own.refl _, .tup rfl (fun i d v h => by simp at h), fun _ _ => ⟨rfl, rfl⟩⟩
      rw [hx w]
      simp [builtin, hv, hrun]
end
end Go.Proofs.YtdhfakajlnidiaaGreat
namespace Go.Proofs.YtdhfakajlnidiaaGreat
open Go.RowKit

/-! One datum behind another: the same by value, less, or a snapshot of an own block that is given up. -/
inductive DEq : D → D → Prop
  | refl (d : D) : DEq d d
  | junk (d : D) : DEq d .junk
  | int {k : IntKind} {e e' : IE} (h : e.den = e'.den) : DEq (.int k e) (.int k e')
  | bool {e e' : BE} (h : e.den = e'.den) : DEq (.bool e) (.bool e')
  | osl {n b ver : Nat} {nb nb' : BE} {lo lo' len len' : IE} (h0 : nb.den = nb'.den) (h1 : lo.den = lo'.den) (h2 : len.den = len'.den) : DEq (.osl n b ver nb lo len) (.osl n b ver nb' lo' len')
  | slm {α : Type} {n : Nat} {nb nb' : Option BE} {c : α → List D} {l l' : List α} (h0 : nb' = none ∨ nb' = nb) (h : l = l') : DEq (.slm n nb c l) (.slm n nb' c l')
  | slmb {α : Type} {n : Nat} {e e' : BE} {c : α → List D} {l l' : List α} (h0 : e.den = e'.den) (h : l = l') : DEq (.slm n (some e) c l) (.slm n (some e') c l')
  | slc {α β : Type} {n : Nat} {nb : Option BE} {c : α → List D} {c' : β → List D} {l : List α} {l' : List β} (h : l.map c = l'.map c') : DEq (.slm n nb c l) (.slm n nb c' l')
  | nilm {α : Type} {n : Nat} {c : α → List D} : DEq .nils (.slm n (some (.lit true)) c ([] : List α))
  | nilv {α : Type} {n : Nat} {e : BE} {c : α → List D} {l : List α} (h : l = []) (he : e.den = true) : DEq .nils (.slm n (some e) c l)
  | nil0 {α : Type} {n : Nat} {c : α → List D} {l : List α} (h : l = []) : DEq .nils (.slm n none c l)
  | sll {α : Type} {n : Nat} {es : List (List D)} {c : α → List D} {l : List α} {nb : Option BE} (h : es = l.map c) (hn : ∀ e, nb = some e → e.den = false) : DEq (.sll n es) (.slm n nb c l)
  | lls {α : Type} {n : Nat} {es : List (List D)} {c : α → List D} {l : List α} {nb : Option BE} (h : l.map c = es) (hn : es ≠ []) : DEq (.slm n nb c l) (.sll n es)
  | byte {e : IE} {b : BitVec 8} (h : b = BitVec.ofInt 8 e.den) : DEq (.int .u8 e) (.int .u8 (.u8 b))
  | str {s s' : ByteArray} (h : s = s') : DEq (.str s) (.str s')
  | slls {n : Nat} {es es' : List (List D)} (hl : es.length = es'.length) (h0 : ∀ (i : Nat) e e', es[i]? = some e → es'[i]? = some e' → e.length = e'.length) (h : ∀ (i : Nat) e e', es[i]? = some e → es'[i]? = some e' → ∀ (j : Nat) d d', e[j]? = some d → e'[j]? = some d' → DEq d d') : DEq (.sll n es) (.sll n es')
  | aggs {l l' : List D} (hl : l.length = l'.length) (h : ∀ (i : Nat) d d', l[i]? = some d → l'[i]? = some d' → DEq d d') : DEq (.agg l) (.agg l')
  | tups {l l' : List D} (hl : l.length = l'.length) (h : ∀ (i : Nat) d d', l[i]? = some d → l'[i]? = some d' → DEq d d') : DEq (.tup l) (.tup l')
  | arr {k : IntKind} {m : Nat} {f f' : Nat → Int} (h : ∀ i, i < m → f i = f' i) : DEq (.arr k m f) (.arr k m f')
  | dpa {k : IntKind} {m : Nat} {f f' : Nat → Int} (h : ∀ i, i < m → f i = f' i) : DEq (.dpa k m f) (.dpa k m f')
  | mapd {kk k : IntKind} {F F' : Int → Option Int} {n n' : IE} (h : ∀ x, F x = F' x) (hn : n.den = n'.den) : DEq (.mapd kk k F n) (.mapd kk k F' n')
theorem map_get {α β : Type} {c : α → List D} {c' : β → List D} {l : List α} {l' : List β} (h : l.map c = l'.map c') {i : Nat} {y : β} (hy : l'[i]? = some y) : ∃ x, l[i]? = some x ∧ c x = c' y := by
  have := congrArg (·[i]?) h
  simp only [List.getElem?_map, hy, Option.map_some, Option.map_eq_some_iff] at this
  exact this
theorem DEq.rep {w : World} {E : Env} {d d' : D} {v : Value} (h : DEq d d') (hr : DRep w E d v) : DRep w E d' v := by
  induction h generalizing E v with
  | refl => exact hr
  | junk => exact .junk
  | int h => cases hr with | int hi => rw [h]; exact .int (h ▸ hi)
  | bool h => cases hr; rw [h]; exact .bool
  | osl h0 h1 h2 =>
    cases hr with
    | oslc hk hs hnb hl hn hc hm hsz => rw [h1]; exact .oslc hk hs (h0 ▸ hnb) (h1 ▸ hl) (h2 ▸ hn) hc hm (h1 ▸ hsz)
    | osln hk hs hnb hl hn => exact .osln hk hs (h0 ▸ hnb) (h1 ▸ hl) (h2 ▸ hn)
    | osls hk => exact .osls hk
  | slm h0 h =>
    subst h
    cases hr with | slm u hnb hc hm hx ha hh => exact .slm u (fun e he => by rcases h0 with rfl | rfl; cases he; exact hnb e he) hc hm hx ha hh
  | slmb h0 h =>
    subst h
    cases hr with | slm u hnb hc hm hx ha hh => exact .slm u (fun e he => by cases he; rw [← h0]; exact hnb _ rfl) hc hm hx ha hh
  | @slc α β n nb c c' l l' h =>
    have hlen : l.length = l'.length := by have := congrArg List.length h; simpa using this
    cases hr with | slm u hnb hc hm hx ha hh =>
    rw [hlen]
    refine .slm u hnb (by omega) hm (fun y hy => ?_) (fun hne => ?_) fun i y j d hy hd => ?_
    · obtain ⟨i, hi⟩ := List.getElem?_of_mem hy
      obtain ⟨x, h1, h2⟩ := map_get h hi
      rw [← h2]
      exact hx x (List.mem_of_getElem? h1)
    · obtain ⟨b, base, q1, q2, q3⟩ := ha (by intro e; subst e; simp at hlen; exact hne (List.length_eq_zero_iff.1 hlen.symm))
      exact ⟨b, base, q1, q2, fun i j hi hj => q3 i j (by omega) hj⟩
    · obtain ⟨x, h1, h2⟩ := map_get h hy
      exact hh i x j d h1 (by rw [h2]; exact hd)
  | nilm =>
    cases hr
    exact .slm (fun _ _ => undef) (fun e he => by cases he; rfl) (Nat.le_refl _) (Nat.zero_le _) (fun x hx => by cases hx) (fun h => absurd rfl h) fun i x j d hx => by simp at hx
  | nilv h he' =>
    subst h
    cases hr
    exact .slm (fun _ _ => undef) (fun e he => by cases he; rw [he']; rfl) (Nat.le_refl _) (Nat.zero_le _) (fun x hx => by cases hx) (fun h => absurd rfl h) fun i x j d hx => by simp at hx
  | nil0 h =>
    subst h
    cases hr
    exact .slm (fun _ _ => undef) (fun e he => by cases he) (Nat.le_refl _) (Nat.zero_le _) (fun x hx => by cases hx) (fun h => absurd rfl h) fun i x j d hx => by simp at hx
  | @sll α n es c l nb h hn =>
    subst h
    cases hr with | @sll _ _ _ a cap u hc hm hx ha hh =>
    simp only [List.length_map] at hc ha ⊢
    obtain ⟨b, base, q1, q2, q3⟩ := ha
    refine .slm u (fun e he => by rw [hn e he, q1]; rfl) hc hm (fun x hx' => hx _ (List.mem_map.2 ⟨x, hx', rfl⟩)) (fun _ => ⟨b, base, q1, q2, q3⟩) fun i x j d hx' hd => hh i (c x) j d (by simp [hx']) hd
  | @lls α n es c l nb h hn =>
    subst h
    cases hr with | @slm _ _ _ _ _ _ a cap u hnb hc hm hx ha hh =>
    obtain ⟨b, base, q1, q2, q3⟩ := ha (by intro e; subst e; exact hn rfl)
    have := DRep.sll (w := w) (E := E) (n := n) (es := l.map c) (a := a) (cap := cap) u (by simpa using hc) hm (fun x hx' => by obtain ⟨y, hy, rfl⟩ := List.mem_map.1 hx'; exact hx y hy) ⟨b, base, q1, q2, by simpa using q3⟩ (fun i x j d hx' hd => by
      simp only [List.getElem?_map, Option.map_eq_some_iff] at hx'
      obtain ⟨y, hy, rfl⟩ := hx'
      exact hh i y j d hy hd)
    simpa using this
  | @byte e b h =>
    cases hr with | int hi =>
    have hn : ((BitVec.ofInt 8 e.den).toNat : Int) = e.den := by
      have hi2 := hi
      simp [InR, IntKind.min, IntKind.max, IntKind.signed, IntKind.bits] at hi2
      rw [BitVec.toNat_ofInt]
      omega
    have h2 : (IE.u8 b).den = e.den := by rw [h]; exact hn
    rw [← h2]
    exact .int (by rw [h2]; exact hi)
  | str h => subst h; exact hr
  | arr h => cases hr with | arr hs hh => exact .arr hs fun i hi => by rw [← h i hi]; exact hh i hi
  | dpa h => cases hr with | dpa hg hh => exact .dpa hg fun i hi => by rw [← h i hi]; exact hh i hi
  | mapd h hn => cases hr with | mapd hg hb hn' hm hv hh ha hc => exact .mapd hg hb (hn'.trans hn) hm (fun e he => by simpa only [h] using hv e he) (fun x y hxy => hh x y (by rw [h]; exact hxy)) ha hc
  | @slls n es es' hl h0 _ ih =>
    cases hr with | @sll _ _ _ a cap u hc hm hx ha hh =>
    rw [hl]
    obtain ⟨b, base, q1, q2, q3⟩ := ha
    have old : ∀ (i : Nat) e', es'[i]? = some e' → ∃ e, es[i]? = some e := fun i e' he' => by
      have := (List.getElem?_eq_some_iff.1 he').1
      exact ⟨_, List.getElem?_eq_getElem (by omega)⟩
    refine .sll u (by omega) hm (fun e' he' => ?_) ⟨b, base, q1, q2, fun i j hi hj => q3 i j (by omega) hj⟩ fun i e' j d' he' hd' => ?_
    · obtain ⟨i, hi⟩ := List.getElem?_of_mem he'
      obtain ⟨e, he⟩ := old i e' hi
      rw [← h0 i e e' he hi]
      exact hx e (List.mem_of_getElem? he)
    · obtain ⟨e, he⟩ := old i e' he'
      have hlt := (List.getElem?_eq_some_iff.1 hd').1
      have hj : e[j]? = some (e[j]'(by rw [h0 i e e' he he']; exact hlt)) := List.getElem?_eq_getElem _
      exact ih i e e' he he' j _ d' hj hd' (hh i e j _ he hj)
  | @aggs l l' hl _ ih =>
    cases hr with | @agg _ _ vs hs hh =>
    refine .agg (by omega) fun i d v h1 h2 => ?_
    have hlt := (List.getElem?_eq_some_iff.1 h1).1
    have h3 : l[i]? = some (l[i]'(by omega)) := List.getElem?_eq_getElem (by omega)
    exact ih i _ _ h3 h1 (hh i _ v h3 h2)
  | @tups l l' hl _ ih =>
    cases hr with | @tup _ _ vs hs hh =>
    refine .tup (by omega) fun i d v h1 h2 => ?_
    have hlt := (List.getElem?_eq_some_iff.1 h1).1
    have h3 : l[i]? = some (l[i]'(by omega)) := List.getElem?_eq_getElem (by omega)
    exact ih i _ _ h3 h1 (hh i _ v h3 h2)
inductive DsEq : List D → List D → Prop
  | nil : DsEq [] []
  | cons {d d' : D} {l l' : List D} (h : DEq d d') (r : DsEq l l') : DsEq (d :: l) (d' :: l')
theorem DsEq.get {l l' : List D} (h : DsEq l l') : l.length = l'.length ∧ ∀ (i : Nat) d d', l[i]? = some d → l'[i]? = some d' → DEq d d' := by
  induction h with
  | nil => exact ⟨rfl, fun i d d' h => by simp at h⟩
  | cons h r ih =>
    refine ⟨by simp [ih.1], fun i d d' hd hd' => ?_⟩
    cases i with
    | zero => simp at hd hd'; subst hd; subst hd'; exact h
    | succ i => exact ih.2 i d d' (by simpa using hd) (by simpa using hd')
inductive EsEq : List (List D) → List (List D) → Prop
  | nil : EsEq [] []
  | cons {e e' : List D} {l l' : List (List D)} (h : DsEq e e') (r : EsEq l l') : EsEq (e :: l) (e' :: l')
theorem EsEq.get {l l' : List (List D)} (h : EsEq l l') : l.length = l'.length ∧ ∀ (i : Nat) e e', l[i]? = some e → l'[i]? = some e' → DsEq e e' := by
  induction h with
  | nil => exact ⟨rfl, fun i d d' h => by simp at h⟩
  | cons h r ih =>
    refine ⟨by simp [ih.1], fun i d d' hd hd' => ?_⟩
    cases i with
    | zero => simp at hd hd'; subst hd; subst hd'; exact h
    | succ i => exact ih.2 i d d' (by simpa using hd) (by simpa using hd')
theorem DEq.lits {n : Nat} {es es' : List (List D)} (h : EsEq es es') : DEq (.sll n es) (.sll n es') := .slls h.get.1 (fun i e e' h1 h2 => (h.get.2 i e e' h1 h2).get.1) fun i e e' h1 h2 => (h.get.2 i e e' h1 h2).get.2
theorem DEq.agg {l l' : List D} (h : DsEq l l') : DEq (.agg l) (.agg l') := .aggs h.get.1 h.get.2
theorem DEq.tup {l l' : List D} (h : DsEq l l') : DEq (.tup l) (.tup l') := .tups h.get.1 h.get.2
/-- a block of the caller's own that is not used any more -/
def goneB (H' : List Bk) (b : Nat) : Bool := match H'[b]? with
  | none => true
  | some .dead => true
  | _ => false
/-- what a block holds, element by element -/
def Holds (H : List Bk) (b ver n : Nat) (es : List (List D)) : Prop :=
  (∃ ty r, H[b]? = some (.row ty n ver r) ∧ r.den = es) ∨ (ver = 1 ∧ ∃ ds, H[b]? = some (.cells ds) ∧ ds = es.flatten ∧ ∀ e ∈ es, e.length = n ∧ e.all (D.dataB 5) = true)
inductive SnD (H H' : List Bk) : D → D → Prop
  | eq {d d' : D} (h : DEq d d') : SnD H H' d d'
  | slm {n b ver : Nat} {nb : BE} {lo len : IE} {α : Type} {nb' : Option BE} {c : α → List D} {l : List α} (hg : goneB H' b = true) (hr : Holds H b ver n (l.map c)) (h0 : lo.den = 0) (h1 : len.den = l.length) (h2 : ∀ e, nb' = some e → e.den = nb.den) :
      SnD H H' (.osl n b ver nb lo len) (.slm n nb' c l)
  | sll {n b ver : Nat} {nb : BE} {lo len : IE} {es : List (List D)} (hg : goneB H' b = true) (hr : Holds H b ver n es) (h0 : lo.den = 0) (h1 : len.den = es.length) (h2 : nb.den = false) : SnD H H' (.osl n b ver nb lo len) (.sll n es)
  | trans {d d' d'' : D} (h : SnD H H' d d') (h2 : DEq d' d'') : SnD H H' d d''
  | agg {l l' : List D} (hl : l.length = l'.length) (h : ∀ (i : Nat) d d', l[i]? = some d → l'[i]? = some d' → SnD H H' d d') : SnD H H' (.agg l) (.agg l')
  | tup {l l' : List D} (hl : l.length = l'.length) (h : ∀ (i : Nat) d d', l[i]? = some d → l'[i]? = some d' → SnD H H' d d') : SnD H H' (.tup l) (.tup l')
  | dp {b off : Nat} {cells : List D} (hg : goneB H' b = true) (hb : H[b]? = some (.cells cells)) (hd : cells.all (D.dataB 8) = true) : SnD H H' (.ptr b 1 off) (.dp cells off)
  | dpn {b off : Nat} {cells cells' : List D} (hg : goneB H' b = true) (hb : H[b]? = some (.cells cells)) (hl : cells.length = cells'.length) (hd : cells'.all (D.dataB 8) = true) (h : ∀ (i : Nat) d d', cells[i]? = some d → cells'[i]? = some d' → SnD H H' d d') : SnD H H' (.ptr b 1 off) (.dp cells' off)
  | fn {f : Fn} {a a' c c' : List D} (ha : a.length = a'.length) (hc : c.length = c'.length) (h0 : ∀ (i : Nat) d d', a[i]? = some d → a'[i]? = some d' → SnD H H' d d') (h1 : ∀ (i : Nat) d d', c[i]? = some d → c'[i]? = some d' → SnD H H' d d') : SnD H H' (.fn f a c) (.fn f a' c')
  | arrp {b : Nat} {k : IntKind} {m : Nat} {f f' : Nat → Int} (hg : goneB H' b = true) (hb : H[b]? = some (.arr k m f)) (h : ∀ i, i < m → f i = f' i) : SnD H H' (.ptr b 1 0) (.dpa k m f')
  | mapd {b : Nat} {kk k : IntKind} {F F' : Int → Option Int} {n n' : IE} (hg : goneB H' b = true) (hb : H[b]? = some (.mp kk (.fi k F n))) (h : ∀ x, F x = F' x) (hn : n.den = n'.den) : SnD H H' (.mapr b) (.mapd kk k F' n')
inductive SnDs (H H' : List Bk) : List D → List D → Prop
  | nil : SnDs H H' [] []
  | cons {d d' : D} {l l' : List D} (h : SnD H H' d d') (r : SnDs H H' l l') : SnDs H H' (d :: l) (d' :: l')
theorem SnDs.get {H H' : List Bk} {l l' : List D} (h : SnDs H H' l l') : l.length = l'.length ∧ ∀ (i : Nat) d d', l[i]? = some d → l'[i]? = some d' → SnD H H' d d' := by
  induction h with
  | nil => exact ⟨rfl, fun i d d' h => by simp at h⟩
  | cons h r ih =>
    refine ⟨by simp [ih.1], fun i d d' hd hd' => ?_⟩
    cases i with
    | zero => simp at hd hd'; subst hd; subst hd'; exact h
    | succ i => exact ih.2 i d d' (by simpa using hd) (by simpa using hd')
theorem SnDs.refl {H H' : List Bk} : ∀ (l : List D), SnDs H H' l l
  | [] => .nil
  | d :: l => .cons (.eq (.refl d)) (SnDs.refl l)
theorem SnD.fns {H H' : List Bk} {f : Fn} {a a' c c' : List D} (h : SnDs H H' a a') (h' : SnDs H H' c c') : SnD H H' (.fn f a c) (.fn f a' c') := .fn h.get.1 h'.get.1 h.get.2 h'.get.2
theorem SnD.aggs {H H' : List Bk} {l l' : List D} (h : SnDs H H' l l') : SnD H H' (.agg l) (.agg l') := .agg h.get.1 h.get.2
theorem SnD.tups {H H' : List Bk} {l l' : List D} (h : SnDs H H' l l') : SnD H H' (.tup l) (.tup l') := .tup h.get.1 h.get.2
theorem flatten_get {n : Nat} : ∀ (es : List (List D)), (∀ e ∈ es, e.length = n) → ∀ (i : Nat) e, es[i]? = some e → ∀ (j : Nat) d, e[j]? = some d → es.flatten[i * n + j]? = some d
  | [], _, i, e, h, _, _, _ => by simp at h
  | e0 :: es, hl, i, e, he, j, d, hd => by
    have h0 := hl e0 (by simp)
    have hj : j < e.length := (List.getElem?_eq_some_iff.1 hd).1
    cases i with
    | zero =>
      simp at he
      subst he
      simp only [List.flatten_cons, Nat.zero_mul, Nat.zero_add]
      rw [List.getElem?_append_left hj]
      exact hd
    | succ i =>
      simp only [List.getElem?_cons_succ] at he
      simp only [List.flatten_cons]
      rw [List.getElem?_append_right (by rw [h0, Nat.add_mul]; omega), h0, Nat.add_mul, show i * n + 1 * n + j - n = i * n + j by omega]
      exact flatten_get es (fun e he => hl e (by simp [he])) i e he j d hd
theorem Holds.cells {w : World} {E : Env} {H : List Bk} (hH : HRep w E H) {b ver n c : Nat} {es : List (List D)} (h : Holds H b ver n es) (hs : E.σ b = some c) : ∃ cs t, w.heap[c]? = some (.cells cs t (0, 0)) ∧ ∀ (i : Nat) e, es[i]? = some e → e.length = n ∧ ∀ (j : Nat) d, e[j]? = some d → ∃ v, cs[i * n + j]? = some v ∧ DRep w E.data d v := by
  rcases h with ⟨ty, r, hb, rfl⟩ | ⟨rfl, ds, hb, hd, hx⟩
  · rcases hH b _ hb with q | ⟨_, q, _⟩
    · rw [q.2] at hs; cases hs
    · obtain ⟨cs, t, _, g1, _, _, g4⟩ := q c hs
      exact ⟨cs, t, g1, g4⟩
  · rcases hH b _ hb with q | ⟨_, q, _⟩
    · rw [q.2] at hs; cases hs
    · obtain ⟨cs, t, g1, _, _, g4⟩ := q c hs
      refine ⟨cs, t, g1, fun i e he => ?_⟩
      obtain ⟨h1, h2⟩ := hx e (List.mem_of_getElem? he)
      refine ⟨h1, fun j d hd' => ?_⟩
      obtain ⟨v, h3, h4⟩ := g4 (i * n + j) d (by rw [hd]; exact flatten_get es (fun e he => (hx e he).1) i e he j d hd')
      exact ⟨v, h3, D.dataB_rep (E := E) (E' := E.data) rfl 5 (List.all_eq_true.1 h2 d (List.mem_of_getElem? hd')) h4⟩
theorem Holds.virt {w : World} {E : Env} {H : List Bk} (hH : HRep w E H) {b ver n : Nat} {es : List (List D)} (h : Holds H b ver n es) : Bk.at H b ver = true := by
  rcases h with ⟨ty, r, hb, rfl⟩ | ⟨rfl, ds, hb, hd, hx⟩
  · unfold Bk.at; rw [hb]; simp
  · unfold Bk.at; rw [hb]; simp
theorem Holds.lt {H : List Bk} {b ver n : Nat} {es : List (List D)} (h : Holds H b ver n es) : b < H.length := by
  rcases h with ⟨ty, r, hb, _⟩ | ⟨_, ds, hb, _⟩ <;> exact (List.getElem?_eq_some_iff.1 hb).1
theorem SnD.rep {w : World} {E E1 : Env} {H H' : List Bk} (hH : HRep w E H) (hle : E.le w w E1) (hown : E.own E1) (hfz : ∀ x c, x < H.length → goneB H' x = true → E.σ x = some c → E1.G c) {d d' : D} (h : SnD H H' d d') : ∀ {v : Value}, DRep w E d v → DRep w E1 d' v := by
  induction h with
  | eq h => exact fun hr => (h.rep hr).move hle hown
  | trans _ h2 ih => exact fun hr => h2.rep (ih hr)
  | @slm n b ver nb lo len α nb' c l hg hr h0 h1 h2 =>
    intro v hv
    have hat := at_spec (hr.virt hH) hH
    cases hv with
    | @oslc _ _ _ _ _ _ _ cc m cap hk hs hnb hl hn hc hm hsz =>
      obtain ⟨cs, t, g1, gg⟩ := hr.cells hH hs
      have hml : m = l.length := by omega
      subst hml
      rw [h0]
      simp only [Int.toNat_zero, Nat.zero_mul]
      have gg : ∀ (i : Nat) x, l[i]? = some x → (c x).length = n ∧ ∀ (j : Nat) d, (c x)[j]? = some d → ∃ v, cs[i * n + j]? = some v ∧ DRep w E.data d v := fun i x hx => gg i (c x) (by simp [hx])
      refine .slm (fun i j => (cs[i * n + j]?).getD undef) (fun e he => by rw [h2 e he, hnb]; rfl) hc hm (fun x hx => ?_) (fun _ => ⟨cc, 0, rfl, hfz b cc hr.lt hg hs, fun i j hi hj => ?_⟩) fun i x j d hx hd => ?_
      · obtain ⟨i, hi⟩ := List.getElem?_of_mem hx
        exact (gg i x hi).1
      · obtain ⟨h4, h5⟩ := gg i _ (List.getElem?_eq_getElem hi)
        obtain ⟨u, h6, _⟩ := h5 j _ (List.getElem?_eq_getElem (by omega))
        rw [Nat.zero_add, h6]
        simp [World.cell?, g1, h6]
      · obtain ⟨u, h6, h7⟩ := (gg i x hx).2 j d hd
        rw [h6]
        exact h7.move hle.data Env.own.data
    | osln hk hs hnb hl hn =>
      have : l = [] := List.length_eq_zero_iff.1 (by omega)
      subst this
      exact .slm (fun _ _ => undef) (fun e he => by rw [h2 e he, hnb]; rfl) (Nat.le_refl _) (Nat.zero_le _) (fun x hx => by cases hx) (fun h => absurd rfl h) fun i x j d hx => by simp at hx
    | osls hk => rcases hat with q | q <;> omega
  | @sll n b ver nb lo len es hg hr h0 h1 h2 =>
    intro v hv
    have hat := at_spec (hr.virt hH) hH
    cases hv with
    | @oslc _ _ _ _ _ _ _ cc m cap hk hs hnb hl hn hc hm hsz =>
      obtain ⟨cs, t, g1, gg⟩ := hr.cells hH hs
      have hml : m = es.length := by omega
      subst hml
      rw [h0]
      simp only [Int.toNat_zero, Nat.zero_mul]
      refine .sll (fun i j => (cs[i * n + j]?).getD undef) hc hm (fun x hx => ?_) ⟨cc, 0, rfl, hfz b cc hr.lt hg hs, fun i j hi hj => ?_⟩ fun i x j d hx hd => ?_
      · obtain ⟨i, hi⟩ := List.getElem?_of_mem hx
        exact (gg i x hi).1
      · obtain ⟨h4, h5⟩ := gg i _ (List.getElem?_eq_getElem hi)
        obtain ⟨u, h6, _⟩ := h5 j _ (List.getElem?_eq_getElem (by omega))
        rw [Nat.zero_add, h6]
        simp [World.cell?, g1, h6]
      · obtain ⟨u, h6, h7⟩ := (gg i x hx).2 j d hd
        rw [h6]
        exact h7.move hle.data Env.own.data
    | osln hk hs hnb hl hn => rw [h2] at hnb; cases hnb
    | osls hk => rcases hat with q | q <;> omega
  | @dp b off cells hg hb hd =>
    intro v hv
    have hat := at_spec (b := b) (ver := 1) (show Bk.at H b 1 = true by unfold Bk.at; rw [hb]; rfl) hH
    cases hv with
    | @ptr _ _ _ _ cc hk hs =>
      rcases hH b _ hb with ⟨q, _⟩ | ⟨_, q, _⟩
      · omega
      obtain ⟨cs, t, g1, g2, _, g4⟩ := q cc hs
      have e0 : off = 0 + off := (Nat.zero_add off).symm
      rw [show (Value.pointer (some ⟨cc, off, none⟩)) = .pointer (some ⟨cc, 0 + off, none⟩) by rw [Nat.zero_add]]
      refine .dp (fun j => (cs[j]?).getD undef) (hfz b cc (List.getElem?_eq_some_iff.1 hb).1 hg hs) (fun j hj => ?_) fun j d hj => ?_
      · obtain ⟨u, h6, _⟩ := g4 j _ (List.getElem?_eq_getElem hj)
        rw [Nat.zero_add, h6]
        simp [World.cell?, g1, h6]
      · obtain ⟨u, h6, h7⟩ := g4 j d hj
        rw [h6]
        exact (D.dataB_rep (E := E) (E' := E.data) rfl 8 (List.all_eq_true.1 hd d (List.mem_of_getElem? hj)) h7).move hle.data Env.own.data
    | ptrs hk => rcases hat with q | q <;> omega
  | @dpn b off cells cells' hg hb hl hd _ ih =>
    intro v hv
    have hat := at_spec (b := b) (ver := 1) (show Bk.at H b 1 = true by unfold Bk.at; rw [hb]; rfl) hH
    cases hv with
    | @ptr _ _ _ _ cc hk hs =>
      rcases hH b _ hb with ⟨q, _⟩ | ⟨_, q, _⟩
      · omega
      obtain ⟨cs, t, g1, g2, _, g4⟩ := q cc hs
      rw [show (Value.pointer (some ⟨cc, off, none⟩)) = .pointer (some ⟨cc, 0 + off, none⟩) by rw [Nat.zero_add]]
      refine .dp (fun j => (cs[j]?).getD undef) (hfz b cc (List.getElem?_eq_some_iff.1 hb).1 hg hs) (fun j hj => ?_) fun j d' hj => ?_
      · obtain ⟨u, h6, _⟩ := g4 j (cells[j]'(by omega)) (List.getElem?_eq_getElem (by omega))
        rw [Nat.zero_add, h6]
        simp [World.cell?, g1, h6]
      · have hlt := (List.getElem?_eq_some_iff.1 hj).1
        have hc0 : cells[j]? = some (cells[j]'(by omega)) := List.getElem?_eq_getElem (by omega)
        obtain ⟨u, h6, h7⟩ := g4 j _ hc0
        rw [h6]
        exact D.dataB_rep (E := E1) (E' := E1.data) rfl 8 (List.all_eq_true.1 hd d' (List.mem_of_getElem? hj)) (ih j _ d' hc0 hj h7)
    | ptrs hk => rcases hat with q | q <;> omega
  | @arrp b k m f f' hg hb h =>
    intro v hv
    have hat := at_spec (b := b) (ver := 1) (show Bk.at H b 1 = true by unfold Bk.at; rw [hb]; rfl) hH
    cases hv with
    | @ptr _ _ _ _ cc hk hs =>
      rcases hH b _ hb with ⟨q, _⟩ | ⟨_, q, _⟩
      · omega
      obtain ⟨cs, t, g1, g2, _, g4⟩ := q cc hs
      refine .dpa (hfz b cc (List.getElem?_eq_some_iff.1 hb).1 hg hs) fun i hi => ?_
      obtain ⟨h6, h7⟩ := g4 i hi
      rw [← h i hi, Nat.zero_add]
      exact ⟨by simp [World.cell?, g1, h6], h7⟩
    | ptrs hk => rcases hat with q | q <;> omega
  | @mapd b kk k F F' n n' hg hb h hn =>
    intro v hv
    have hat := at_spec (b := b) (ver := 1) (show Bk.at H b 1 = true by unfold Bk.at; rw [hb]; rfl) hH
    cases hv with
    | @mapr _ _ cc hk hs =>
      rcases hH b _ hb with ⟨q, _⟩ | ⟨_, q, _⟩
      · omega
      obtain ⟨es, clock, g1, g2, g3, g4⟩ := q cc hs
      refine .mapd (hfz b cc (List.getElem?_eq_some_iff.1 hb).1 hg hs) g1 (g2.trans hn) g3 (fun e he => ?_) (fun x y hxy => ?_) g4.apart g4.clock
      · obtain ⟨x, d, q1, q2, q3, q4⟩ := g4.val e he
        simp only [ME.den] at q3
        rw [h] at q3
        cases hF : F' x with
        | none => rw [hF] at q3; cases q3
        | some y =>
          rw [hF] at q3
          simp only [Option.some.injEq] at q3
          subst q3
          generalize hev : e.val = ev at q4
          cases q4 with | int hi => exact ⟨x, y, q1, q2, hF, hi, rfl⟩
      · exact g4.has x (.int k (.var y)) (by simp only [ME.den]; rw [h, hxy])
    | maps hk => rcases hat with q | q <;> omega
  | @fn f a a' c c' ha hc _ _ ih0 ih1 =>
    intro v hv
    cases hv with | @fn _ _ _ _ x0 x1 hs0 hs1 h0 h1 =>
    refine .fn (by omega) (by omega) (fun i d v p1 p2 => ?_) (fun i d v p1 p2 => ?_)
    · have hlt := (List.getElem?_eq_some_iff.1 p1).1
      have h3 : a[i]? = some (a[i]'(by omega)) := List.getElem?_eq_getElem (by omega)
      exact ih0 i _ _ h3 p1 (h0 i _ v h3 p2)
    · have hlt := (List.getElem?_eq_some_iff.1 p1).1
      have h3 : c[i]? = some (c[i]'(by omega)) := List.getElem?_eq_getElem (by omega)
      exact ih1 i _ _ h3 p1 (h1 i _ v h3 p2)
  | @agg l l' hl _ ih =>
    intro v hv
    cases hv with | @agg _ _ vs hs hh =>
    refine .agg (by omega) fun i d v h1 h2 => ?_
    have hlt := (List.getElem?_eq_some_iff.1 h1).1
    have h3 : l[i]? = some (l[i]'(by omega)) := List.getElem?_eq_getElem (by omega)
    exact ih i _ _ h3 h1 (hh i _ v h3 h2)
  | @tup l l' hl _ ih =>
    intro v hv
    cases hv with | @tup _ _ vs hs hh =>
    refine .tup (by omega) fun i d v h1 h2 => ?_
    have hlt := (List.getElem?_eq_some_iff.1 h1).1
    have h3 : l[i]? = some (l[i]'(by omega)) := List.getElem?_eq_getElem (by omega)
    exact ih i _ _ h3 h1 (hh i _ v h3 h2)
/-- all own blocks are lent: what a call sees of them is data -/
def Env.lent (E : Env) : Nat → Prop := fun b => E.G b ∨ ∃ x, E.σ x = some b
theorem SnD.lent {w : World} {E : Env} {H : List Bk} (hH : HRep w E H) {d d' : D} (h : SnD H [] d d') {v : Value} (hr : DRep w E d v) {f : Nat} (hd : d'.dataB f = true) : DRep w (Env.of E.lent) d' v := by
  have := h.rep (E1 := ⟨E.lent, fun _ => none, fun b => E.κ b + 1, E.ζ⟩) hH ⟨fun _ h => .inl h, fun _ _ => rfl⟩ ⟨fun _ => Nat.le_succ _, fun b e => by simp only at e; omega⟩ (fun x c _ _ hs => .inr ⟨x, hs⟩) hr
  exact D.dataB_rep (E := ⟨E.lent, fun _ => none, fun b => E.κ b + 1, E.ζ⟩) (E' := Env.of E.lent) rfl f hd this
end Go.Proofs.YtdhfakajlnidiaaGreat
namespace Go.Proofs.YtdhfakajlnidiaaGreat
open Go.RowKit

/-! copy into a slice of the call's own. -/
/-- what follows is not worked out yet -/
structure HoldP (p : Unit → Prop) (K : Unit → Prop) : Prop where
  h : p ()
  k : K ()
def sCopy (T : Tab) (H : List Bk) (o : Oper) (td ts : Nat) (d s : D) (K : List Bk → D → Prop) : Prop := match T.get td, T.get ts, elemsOf H s with
  | some ⟨.slice e, _, _, _⟩, some ⟨.slice _, _, _, _⟩, some (n, rx, m) => (match T.get e with
    | some te => if te.size = n ∧ 0 < n then (match d with
      | .osl n' b ver nb lo len => (match H[b]? with
        | some (.row ty n2 ver2 r) => if n' = n ∧ n2 = n ∧ ver2 = ver then
            ReqP (fun _ => m.den = rx.den.length ∧ nb.den = false ∧ 0 ≤ lo.den ∧ lo.den + len.den ≤ r.den.length ∧ ∀ e ∈ rx.den, e.all D.cellB = true)
              (K (H.set b (.row ty n ver (.splice r lo rx (.mn m len)))) (.int .i64 (.mn m len))) else StuckP o [d, s]
        | some (.cells l) => if n' = n ∧ ver = 1 then
            HoldP (fun _ => m.den = rx.den.length ∧ nb.den = false ∧ lo.den = 0 ∧ len.den = rx.den.length ∧ (rx.den.flatten).length ≤ l.length ∧ ∀ e ∈ rx.den, e.all D.cellB = true)
              (fun _ => K (H.set b (.cells (over l 0 rx.den.flatten))) (.int .i64 len)) else StuckP o [d, s]
        | _ => StuckP o [d, s])
      | _ => StuckP o [d, s]) else StuckP o [d, s]
    | none => StuckP o [d, s])
  | _, _, _ => StuckP o [d, s]
section
variable {P : Program} {T : Tab} {H : List Bk} {ρ : Operand → D} {o : Oper}
theorem lenR64 {n : Nat} (h : n ≤ maxLen) : InR .i64 (n : Int) := by
  unfold maxLen at h
  simp [InR, IntKind.min, IntKind.max, IntKind.signed, IntKind.bits]
  omega
theorem run_copy_own {td ts ty e : Nat} {i : TypeInfo} (hu : P.underlying td = some (.slice e)) (hi : P.info? e = some i) (w : World) {c o dLen dCap : Nat} {cs : Array Value} {t : TypeId} (hb : Blk w c cs t) {a : Option Addr} {sLen sCap : Nat} {news : List Value}
    (hn : news.length = min sLen dLen * i.size) (hsrc : min sLen dLen ≠ 0 → ∃ b off, a = some ⟨b, off, none⟩ ∧ ∀ (j : Nat) u, news[j]? = some u → w.cell? ((⟨b, off, none⟩ : Addr).add j) = some u) (h1 : ∀ u ∈ news, u.oneCell' = true) (hfit : o + news.length ≤ cs.size) :
    (Builtin.copy_ #[td, ts] ty #[.slice (some ⟨c, o, none⟩) dLen dCap, .slice a sLen sCap]).run P w = .ok (goInt ((min sLen dLen : Nat) : Int)) (w.setCells c o news) := by
  have hf : (Builtin.firstCells i.size (min sLen dLen) (.slice a sLen sCap)).run P w = .ok news.toArray w := by
    by_cases h0 : min sLen dLen = 0
    · have hnil : news = [] := List.length_eq_zero_iff.1 (by rw [hn, h0]; simp)
      subst hnil
      cases a with
      | none => rw [run_firstCells_none]
      | some a =>
        have := run_firstCells_some (P := P) w i.size (min sLen dLen) a sLen sCap [] (by rw [h0]; simp) (fun j v h => by simp at h)
        exact this
    · obtain ⟨b, off, rfl, hc⟩ := hsrc h0
      exact run_firstCells_some (P := P) w i.size _ ⟨b, off, none⟩ sLen sCap news hn hc
  have hst := run_storeCells_cells (P := P) c o news 0 w (fun j hj => by
    rw [hb.cell]; simp; omega) (fun j hj => hb.frozen _) h1
  simp only [Nat.add_zero] at hst
  simp only [Nat.min_def] at hf ⊢
  simp [Builtin.copy_, run_underlying hu, Builtin.lenOf, sizeOf, typeInfo, hi, Nat.min_def, hf, hst]
theorem sCopy_eff (hT : T.ok P) {td ts : Nat} {x y : Operand} (ho : o.op = .call ⟨.builtin .copy, #[x, y], #[td, ts]⟩) {K : List Bk → D → Prop} (hk : sCopy T H o td ts (ρ x) (ρ y) K) : ∃ H' d, EEff P H ρ o H' d ∧ K H' d := by
  have hx : ∀ (ev : Operand → Value) (w : World), (execOp ev o).run P w = (do pure (.value (← Builtin.copy_ #[td, ts] o.type #[ev x, ev y])) : Sem Next).run P w := fun ev w => by
    obtain ⟨cs, h⟩ := execOp_blt (P := P) (ev := ev) ho
    rw [h w]
    simp [builtin]
  unfold sCopy at hk
  split at hk
  case h_2 => cases hk
  next e s1 b1 z1 e2 s2 b2 z2 n rx m ht hts hel =>
  split at hk
  case h_2 => cases hk
  next te hte =>
  split at hk
  case isFalse => cases hk
  next hc =>
  obtain ⟨hsz, hn0⟩ := hc
  obtain ⟨ti, d, g1, g2, _, _, _, g6⟩ := TI.of_spec (Tab.get_ok hT ht)
  obtain ⟨ti', d', f1, f2, f3, f4, f5, f6⟩ := TI.of_spec (Tab.get_ok hT hte)
  have hu : P.underlying td = some (.slice e) := by
    cases d with
    | slice e2 => simp only [TK.of, TK.slice.injEq] at g6; rw [g2, g6]
    | _ => simp [TK.of] at g6
  have hisz : ti'.size = n := f4.trans hsz
  -- the elements that are copied, one behind the other
  have src : ∀ {B : Base} {w : World} {E : Env} {ev : Operand → Value}, (∀ x, DRep w E (ρ x) (ev x)) → WRel B H E w → m.den = rx.den.length → (∀ e ∈ rx.den, e.all D.cellB = true) → ∀ dLen : Nat,
      ∃ (a : Option Addr) (c : Nat) (news : List Value), ev y = .slice a rx.den.length c ∧ news.length = min rx.den.length dLen * n ∧ (min rx.den.length dLen ≠ 0 → ∃ b off, a = some ⟨b, off, none⟩ ∧ ∀ (j : Nat) u, news[j]? = some u → w.cell? ((⟨b, off, none⟩ : Addr).add j) = some u) ∧ (∀ u ∈ news, u.oneCell' = true) ∧
        ∀ (i : Nat) e, i < dLen → rx.den[i]? = some e → e.length = n ∧ ∀ (j : Nat) d, e[j]? = some d → ∃ v, news[i * n + j]? = some v ∧ DRep w E.data d v := by
    intro B w E ev hev hw hm hcell dLen
    obtain ⟨a, c, hvx, hcells⟩ := elemsOf_rep hw (hev y) hel hm
    by_cases h0 : rx.den = []
    · exact ⟨a, c, [], hvx, by simp [h0], fun h => by simp [h0] at h, fun u hu => by simp at hu, fun i e _ he => by simp [h0] at he⟩
    · obtain ⟨b, off, rfl, hcl⟩ := hcells h0
      obtain ⟨news, n1, n2, n3, n4⟩ := flat_cells (es := rx.den.take dLen) (fun i e he => by
        rw [List.getElem?_take] at he
        split at he
        · exact hcl i e he
        · cases he) (fun e he => hcell e (List.mem_of_mem_take he))
      refine ⟨_, c, news, hvx, by rw [n1, List.length_take, Nat.min_comm], fun _ => ⟨b, off, rfl, n2⟩, n3, fun i e hi he => ⟨(hcl i e he).1, fun j d hd => n4 i e (by rw [List.getElem?_take, if_pos hi]; exact he) j d hd⟩⟩
  split at hk
  case h_2 => cases hk
  next n' b ver nb lo len hd =>
  split at hk
  · next ty n2 ver2 r hb =>
    split at hk
    case isFalse => cases hk
    next hcc =>
    obtain ⟨rfl, rfl, rfl⟩ := hcc
    obtain ⟨⟨hm, hnb, hl0, hfit, hcell⟩, hk⟩ := hk
    have hk := hk ⟨hm, hnb, hl0, hfit, hcell⟩
    refine ⟨_, _, fun B w E ev hev hw => ?_, hk⟩
    have hvs := hev x
    rw [hd] at hvs
    generalize hvsv : ev x = vs at hvs
    have hat := at_spec (b := b) (ver := ver2) (by unfold Bk.at; rw [hb]; simp) hw.heap
    cases hvs with
    | osln hk' hσ hnb' hl hn => rw [hnb] at hnb'; cases hnb'
    | osls hk' => rcases hat with q | q <;> omega
    | @oslc _ _ _ _ _ _ _ cc mm cap hk' hσ hnb' hl hn hcap hmx hsz' =>
      obtain ⟨a, c0, news, v1, v2, v3, v4, v5⟩ := src hev hw hm hcell mm
      rcases hw.heap b _ hb with q | ⟨_, q2, _⟩
      · rw [q.2] at hσ; cases hσ
      obtain ⟨cs, tt, gt, w1, w2, w3, w4⟩ := q2 cc hσ
      have hspan : (lo.den.toNat + min rx.den.length mm) * n2 ≤ cs.size := Nat.le_trans (Nat.mul_le_mul_right _ (by omega)) w3
      have hfit2 : lo.den.toNat * n2 + news.length ≤ cs.size := by rw [v2, ← Nat.add_mul]; exact hspan
      have hrun := run_copy_own (P := P) (ty := o.type) (ts := ts) hu f1 w (c := cc) (o := lo.den.toNat * n2) (dLen := mm) (dCap := cap) (cs := cs) (t := tt) w1 (a := a) (sLen := rx.den.length) (sCap := c0) (news := news) (by rw [hisz]; exact v2) v3 v4 hfit2
      obtain ⟨c', e1, e2, e3⟩ := setCells_blk news (lo.den.toNat * n2) w cs w1 hfit2
      have hold := hw.le_set hσ news (lo.den.toNat * n2)
      have hK : (IE.mn m len).den = ((min rx.den.length mm : Nat) : Int) := by simp only [IE.den]; omega
      have hKn : (IE.mn m len).den.toNat = min rx.den.length mm := by omega
      generalize hk0 : min rx.den.length mm = k at *
      have hlr : lo.den.toNat + k ≤ r.den.length := by omega
      have hdl : (RE.splice r lo rx (.mn m len)).den.length = r.den.length := by simp only [RE.den, hKn]; simp; omega
      obtain ⟨q5, q6⟩ := hw.put hσ hb (b' := .row ty n2 ver2 (.splice r lo rx (.mn m len))) news (lo.den.toNat * n2) (by rw [hk']; rfl) ⟨c', tt, gt, e1, by omega, by rw [hdl]; omega, fun i el hi => by
        simp only [RE.den, hKn] at hi
        have hil : i < r.den.length := by rw [← hdl]; simp only [RE.den, hKn]; exact (List.getElem?_eq_some_iff.1 hi).1
        have old : ∀ (i : Nat) el, r.den[i]? = some el → (i < lo.den.toNat ∨ lo.den.toNat + k ≤ i) → el.length = n2 ∧ ∀ (j : Nat) d, el[j]? = some d → ∃ v, c'[i * n2 + j]? = some v ∧ DRep (w.setCells cc (lo.den.toNat * n2) news) E.data d v := by
          intro i el hi hout
          obtain ⟨k1, k2⟩ := w4 i el hi
          refine ⟨k1, fun j d hdd => ?_⟩
          obtain ⟨v, k3, k4⟩ := k2 j d hdd
          have hj : j < n2 := by rw [← k1]; exact (List.getElem?_eq_some_iff.1 hdd).1
          have hb2 := (Array.getElem?_eq_some_iff.1 k3).1
          refine ⟨v, ?_, k4.move hold.data Env.own.data⟩
          rw [e3 _ hb2, if_neg, k3]
          rw [v2]
          rcases hout with p1 | p1
          · have : (i + 1) * n2 ≤ lo.den.toNat * n2 := Nat.mul_le_mul_right _ p1
            rw [Nat.add_mul, Nat.one_mul] at this
            omega
          · have : (lo.den.toNat + k) * n2 ≤ i * n2 := Nat.mul_le_mul_right _ p1
            rw [Nat.add_mul] at this
            omega
        by_cases p1 : i < lo.den.toNat
        · rw [List.append_assoc, List.getElem?_append_left (by simp; omega), List.getElem?_take, if_pos p1] at hi
          exact old i el hi (.inl p1)
        · by_cases p2 : i < lo.den.toNat + k
          · rw [List.getElem?_append_left (by simp; omega), List.getElem?_append_right (by simp; omega)] at hi
            have e4 : i - (List.take lo.den.toNat r.den).length = i - lo.den.toNat := by simp; omega
            rw [e4, List.getElem?_take, if_pos (by omega)] at hi
            obtain ⟨k1, k2⟩ := v5 (i - lo.den.toNat) el (by omega) hi
            refine ⟨k1, fun j d hdd => ?_⟩
            obtain ⟨v, k3, k4⟩ := k2 j d hdd
            have hlt := (List.getElem?_eq_some_iff.1 k3).1
            have hj : j < n2 := by rw [← k1]; exact (List.getElem?_eq_some_iff.1 hdd).1
            have e5 : i * n2 + j = lo.den.toNat * n2 + ((i - lo.den.toNat) * n2 + j) := by
              rw [← Nat.add_assoc, ← Nat.add_mul]
              congr 2
              omega
            refine ⟨v, ?_, k4.move hold.data Env.own.data⟩
            rw [e3 _ (by rw [e5]; omega), if_pos (by rw [e5]; omega), e5, Nat.add_sub_cancel_left]
            exact k3
          · rw [List.getElem?_append_right (by simp; omega), List.getElem?_drop] at hi
            have e4 : lo.den.toNat + k + (i - (List.take lo.den.toNat r.den ++ List.take k rx.den).length) = i := by simp; omega
            rw [e4] at hi
            exact old i el hi (.inr (by omega))⟩
      refine ⟨_, .int .i64 ((k : Nat) : Int), _, E, ?_, .inl rfl, q5, q6, Env.own.refl _, (by rw [← hK]; exact .int (by rw [hK]; exact lenR64 (by omega))), fun _ _ => ⟨rfl, rfl⟩⟩
      rw [hx, hvsv, v1]
      simp [hrun, goInt]
  · next l hb =>
    split at hk
    case isFalse => cases hk
    next hcc =>
    obtain ⟨rfl, rfl⟩ := hcc
    obtain ⟨⟨hm, hnb, hl0, hfull, hfit, hcell⟩, hk⟩ := hk
    refine ⟨_, _, fun B w E ev hev hw => ?_, hk⟩
    have hvs := hev x
    rw [hd] at hvs
    generalize hvsv : ev x = vs at hvs
    have hat := at_spec (b := b) (ver := 1) (by unfold Bk.at; rw [hb]; simp) hw.heap
    cases hvs with
    | osln hk' hσ hnb' hl hn => rw [hnb] at hnb'; cases hnb'
    | osls hk' => rcases hat with q | q <;> omega
    | @oslc _ _ _ _ _ _ _ cc mm cap hk' hσ hnb' hl hn hcap hmx hsz' =>
      obtain ⟨a, c0, news, v1, v2, v3, v4, v5⟩ := src hev hw hm hcell mm
      have hmm : mm = rx.den.length := by omega
      rcases hw.heap b _ hb with q | ⟨_, q2, _⟩
      · rw [q.2] at hσ; cases hσ
      obtain ⟨cs, tt, w1, w2, wz, w4⟩ := q2 cc hσ
      have hallen : ∀ e ∈ rx.den, e.length = n' := fun e he => by
        obtain ⟨i, hi⟩ := List.getElem?_of_mem he
        exact (v5 i e (by rw [hmm]; exact (List.getElem?_eq_some_iff.1 hi).1) hi).1
      have hflen : rx.den.flatten.length = rx.den.length * n' := by
        have : ∀ es : List (List D), (∀ e ∈ es, e.length = n') → es.flatten.length = es.length * n' := fun es => by
          induction es with
          | nil => simp
          | cons e es ih =>
            intro h
            simp only [List.flatten_cons, List.length_append, List.length_cons]
            rw [ih fun e he => h e (by simp [he]), h e (by simp), Nat.add_mul]
            omega
        exact this _ hallen
      rw [hl0] at hvsv
      simp only [Int.toNat_zero, Nat.zero_mul] at hvsv
      have hnl : news.length = rx.den.flatten.length := by rw [v2, hmm, Nat.min_self, hflen]
      have hfit2 : 0 + news.length ≤ cs.size := by omega
      have hrun := run_copy_own (P := P) (ty := o.type) (ts := ts) hu f1 w (c := cc) (o := 0) (dLen := mm) (dCap := cap) (cs := cs) (t := tt) w1 (a := a) (sLen := rx.den.length) (sCap := c0) (news := news) (by rw [hisz]; exact v2) v3 v4 hfit2
      obtain ⟨c', e1, e2, e3⟩ := setCells_blk news 0 w cs w1 hfit2
      have hold := hw.le_set hσ news 0
      have hlen2 : (over l 0 rx.den.flatten).length = l.length := by unfold over; rw [List.take_zero, List.nil_append, List.length_append, List.length_drop]; omega
      obtain ⟨q5, q6⟩ := hw.put hσ hb (b' := .cells (over l 0 rx.den.flatten)) news 0 (by rw [hk']; rfl) ⟨c', tt, e1, by omega, by rw [hlen2]; exact wz, fun i d hdd => by
        have hi : i < l.length := by rw [← hlen2]; exact (List.getElem?_eq_some_iff.1 hdd).1
        rw [e3 i (by omega)]
        unfold over at hdd
        simp only [List.take_zero, List.nil_append, Nat.zero_add] at hdd
        by_cases p2 : i < rx.den.flatten.length
        · rw [if_pos (by omega), Nat.sub_zero]
          rw [List.getElem?_append_left p2] at hdd
          have hn0' : 0 < n' := hn0
          have hdiv : i / n' < rx.den.length := Nat.div_lt_of_lt_mul (by rw [Nat.mul_comm, ← hflen]; exact p2)
          have hel2 : rx.den[i / n']? = some (rx.den[i / n']) := List.getElem?_eq_getElem hdiv
          obtain ⟨k1, k2⟩ := v5 (i / n') _ (by omega) hel2
          have hmod : i % n' < (rx.den[i / n']).length := by rw [k1]; exact Nat.mod_lt _ hn0'
          have hde : i / n' * n' + i % n' = i := by rw [Nat.mul_comm]; exact Nat.div_add_mod i n'
          have hfg := flatten_get rx.den hallen (i / n') _ hel2 (i % n') _ (List.getElem?_eq_getElem hmod)
          rw [hde, hdd] at hfg
          simp only [Option.some.injEq] at hfg
          obtain ⟨v, k3, k4⟩ := k2 (i % n') _ (List.getElem?_eq_getElem hmod)
          rw [hde] at k3
          exact ⟨v, k3, by rw [hfg]; exact (k4.move hold.data Env.own.data).undata hw.wf⟩
        · rw [if_neg (by omega)]
          rw [List.getElem?_append_right (by omega), List.getElem?_drop, show rx.den.flatten.length + (i - rx.den.flatten.length) = i by omega] at hdd
          obtain ⟨v, k1, k2⟩ := w4 i d hdd
          exact ⟨v, k1, k2.move hold (Env.own.refl _)⟩⟩
      refine ⟨_, .int .i64 ((mm : Nat) : Int), _, E, ?_, .inl rfl, q5, q6, Env.own.refl _, (by rw [← hn]; exact .int (by rw [hn]; exact lenR64 (by omega))), fun _ _ => ⟨rfl, rfl⟩⟩
      rw [hx, hvsv, v1]
      simp only [hmm, Nat.min_self] at hrun ⊢
      simp [hrun, goInt]
  · cases hk
end
end Go.Proofs.YtdhfakajlnidiaaGreat
