/- Part 3 of the walks and laws that these claims rest on. No condition. -/
import Derived.LoopN
import Derived.ProofKit
import Derived.OpenShut
import Derived.ShutString
import Derived.ChangeOld
import Derived.Test.YtdhfakajlnidiaaProg
import Derived.Test.YtdhfakajlnidiaaPart2
set_option linter.all false
set_option linter.unusedSimpArgs false
set_option linter.unusedVariables false
set_option linter.unnecessarySimpa false
namespace Go.Proofs.Ytdhfakajlnidiaa
open Go.RowKit

/-! A region that draws its order: each operation of its front, at any place that its edges allow, gives what it gives in the order of the text. -/
open Classical in
noncomputable def res (o : Oper) (ρ : Operand → D) (x : Operand) : D := if x ∈ o.op.operands then ρ x else .junk
theorem res_in {o : Oper} {ρ : Operand → D} {x : Operand} (h : x ∈ o.op.operands) : res o ρ x = ρ x := by unfold res; rw [if_pos h]
theorem qop_res (T : Tab) (H : List Bk) (ρ : Operand → D) (o : Oper) : qop T H (res o ρ) o = qop T H ρ o := by
  have key : ∀ x, x ∈ o.op.operands → res o ρ x = ρ x := fun x h => res_in h
  generalize res o ρ = ρ' at key
  have parts : ∀ ps : Array (Nat × Operand), (∀ p ∈ ps, p.2 ∈ o.op.operands) → evParts ps ρ' = evParts ps ρ := fun ps h => by
    unfold evParts
    refine List.map_congr_left fun p hp => ?_
    rw [key p.2 (h p (by simpa using hp))]
  have lists : ∀ ps : Array Operand, (∀ p ∈ ps, p ∈ o.op.operands) → ps.toList.map ρ' = ps.toList.map ρ := fun ps h =>
    List.map_congr_left fun p hp => key p (h p (by simpa using hp))
  unfold qop
  split
  · next x h => rw [key x (by simp [h, Op.operands])]
  · next x h => rw [key x (by simp [h, Op.operands])]
  · next c a b h => rw [key c (by simp [h, Op.operands]), key a (by simp [h, Op.operands]), key b (by simp [h, Op.operands])]
  · rfl
  · next x h => rw [key x (by simp [h, Op.operands])]
  · next t ps h => rw [parts ps fun p hp => by rw [h]; simp only [Op.operands]; simp; exact ⟨p.1, hp⟩]
  · next t l ps h => rw [parts ps fun p hp => by rw [h]; simp only [Op.operands]; simp; exact ⟨p.1, hp⟩]
  · next t x y h => rw [key x (by simp [h, Op.operands]), key y (by simp [h, Op.operands])]
  · next x h => rw [key x (by simp [h, Op.operands])]
  · next x y _ h => rw [key x (by rw [h]; simp [Op.operands]), key y (by rw [h]; simp [Op.operands])]
  · next x h => rw [key x (by simp [h, Op.operands])]
  · next x h => rw [key x (by simp [h, Op.operands])]
  · next f a b h => rw [lists a fun p hp => by rw [h]; simp [Op.operands, hp], lists b fun p hp => by rw [h]; simp [Op.operands, hp]]
  · next x f h => rw [key x (by simp [h, Op.operands])]
  · next x f h => rw [key x (by simp [h, Op.operands])]
  · next h => rw [key _ (by rw [h]; simp [Op.operands]), key _ (by rw [h]; simp [Op.operands])]
  · next x h => rw [key x (by simp [h, Op.operands])]
  · next h => rw [key _ (by rw [h]; simp [Op.operands]), key _ (by rw [h]; simp [Op.operands])]
  · next x i h => rw [key x (by simp [h, Op.operands])]
  · next t r h =>
    cases r with
    | none => rfl
    | some y => simp [key y (by simp [h, Op.operands])]
  · next h => rw [key _ (by rw [h]; simp [Op.operands]), key _ (by rw [h]; simp [Op.operands])]
  · next t x lo hi mx h =>
    have opt : ∀ q : Option Operand, (∀ y, q = some y → y ∈ o.op.operands) → q.map ρ' = q.map ρ := fun q hq => by
      cases q with
      | none => rfl
      | some y => simp [key y (hq y rfl)]
    rw [key x (by simp [h, Op.operands]), opt lo fun y hy => by rw [h, hy]; simp [Op.operands], opt hi fun y hy => by rw [h, hy]; simp [Op.operands], opt mx fun y hy => by rw [h, hy]; simp [Op.operands]]
  · next x h => rw [key x (by simp [h, Op.operands])]
  · next x _ _ _ h => rw [key x (by simp [h, Op.operands])]
  · next h => rw [key _ (by rw [h]; simp [Op.operands, Call.operands])]
  · next h => rw [key _ (by rw [h]; simp [Op.operands, Call.operands]), key _ (by rw [h]; simp [Op.operands, Call.operands])]
  · next h => rw [key _ (by rw [h]; simp [Op.operands, Call.operands]), key _ (by rw [h]; simp [Op.operands, Call.operands])]
  · rfl
/-- a call of a function that is known, in a region whose order is open -/
inductive PureP (P : Program) (n : Nat) (args : List D) (H : List Bk) (K : D → List Bk → Prop) : Prop
  | mk (d : D) (hp : Pure P n args d) (hd : args.all (D.dataB 8) = true) (hk : K d [])
  | lend (args' : List D) (d : D) (hp : Pure P n args' d) (hs : SnDs H [] args args') (hd : args'.all (D.dataB 8) = true) (hsc : d.scalB = true) (hk : K d [])
  | lendF (args' : List D) (d : D) (hp : PureF P n args' d) (hs : SnDs H [] args args') (hd : args'.all (D.dataB 8) = true) (hk : K d [])
  | new {n' ty ver : Nat} {nb : BE} {lo len : IE} {r : RE} (hp : CallP P n args [] fun d1 H1 => d1 = .osl n' 0 ver nb lo len ∧ H1 = [.row ty n' ver r]) (hd : args.all (D.dataB 8) = true) (hsc : ∀ e ∈ r.den, e.all D.scalB = true) (hv : 0 < ver) (hk : K (.osl n' H.length ver nb lo len) [.row ty n' ver r])
  | newD {n' ty ver : Nat} {nb : BE} {lo len : IE} {r : RE} (hp : CallP P n args [] fun d1 H1 => d1 = .osl n' 0 ver nb lo len ∧ H1 = [.row ty n' ver r]) (hd : args.all (D.dataB 8) = true) (hv : 0 < ver) (hk : K (.osl n' H.length ver nb lo len) [.row ty n' ver r])
/-- a block more that is known, in the same world -/
theorem WRel.lay {B : Base} {H : List Bk} {E : Env} {w : World} (h : WRel B H E w) {x k z : Nat} {c : Option Nat} {b' : Bk} (hx : x < H.length) (hk : E.κ x < k)
    (hc : ∀ d, c = some d → B.w0.heap.size ≤ d ∧ d < w.heap.size ∧ ¬ E.G d ∧ ∀ y, E.σ y ≠ some d) (hv : b'.ver k) (hb : ∀ d, c = some d → BRep w (E.upd x c k z) x d b') (hvirt : c = none → b'.virt) :
    WRel B (H.set x b') (E.upd x c k z) w ∧ E.own (E.upd x c k z) := by
  have hle : E.le w w (E.upd x c k z) := ⟨fun _ h => h, fun _ _ => rfl⟩
  have hown : E.own (E.upd x c k z) := by
    refine ⟨fun b => ?_, fun b e => ?_⟩
    · simp only [Env.upd]; split
      · next q => subst q; omega
      · exact Nat.le_refl _
    · simp only [Env.upd] at e ⊢
      by_cases q : b = x
      · subst q; simp at e; omega
      · simp [q]
  refine ⟨⟨fun p q d hp hq => ?_, fun p d hp => ?_, fun p hp => ?_, fun p b hp => ?_, fun p hp => ?_, h.good, h.g0, h.gn, h.bel, B.stab _ _ _ _ hle hown h.phi⟩, hown⟩
  · simp only [Env.upd] at hp hq
    split at hp <;> split at hq
    · omega
    · exact absurd hq ((hc d hp).2.2.2 q)
    · exact absurd hp ((hc d hq).2.2.2 p)
    · exact h.inj _ _ _ hp hq
  · simp only [Env.upd] at hp
    split at hp
    · obtain ⟨q1, q2, q3, _⟩ := hc d hp
      exact ⟨q1, q2, q3⟩
    · exact h.own _ _ hp
  · simp only [Env.upd] at hp ⊢
    split at hp
    · omega
    · next q => rw [if_neg q]; exact h.wf p hp
  · by_cases e : p = x
    · subst e
      rw [List.getElem?_set_self hx] at hp
      cases hp
      have k1 : (E.upd p c k z).κ p = k := by simp [Env.upd]
      have k2 : (E.upd p c k z).σ p = c := by simp [Env.upd]
      rw [k1, k2]
      exact .inr ⟨hv, fun d hd => hb d hd, hvirt⟩
    · rw [List.getElem?_set_ne (fun q => e q.symm)] at hp
      have k1 : (E.upd x c k z).κ p = E.κ p := by simp [Env.upd, e]
      have k2 : (E.upd x c k z).σ p = E.σ p := by simp [Env.upd, e]
      have k3 : (E.upd x c k z).ζ p = E.ζ p := by simp [Env.upd, e]
      rw [k1, k2]
      rcases h.heap p b hp with q | ⟨q1, q2, q3⟩
      · exact .inl q
      · exact .inr ⟨q1, fun d hd => (q2 d hd).move hle hown rfl k3, q3⟩
  · simp at hp
    have := h.out p hp
    simp only [Env.upd]
    rw [if_neg (by omega), if_neg (by omega)]
    exact this
theorem call_eval {P : Program} {ρ : Operand → D} {o : Oper} {f : Operand} {args : Array Operand} {ats : Array TypeId} (ho : o.op = .call ⟨.value f, args, ats⟩) {n : Nat} {first cap : List D} (hf : ρ f = .fn (.func n) first cap) (hh : Here P n) {w : World} {E : Env} {ev : Operand → Value} (hev : ∀ x, DRep w E (ρ x) (ev x)) :
    ∃ vs, (execOp ev o).run P w = .ok (.enter n vs) w ∧ LRep w E (first ++ args.toList.map ρ ++ cap) vs := by
  have hfv := hev f
  rw [hf] at hfv
  generalize hv : ev f = vf at hfv
  cases hfv with | @fn _ _ _ _ a0 a1 hs0 hs1 h0 h1 =>
  refine ⟨a0 ++ args.map ev ++ a1, ?_, by simp [hs0, hs1], fun i d v hd1 hv1 => ?_⟩
  · unfold execOp
    rw [ho]
    simp only [resolve, hv, Deferred.ofValue, Sem.run_bind, Sem.run_pure, Result.andThen_ok, invoke]
    exact callFunc_here hh _ _
  · simp only [List.getElem?_append, Array.getElem?_append, List.length_append, List.length_map, Array.length_toList, Array.size_append, Array.size_map, hs0] at hd1 hv1
    split at hd1
    · next q1 =>
      rw [if_pos (by omega)] at hv1
      split at hd1
      · next q2 =>
        rw [if_pos (by omega)] at hv1
        exact h0 i d v hd1 hv1
      · next q2 =>
        rw [if_neg (by omega)] at hv1
        simp only [List.getElem?_map, Option.map_eq_some_iff, Array.getElem?_toList, Array.getElem?_map] at hd1 hv1
        obtain ⟨x, hx, rfl⟩ := hd1
        obtain ⟨y, hy, rfl⟩ := hv1
        rw [hx] at hy
        cases hy
        exact hev x
    · next q1 =>
      rw [if_neg (by omega)] at hv1
      exact h1 _ d v hd1 hv1
theorem PureP.effL {P : Program} {H : List Bk} {ρ : Operand → D} {o : Oper} {f : Operand} {args : Array Operand} {ats : Array TypeId} (ho : o.op = .call ⟨.value f, args, ats⟩) {n : Nat} {first cap : List D} (hf : ρ f = .fn (.func n) first cap) {args' : List D} {d : D}
    (hp : Pure P n args' d) (hs : SnDs H [] (first ++ args.toList.map ρ ++ cap) args') (hd : args'.all (D.dataB 8) = true) (hsc : d.scalB = true) : OpX P H ρ o d [] := fun B Hx w E a hev hw hc hfr K Q hk => by
  obtain ⟨vs, hex, hl⟩ := call_eval (P := P) ho hf hp.1 hev
  unfold Oper.wp
  rw [hex]
  obtain ⟨h1, h2⟩ := hs.get
  refine (hp.2 w E.lent vs hw.lentLaid hw.lentGood ⟨by rw [← h1]; exact hl.1, fun i x v hx hv' => ?_⟩).mono ?_
  · have hlt := (List.getElem?_eq_some_iff.1 hx).1
    have hx0 : (first ++ args.toList.map ρ ++ cap)[i]? = some ((first ++ args.toList.map ρ ++ cap)[i]'(by omega)) := List.getElem?_eq_getElem (by omega)
    exact (h2 i _ x hx0 hx).lent (hc.heap hw.heap) (hl.2 i _ v hx0 hv') (List.all_eq_true.1 hd x (List.mem_of_getElem? hx))
  · rintro e w' ⟨v, G', rfl, q2, q3, q4, q5, q6⟩
    exact hk v w' E (hw.same q2) (Below.le_env (E := E) q2 hw.good fun _ h => h) (Env.own.refl _) (fun _ _ => ⟨rfl, rfl⟩) (D.scalB_rep hsc q6)
theorem PureP.effF {P : Program} {H : List Bk} {ρ : Operand → D} {o : Oper} {f : Operand} {args : Array Operand} {ats : Array TypeId} (ho : o.op = .call ⟨.value f, args, ats⟩) {n : Nat} {first cap : List D} (hf : ρ f = .fn (.func n) first cap) {args' : List D} {d : D}
    (hp : PureF P n args' d) (hs : SnDs H [] (first ++ args.toList.map ρ ++ cap) args') (hd : args'.all (D.dataB 8) = true) : OpX P H ρ o d [] := fun B Hx w E a hev hw hc hfr K Q hk => by
  obtain ⟨vs, hex, hl⟩ := call_eval (P := P) ho hf hp.1 hev
  unfold Oper.wp
  rw [hex]
  obtain ⟨h1, h2⟩ := hs.get
  refine (hp.2 w E.lent vs hw.lentLaid hw.lentGood ⟨by rw [← h1]; exact hl.1, fun i x v hx hv' => ?_⟩).mono ?_
  · have hlt := (List.getElem?_eq_some_iff.1 hx).1
    have hx0 : (first ++ args.toList.map ρ ++ cap)[i]? = some ((first ++ args.toList.map ρ ++ cap)[i]'(by omega)) := List.getElem?_eq_getElem (by omega)
    exact (h2 i _ x hx0 hx).lent (hc.heap hw.heap) (hl.2 i _ v hx0 hv') (List.all_eq_true.1 hd x (List.mem_of_getElem? hx))
  · rintro e w' ⟨v, G', rfl, q2, q3, q4⟩
    have hsz := q2.size
    have k1 := hw.kept (G' := fun b => E.G b ∨ G' b) q2 (fun b hb => .inl hb) (fun b hb => hb.imp id fun q => (q3 b q).1) (fun b hb => by
      rcases hb with q | q
      · have := hw.good b q; omega
      · exact (q3 b q).2)
    exact hk v w' ⟨fun b => E.G b ∨ G' b, E.σ, E.κ, E.ζ⟩ k1 (Below.le_env q2 hw.good fun b hb => .inl hb) ⟨fun _ => Nat.le_refl _, fun _ _ => ⟨rfl, fun _ _ => rfl⟩⟩ (fun _ _ => ⟨rfl, rfl⟩) (DRep.undata (E := ⟨fun b => E.G b ∨ G' b, E.σ, E.κ, E.ζ⟩) k1.wf (q4.move ⟨fun b hb => .inr hb, fun _ _ => rfl⟩ ⟨fun _ => Nat.le_refl _, fun _ _ => ⟨rfl, fun _ _ => rfl⟩⟩))
theorem PureP.effX {P : Program} {H : List Bk} {ρ : Operand → D} {o : Oper} {f : Operand} {args : Array Operand} {ats : Array TypeId} (ho : o.op = .call ⟨.value f, args, ats⟩) {n : Nat} {first cap : List D} (hf : ρ f = .fn (.func n) first cap) {d : D}
    (hp : Pure P n (first ++ args.toList.map ρ ++ cap) d) (hd : (first ++ args.toList.map ρ ++ cap).all (D.dataB 8) = true) : OpX P H ρ o d [] := fun B Hx w E a hev hw hc hfr K Q hk => by
  have hfv := hev f
  rw [hf] at hfv
  generalize hv : a.eval f = vf at hfv
  cases hfv with | @fn _ _ _ _ a0 a1 hs0 hs1 h0 h1 =>
  have hex : (execOp a.eval o).run P w = .ok (.enter n (a0 ++ args.map a.eval ++ a1)) w := by
    unfold execOp
    rw [ho]
    simp only [resolve, hv, Deferred.ofValue, Sem.run_bind, Sem.run_pure, Result.andThen_ok, invoke]
    exact callFunc_here hp.1 _ _
  unfold Oper.wp
  rw [hex]
  have hl : LRep w E (first ++ args.toList.map ρ ++ cap) (a0 ++ args.map a.eval ++ a1) := by
    refine ⟨by simp [hs0, hs1], fun i d v hd1 hv1 => ?_⟩
    simp only [List.getElem?_append, Array.getElem?_append, List.length_append, List.length_map, Array.length_toList, Array.size_append, Array.size_map, hs0] at hd1 hv1
    split at hd1
    · next q1 =>
      rw [if_pos (by omega)] at hv1
      split at hd1
      · next q2 =>
        rw [if_pos (by omega)] at hv1
        exact h0 i d v hd1 hv1
      · next q2 =>
        rw [if_neg (by omega)] at hv1
        simp only [List.getElem?_map, Option.map_eq_some_iff, Array.getElem?_toList, Array.getElem?_map] at hd1 hv1
        obtain ⟨x, hx, rfl⟩ := hd1
        obtain ⟨y, hy, rfl⟩ := hv1
        rw [hx] at hy
        cases hy
        exact hev x
    · next q1 =>
      rw [if_neg (by omega)] at hv1
      exact h1 _ d v hd1 hv1
  refine (hp.2 w E.G _ hw.laid hw.good ⟨hl.1, fun i x v h1 h2 => D.dataB_rep (E := E) (E' := Env.of E.G) rfl 8 (List.all_eq_true.1 hd x (List.mem_of_getElem? h1)) (hl.2 i x v h1 h2)⟩).mono ?_
  rintro e w' ⟨v, G', rfl, h2, h3, h4, h5, h6⟩
  exact hk v w' ⟨G', E.σ, E.κ, E.ζ⟩ (hw.kept h2 h3 h4 h5) (Below.le_env h2 hw.good h3) ⟨fun _ => Nat.le_refl _, fun _ _ => ⟨rfl, fun _ _ => rfl⟩⟩ (fun _ _ => ⟨rfl, rfl⟩) (DRep.undata (E := ⟨G', E.σ, E.κ, E.ζ⟩) hw.wf h6)
theorem PureP.effN {P : Program} {H : List Bk} {ρ : Operand → D} {o : Oper} {f : Operand} {args : Array Operand} {ats : Array TypeId} (ho : o.op = .call ⟨.value f, args, ats⟩) {n : Nat} {first cap : List D} (hf : ρ f = .fn (.func n) first cap) {n' ty ver : Nat} {nb : BE} {lo len : IE} {r : RE}
    (hp : CallP P n (first ++ args.toList.map ρ ++ cap) [] fun d1 H1 => d1 = .osl n' 0 ver nb lo len ∧ H1 = [.row ty n' ver r]) (hd : (first ++ args.toList.map ρ ++ cap).all (D.dataB 8) = true) (hv : 0 < ver) :
    OpX P H ρ o (.osl n' H.length ver nb lo len) [.row ty n' ver r] := fun B Hx w E a hev hw hc hfr K Q hk => by
  obtain ⟨vs, hex, hl⟩ := call_eval (P := P) ho hf hp.here hev
  unfold Oper.wp
  rw [hex]
  let B0 : Base := ⟨w, E.G, 0, 0, fun w E => Laid w E.G, fun _ _ _ _ h1 _ h3 => h3.le h1, fun _ _ _ _ h => h, [], fun _ _ h => h⟩
  have hw0 : WRel B0 [] (Env.of E.G) w := ⟨fun x y c h => by simp [Env.of] at h, fun x c h => by simp [Env.of] at h, fun _ _ => rfl, fun x b h => by simp at h, fun _ _ => ⟨rfl, rfl⟩, hw.good, fun _ h => h, fun _ h => .inl h, Below.refl _ _, hw.laid⟩
  refine (hp.run B0 w (Env.of E.G) vs (Nat.le_refl _) ⟨hl.1, fun i x v h1 h2 => D.dataB_rep (E := E) (E' := Env.of E.G) rfl 8 (List.all_eq_true.1 hd x (List.mem_of_getElem? h1)) (hl.2 i x v h1 h2)⟩ hw0).mono ?_
  rintro e w' ⟨v, E1, d1, H1, rfl, q1, q2, rfl, rfl⟩
  have hlaid : E1.κ 0 = ver ∧ (∀ c, E1.σ 0 = some c → BRep w' E1 0 c (.row ty n' ver r)) ∧ (E1.σ 0 = none → r.den = []) := by
    rcases q1.heap 0 _ rfl with ⟨z1, z2⟩ | ⟨z1, z2, z3⟩
    · cases q2 with
      | oslc hk h => rw [z2] at h; cases h
      | osln hk => omega
      | osls hk => omega
    · exact ⟨z1, z2, z3⟩
  obtain ⟨l1, l2, l3⟩ := hlaid
  obtain ⟨z1, z2⟩ := hfr H.length (Nat.le_refl _) (by simp)
  have hx0 : Hx[H.length]? = some (.row ty n' ver r) := hc.of (by simp) (by simp)
  have hxl := (List.getElem?_eq_some_iff.1 hx0).1
  have hbel : Below w.heap.size w w' := q1.bel
  have hk1 := hw.kept (G' := E1.G) hbel q1.g0 q1.gn q1.good
  obtain ⟨r1, r2⟩ := hk1.lay (x := H.length) (k := ver) (z := E1.ζ 0) (c := E1.σ 0) (b' := .row ty n' ver r) hxl (by show E.κ H.length < ver; omega) (fun d hd => by
      obtain ⟨y1, y2, y3⟩ := q1.own 0 d hd
      have hs0 := hw.bel.size
      have y1' : w.heap.size ≤ d := y1
      refine ⟨by omega, y2, y3, fun y hy => ?_⟩
      have := (hw.own y d hy).2.1
      omega) rfl (fun d hd => by
      obtain ⟨cs, t, y1, y2, y3, y4, y5⟩ := l2 d hd
      exact ⟨cs, t, y1, y2, by simpa [Env.upd] using y3, y4, y5⟩) l3
  have hset : Hx.set H.length (.row ty n' ver r) = Hx := by
    apply List.ext_getElem?
    intro i
    by_cases e : H.length = i
    · subst e
      rw [List.getElem?_set_self hxl, hx0]
    · rw [List.getElem?_set_ne e]
  rw [hset] at r1
  refine hk v w' _ r1 ⟨fun b hb => q1.g0 b hb, fun b hb => hbel.block b (hw.good b hb)⟩ ⟨r2.κ, r2.σ⟩ (fun y hy => ?_) ?_
  · have : y ≠ H.length := by simp at hy; omega
    simp [Env.upd, this]
  · cases q2 with
    | oslc hk h hnb hl hn hc hm hsz => exact .oslc (by simp [Env.upd]) (by simp [Env.upd, h]) hnb hl hn hc hm (by simpa [Env.upd] using hsz)
    | osln hk h hnb hl hn => exact .osln (by simp [Env.upd]) (by simp [Env.upd, h]) hnb hl hn
    | osls hk => omega
theorem qopB_res (own : Bool) (T : Tab) (H : List Bk) (ρ : Operand → D) (o : Oper) : qopB own T H (res o ρ) o = qopB own T H ρ o := by
  unfold qopB
  cases own <;> simp only [qop_res]
def vopq (P : Program) (cx : Cx) (own : Bool) (o : Oper) (fr : Fr) (H : List Bk) (K : Fr → List Bk → Prop) : Prop := match o.dst with
  | some t => if t < cx.nt then (match o.op with
    | .call ⟨.value f, args, _⟩ => (match fr.ev f with
      | .fn (.func n) first cap => PureP P n (first ++ args.toList.map fr.ev ++ cap) H fun d nw => K (fr.set t d) (H ++ nw)
      | _ => StuckP o (opnds fr o))
    | _ => (qopB own cx.T H fr.ev o).run o (opnds fr o) H.length fun d nw => K (fr.set t d) (H ++ nw)) else StuckP o []
  | none => StuckP o []
def vopsq (P : Program) (cx : Cx) (ops : Array Oper) : List Oper → Fr → List Bk → (Fr → List Bk → Prop) → Prop
  | [], fr, H, K => K fr H
  | o :: os, fr, H, K => match o.guard with
    | none => part2 fr o fun fr => vopq P cx (baseB ops o) o fr H fun fr H => vopsq P cx ops os fr H K
    | some (j, b) => match (ops[j]?).bind (·.dst), o.dst with
      | some t, some t' => if decide (t < cx.nt) && decide (t' < cx.nt) then part1 fr t fun fr => (match fr.get t with
        | .bool (.lit c) => if c = b then part2 fr o fun fr => vopq P cx (baseB ops o) o fr H fun fr H => vopsq P cx ops os fr H K else vopsq P cx ops os (fr.set t' (.tup [])) H K
        | .tup [] => vopsq P cx ops os (fr.set t' (.tup [])) H K
        | d => StuckP o [d]) else StuckP o []
      | _, _ => StuckP o []
/-- a frame that says as much -/
def FrLe (fr fr1 : Fr) : Prop := ∀ t w E v, DRep w E (fr.get t) v → DRep w E (fr1.get t) v
/-- what the guard of an operation says in a frame -/
def Guard (ops : Array Oper) (o : Oper) (fr : Fr) (run : Bool) : Prop := match o.guard with
  | none => run = true
  | some (j, b) => ∃ t, (ops[j]?).bind (·.dst) = some t ∧ ((∃ c, fr.get t = .bool (.lit c) ∧ run = decide (c = b)) ∨ (fr.get t = .tup [] ∧ run = false))
structure TStep where
  fr : Fr
  H : List Bk
  d : D
  nw : List Bk
  run : Bool
/-- what the operations do in the order of the text -/
inductive Trace (P : Program) (cx : Cx) (ops : Array Oper) : List Oper → Fr → List Bk → List TStep → Fr → List Bk → Prop
  | nil {fr H} : Trace P cx ops [] fr H [] fr H
  | cons {o os fr H fr1 t d nw run tr fr' H'} (hfr : FrLe fr fr1) (hg : Guard ops o fr1 run) (ht : o.dst = some t) (hlt : t < cx.nt) (hop : if run then OpX P H (res o fr1.ev) o d nw else d = .tup [] ∧ nw = [])
      (rest : Trace P cx ops os (fr1.set t d) (H ++ nw) tr fr' H') : Trace P cx ops (o :: os) fr H (⟨fr1, H, d, nw, run⟩ :: tr) fr' H'
section
variable {P : Program} {cx : Cx}
theorem lit_le {fr : Fr} {t : Nat} {e : BE} (ht : fr.get t = .bool e) {b : Bool} (hb : e.den = b) : FrLe fr (fr.set t (.bool (.lit b))) := fun k w E v hv => by
  rw [Fr.get_set]
  by_cases q : t = k
  · subst q
    rw [if_pos rfl]
    rw [ht] at hv
    cases hv
    rw [hb]
    exact .bool (e := .lit b)
  · rw [if_neg q]; exact hv
theorem part1_le {fr : Fr} {t : Nat} {F : Fr → Prop} (hp : part1 fr t F) : ∃ fr', F fr' ∧ FrLe fr fr' ∧ ∀ k, (∀ e, fr.get k ≠ .bool e) → fr'.get k = fr.get k := by
  unfold part1 at hp
  split at hp
  · exact ⟨fr, hp, fun _ _ _ _ h => h, fun _ _ => rfl⟩
  · next e _ he =>
    obtain ⟨h1, h2⟩ := hp
    have other : ∀ b k, (∀ e, fr.get k ≠ .bool e) → (fr.set t (.bool (.lit b))).get k = fr.get k := fun b k hk => by
      rw [Fr.get_set, if_neg]
      intro q
      subst q
      exact hk e he
    cases hb : e.den with
    | true => exact ⟨_, h1 hb, lit_le he hb, other _⟩
    | false => exact ⟨_, h2 hb, lit_le he hb, other _⟩
  · exact ⟨fr, hp, fun _ _ _ _ h => h, fun _ _ => rfl⟩
/-- behind the parting of a pick the literals stand as they stood -/
theorem part2_le {fr : Fr} {o : Oper} {F : Fr → Prop} (hp : part2 fr o F) : ∃ fr', F fr' ∧ FrLe fr fr' ∧ ∀ k, (∀ c, fr.get k = .bool (.lit c) → fr'.get k = .bool (.lit c)) := by
  unfold part2 at hp
  split at hp
  · next t ht =>
    unfold part1 at hp
    split at hp
    · exact ⟨fr, hp, fun _ _ _ _ h => h, fun _ _ h => h⟩
    · next e hne he =>
      obtain ⟨h1, h2⟩ := hp
      have other : ∀ b k c, fr.get k = .bool (.lit c) → (fr.set t (.bool (.lit b))).get k = .bool (.lit c) := fun b k c hk => by
        rw [Fr.get_set, if_neg, hk]
        intro q
        subst q
        rw [he] at hk
        cases hk
        exact hne c rfl
      cases hb : e.den with
      | true => exact ⟨_, h1 hb, lit_le he hb, other _⟩
      | false => exact ⟨_, h2 hb, lit_le he hb, other _⟩
    · exact ⟨fr, hp, fun _ _ _ _ h => h, fun _ _ h => h⟩
  · exact ⟨fr, hp, fun _ _ _ _ h => h, fun _ _ h => h⟩
theorem vopq_trace (hT : cx.T.ok P) {o : Oper} {fr : Fr} {H : List Bk} {K : Fr → List Bk → Prop} {own : Bool} (hk : vopq P cx own o fr H K) : ∃ t d nw, o.dst = some t ∧ t < cx.nt ∧ OpX P H (res o fr.ev) o d nw ∧ K (fr.set t d) (H ++ nw) := by
  unfold vopq at hk
  split at hk
  · next t ht =>
    split at hk
    · next hlt =>
      split at hk
      · next f args ats ho =>
        split at hk
        · next n first cap hf =>
          have e1 : res o fr.ev f = .fn (.func n) first cap := by rw [res_in (by rw [ho]; simp [Op.operands, Call.operands]), hf]
          have e2 : args.toList.map (res o fr.ev) = args.toList.map fr.ev := List.map_congr_left fun x hx => res_in (by rw [ho]; simp only [Op.operands, Call.operands]; simp; exact .inr (by simpa using hx))
          cases hk with
          | mk d hp hd hk => exact ⟨t, d, [], ht, hlt, PureP.effX ho e1 (by rw [e2]; exact hp) (by rw [e2]; exact hd), hk⟩
          | new hp hd hsc hv hk => exact ⟨t, _, _, ht, hlt, PureP.effN ho e1 (by rw [e2]; exact hp) (by rw [e2]; exact hd) hv, hk⟩
          | newD hp hd hv hk => exact ⟨t, _, _, ht, hlt, PureP.effN ho e1 (by rw [e2]; exact hp) (by rw [e2]; exact hd) hv, hk⟩
          | lendF args' d hp hs hd hk => exact ⟨t, d, [], ht, hlt, PureP.effF ho e1 hp (by rw [e2]; exact hs) hd, hk⟩
          | lend args' d hp hs hd hsc hk => exact ⟨t, d, [], ht, hlt, PureP.effL ho e1 hp (by rw [e2]; exact hs) hd hsc, hk⟩
        · cases hk
      · obtain ⟨d, nw, h1, h2⟩ := QR.effX (ρ := res o fr.ev) (P := P) _ (by rw [← qopB_res]; exact qopB_good hT own) hk
        exact ⟨t, d, nw, ht, hlt, h1, h2⟩
    · cases hk
  · cases hk
theorem vopsq_trace (hT : cx.T.ok P) {ops : Array Oper} : ∀ (os : List Oper) {fr : Fr} {H : List Bk} {K : Fr → List Bk → Prop}, vopsq P cx ops os fr H K → ∃ tr fr' H', Trace P cx ops os fr H tr fr' H' ∧ K fr' H'
  | [], fr, H, K, hk => ⟨[], fr, H, .nil, hk⟩
  | o :: os, fr, H, K, hk => by
    unfold vopsq at hk
    split at hk
    · next hg =>
      obtain ⟨fr1, h1, h2, _⟩ := part2_le hk
      obtain ⟨t, d, nw, h3, h4, h5, h6⟩ := vopq_trace hT h1
      obtain ⟨tr, fr', H', h7, h8⟩ := vopsq_trace hT os h6
      exact ⟨_, fr', H', .cons (run := true) h2 (by unfold Guard; rw [hg]) h3 h4 (by rw [if_pos rfl]; exact h5) h7, h8⟩
    · next j b hg =>
      split at hk
      · next t t' hj ht' =>
        split at hk
        · next hc =>
          simp only [Bool.and_eq_true, decide_eq_true_eq] at hc
          obtain ⟨fr1, h1, h2, _⟩ := part1_le hk
          have skip : vopsq P cx ops os (fr1.set t' (.tup [])) H K → Guard ops o fr1 false → ∃ tr fr' H', Trace P cx ops (o :: os) fr H tr fr' H' ∧ K fr' H' := fun q g => by
            obtain ⟨tr, fr', H', h7, h8⟩ := vopsq_trace hT os q
            exact ⟨_, fr', H', .cons (run := false) (d := .tup []) (nw := []) h2 g ht' hc.2 (by simp) (by rw [List.append_nil]; exact h7), h8⟩
          split at h1
          · next c hlit =>
            split at h1
            · next e =>
              obtain ⟨fr2, k1, k2, k3⟩ := part2_le h1
              obtain ⟨t2, d, nw, h3, h4, h5, h6⟩ := vopq_trace hT k1
              obtain ⟨tr, fr', H', h7, h8⟩ := vopsq_trace hT os h6
              exact ⟨_, fr', H', .cons (run := true) (fun t w E v hv => k2 t w E v (h2 t w E v hv)) (by unfold Guard; rw [hg]; exact ⟨t, hj, .inl ⟨c, k3 t c hlit, by simp [e]⟩⟩) h3 h4 (by rw [if_pos rfl]; exact h5) h7, h8⟩
            · next e => exact skip h1 (by unfold Guard; rw [hg]; exact ⟨t, hj, .inl ⟨c, hlit, by simp [e]⟩⟩)
          · next htup => exact skip h1 (by unfold Guard; rw [hg]; exact ⟨t, hj, .inr ⟨htup, rfl⟩⟩)
          · cases h1
        · cases hk
      · cases hk
end
end Go.Proofs.Ytdhfakajlnidiaa
namespace Go.Proofs.Ytdhfakajlnidiaa
open Go.RowKit

/-! All the orders of the front of a region. -/
section
variable {P : Program} {ops : Array Oper} {md : Region.Mode} {n : Nat}
theorem wpAny_joint (T : TailW md ops n) {Q : Exit → Act → World → Prop} (J : List Nat → Act → World → Prop)
    (step : ∀ (U : List Nat) (i : Nat) (o : Oper), U.Nodup → i ∈ U → i < n → ops[i]? = some o → (∀ e ∈ o.after, Region.binds md e = true → e.on ∉ U) → ∀ (a : Act) (w : World), J U a w → wpOp P ops Q i (J (U.erase i)) a w) {g : Nat}
    (hend : ∀ (listed : Array Bool) (a : Act) (w : World), listed.size = ops.size → (∀ t, listed.getD t true = false ↔ n ≤ t ∧ t < ops.size) → J [] a w → wpAny P md ops Q g listed a w) :
    ∀ (f : Nat) (U : List Nat) (listed : Array Bool) (a : Act) (w : World), U.length = f → U.Nodup → listed.size = ops.size → (∀ t, listed.getD t true = false ↔ t ∈ U ∨ (n ≤ t ∧ t < ops.size)) → (∀ t ∈ U, t < n) → (∀ (j : Nat) (o' : Oper), j < n → j ∉ U → ops[j]? = some o' → ∀ e ∈ o'.after, Region.binds md e = true → e.on ∉ U) → J U a w → wpAny P md ops Q (f + g) listed a w
  | 0, U, listed, a, w, hU, _, hs, hu, _, _, hJ => by
    rw [Nat.zero_add]
    have : U = [] := List.length_eq_zero_iff.1 hU
    subst this
    exact hend listed a w hs (fun t => by simpa using hu t) hJ
  | f + 1, U, listed, a, w, hU, hnd, hs, hu, hUn, hcl, hJ => by
    rw [show f + 1 + g = (f + g) + 1 by omega]
    have hnn := T.le
    have hex : ∀ (j : Nat), j ∈ U → ∃ r ∈ U, r ∈ Region.ready md ops listed := by
      intro j
      induction j using Nat.strongRecOn with
      | _ j ih =>
        intro hj
        have hjn := hUn j hj
        obtain ⟨o, ho⟩ : ∃ o, ops[j]? = some o := ⟨_, Array.getElem?_eq_getElem (by omega)⟩
        by_cases hall : ∀ e ∈ o.after, Region.binds md e = true → listed.getD e.on false = true
        · exact ⟨j, hj, mem_ready.2 ⟨(hu j).2 (.inl hj), o, ho, hall⟩⟩
        · simp only [Classical.not_forall] at hall
          obtain ⟨e, he, hb, hne⟩ := hall
          have hlt := T.back j o ho e he hb
          have : listed.getD e.on true = false := by
            have hsz : e.on < listed.size := by omega
            simp [hsz] at hne ⊢; exact hne
          rcases (hu e.on).1 this with q | q
          · exact ih e.on hlt q
          · omega
    obtain ⟨j0, hj0⟩ : ∃ j0, j0 ∈ U := by
      cases U with
      | nil => simp at hU
      | cons x xs => exact ⟨x, by simp⟩
    obtain ⟨r, hrU, hr⟩ := hex j0 hj0
    refine ⟨fun h0 => (by rw [h0] at hr; cases hr), fun i hi => ?_⟩
    obtain ⟨hun, o, hoi, hall⟩ := mem_ready.1 hi
    have hin : i < n := by
      rcases Nat.lt_or_ge i n with q | q
      · exact q
      · refine absurd hrU (T.through hoi q hcl hUn (fun e he hb => ?_) r)
        have h3 := hall e he hb
        refine ⟨fun q2 => ?_, ?_⟩
        · rw [getD_flip' ((hu e.on).2 (.inl q2))] at h3
          cases h3
        · have h4 := T.back i o hoi e he hb
          rcases Nat.lt_or_ge e.on n with q2 | q2
          · exact q2
          · have h5 := (Array.getElem?_eq_some_iff.1 hoi).1
            rw [getD_flip' ((hu e.on).2 (.inr ⟨q2, by omega⟩))] at h3
            cases h3
    have hiU : i ∈ U := by
      rcases (hu i).1 hun with q | q
      · exact q
      · omega
    refine wpOp_mono (fun a' w' hJ' => ?_) (step U i o hnd hiU hin hoi (fun e he hb q => by
      have h1 := hall e he hb
      rw [getD_flip' ((hu e.on).2 (.inl q))] at h1
      cases h1) a w hJ)
    refine wpAny_joint T J step hend f (U.erase i) _ a' w' ?_ (hnd.erase i) (by simpa using hs) (fun t => ?_) (fun t ht => hUn t (List.mem_of_mem_erase ht)) (fun j o' hj hjU ho' e he hb => ?_) hJ'
    · rw [List.length_erase_of_mem hiU]; omega
    · by_cases e : i = t
      · subst e
        have hsz : i < listed.size := by omega
        have : i ∉ U.erase i := fun q => by rw [hnd.mem_erase_iff] at q; exact q.1 rfl
        simp [hsz, this]; omega
      · rw [getD_set_ne true e, hu t, hnd.mem_erase_iff]
        constructor
        · rintro (q | q)
          · exact .inl ⟨fun q2 => e q2.symm, q⟩
          · exact .inr q
        · rintro (q | q)
          · exact .inl q.2
          · exact .inr q
    · intro q0
      have q := List.mem_of_mem_erase q0
      by_cases ej : j = i
      · subst ej
        rw [hoi] at ho'
        cases ho'
        have h3 := hall e he hb
        rw [getD_flip' ((hu e.on).2 (.inl q))] at h3
        cases h3
      · exact hcl j o' hj (fun q2 => hjU ((hnd.mem_erase_iff).2 ⟨ej, q2⟩)) ho' e he hb q
end
/-- the front is such that each operation waits for those whose slots it reads -/
def isT (t : Nat) : Operand → Bool
  | .tmp t' => t' == t
  | _ => false
def readsB (ds : List Nat) (o : Oper) : Bool := (List.range ds.length).all fun j => !(o.op.operands.any (isT (ds.getD j 0))) || waitsOn .any o j
def guardsB (o : Oper) : Bool := match o.guard with | none => true | some (j, _) => waitsOn .any o j
def drawnB (ops : Array Oper) (ds : List Nat) : Bool := decide ds.Nodup && (List.range ds.length).all fun i => match ops[i]? with | some o => (o.dst == some (ds.getD i 0)) && readsB ds o && guardsB o | none => false
theorem Trace.get {P : Program} {cx : Cx} {ops : Array Oper} {os : List Oper} {fr fr' : Fr} {H H' : List Bk} {tr : List TStep} (h : Trace P cx ops os fr H tr fr' H') :
    tr.length = os.length ∧ (∃ nws, H' = H ++ nws) ∧
    (∀ (i : Nat) s, tr[i]? = some s → ∃ o t, os[i]? = some o ∧ o.dst = some t ∧ t < cx.nt ∧ Guard ops o s.fr s.run ∧ (if s.run then OpX P s.H (res o s.fr.ev) o s.d s.nw else s.d = .tup [] ∧ s.nw = []) ∧ (∃ p, s.H = H ++ p) ∧ (∃ p, H' = s.H ++ s.nw ++ p) ∧
      (∀ (j : Nat) s', j < i → tr[j]? = some s' → ∃ p, s.H = s'.H ++ s'.nw ++ p) ∧
      ∀ t w E v, (∀ (j : Nat) s' o', j < i → tr[j]? = some s' → os[j]? = some o' → o'.dst = some t → DRep w E s'.d v ∨ ∃ (k : Nat) (o2 : Oper), j < k ∧ k < i ∧ os[k]? = some o2 ∧ o2.dst = some t) → (DRep w E (fr.get t) v ∨ ∃ (k : Nat) (o2 : Oper), k < i ∧ os[k]? = some o2 ∧ o2.dst = some t) → DRep w E (s.fr.get t) v) ∧
    ∀ t w E v, (∀ (j : Nat) s' o', tr[j]? = some s' → os[j]? = some o' → o'.dst = some t → DRep w E s'.d v ∨ ∃ (k : Nat) (o2 : Oper), j < k ∧ os[k]? = some o2 ∧ o2.dst = some t) → (DRep w E (fr.get t) v ∨ ∃ (k : Nat) (o2 : Oper), os[k]? = some o2 ∧ o2.dst = some t) → DRep w E (fr'.get t) v := by
  induction h with
  | nil => exact ⟨rfl, ⟨[], by simp⟩, fun i s h => by simp at h, fun t w E v _ h => by
      rcases h with h | ⟨k, o2, h, _⟩
      · exact h
      · simp at h⟩
  | @cons o os fr H fr1 t d nw run tr fr' H' hfr hg ht hlt hop rest ih =>
    obtain ⟨h1, ⟨nws, h2⟩, h3, h4⟩ := ih
    refine ⟨by simp [h1], ⟨nw ++ nws, by rw [h2]; simp⟩, fun i s hs => ?_, fun t' w E v ha hb => ?_⟩
    · cases i with
      | zero =>
        simp only [List.getElem?_cons_zero, Option.some.injEq] at hs
        subst hs
        refine ⟨o, t, rfl, ht, hlt, hg, hop, ⟨[], by simp⟩, ⟨nws, h2⟩, fun j s' hj => by omega, fun t' w E v _ hb => ?_⟩
        rcases hb with hb | ⟨k, o2, hk, _⟩
        · exact hfr t' w E v hb
        · omega
      | succ i =>
        simp only [List.getElem?_cons_succ] at hs
        obtain ⟨o1, t1, g1, g2, g3, g4, g5, ⟨p, g6⟩, g7, g8, g9⟩ := h3 i s hs
        refine ⟨o1, t1, by simpa using g1, g2, g3, g4, g5, ⟨nw ++ p, by rw [g6]; simp⟩, g7, fun j s' hj hs' => ?_, fun t' w E v ha hb => ?_⟩
        · cases j with
          | zero =>
            simp only [List.getElem?_cons_zero, Option.some.injEq] at hs'
            subst hs'
            exact ⟨p, g6⟩
          | succ j => exact g8 j s' (by omega) (by simpa using hs')
        · refine g9 t' w E v (fun j s' o' hj hs' ho' hd' => ?_) ?_
          · rcases ha (j + 1) s' o' (by omega) (by simpa using hs') (by simpa using ho') hd' with q | ⟨k, o2, q1, q2, q3, q4⟩
            · exact .inl q
            · cases k with
              | zero => omega
              | succ k => exact .inr ⟨k, o2, by omega, by omega, by simpa using q3, q4⟩
          · rw [Fr.get_set]
            by_cases e : t = t'
            · subst e
              rw [if_pos rfl]
              rcases ha 0 _ o (by omega) rfl rfl ht with q | ⟨k, o2, q1, q2, q3, q4⟩
              · exact .inl q
              · cases k with
                | zero => omega
                | succ k => exact .inr ⟨k, o2, by omega, by simpa using q3, q4⟩
            · rw [if_neg e]
              rcases hb with hb | ⟨k, o2, q1, q2, q3⟩
              · exact .inl (hfr t' w E v hb)
              · cases k with
                | zero =>
                  simp only [List.getElem?_cons_zero, Option.some.injEq] at q2
                  subst q2
                  rw [ht] at q3
                  exact absurd (Option.some.inj q3) e
                | succ k => exact .inr ⟨k, o2, by omega, by simpa using q2, q3⟩
    · refine h4 t' w E v (fun j s' o' hs' ho' hd' => ?_) ?_
      · rcases ha (j + 1) s' o' (by simpa using hs') (by simpa using ho') hd' with q | ⟨k, o2, q1, q3, q4⟩
        · exact .inl q
        · cases k with
          | zero => omega
          | succ k => exact .inr ⟨k, o2, by omega, by simpa using q3, q4⟩
      · rw [Fr.get_set]
        by_cases e : t = t'
        · subst e
          rw [if_pos rfl]
          rcases ha 0 _ o rfl rfl ht with q | ⟨k, o2, q1, q3, q4⟩
          · exact .inl q
          · cases k with
            | zero => omega
            | succ k => exact .inr ⟨k, o2, by simpa using q3, q4⟩
        · rw [if_neg e]
          rcases hb with hb | ⟨k, o2, q2, q3⟩
          · exact .inl (hfr t' w E v hb)
          · cases k with
            | zero =>
              simp only [List.getElem?_cons_zero, Option.some.injEq] at q2
              subst q2
              rw [ht] at q3
              exact absurd (Option.some.inj q3) e
            | succ k => exact .inr ⟨k, o2, by simpa using q2, q3⟩
end Go.Proofs.Ytdhfakajlnidiaa
namespace Go.Proofs.Ytdhfakajlnidiaa
open Go.RowKit

def hasT : List Nat → Nat → Bool
  | [], _ => false
  | a :: l, n => if a = n then true else hasT l n
def tmpsOf : List Operand → List Nat
  | [] => []
  | .tmp t :: r => t :: tmpsOf r
  | _ :: r => tmpsOf r
/-- the front of a region ends at the first operation that writes a slot which was read or that has an effect -/
def frontGo : List Nat → List Oper → Nat
  | _, [] => 0
  | rs, o :: os => match o.dst, o.op with
    | none, _ => 0
    | _, .store .. => 0
    | _, .call ⟨.builtin .append, _, _⟩ => 0
    | _, .call ⟨.builtin .copy, _, _⟩ => 0
    | some t, _ => if hasT rs t then 0 else frontGo (tmpsOf o.op.operands.toList ++ rs) os + 1
def frontLen (os : List Oper) : Nat := frontGo [] os
def dstsOf : List Oper → List Nat
  | [] => []
  | o :: os => (o.dst.getD 0) :: dstsOf os
/-- a call behind which the operations stand in one order is not of the front -/
def callCut (ops : Array Oper) (k : Nat) : List Oper → Option Nat
  | [] => none
  | o :: os => match o.op with
    | .call ⟨.value _, _, _⟩ => if tailWB .any ops k then some k else callCut ops (k + 1) os
    | _ => callCut ops (k + 1) os
def frontLenA (ops : Array Oper) : Nat := match callCut ops 0 (ops.toList.take (frontLen ops.toList)) with
  | some k => k
  | none => frontLen ops.toList
def drawOK (ops : Array Oper) : Bool := tailWB .any ops (frontLenA ops) && drawnB ops (dstsOf (ops.toList.take (frontLenA ops)))
/-- a great region: its order is looked at apart -/
structure DrawP (ops : Array Oper) (K : Unit → Prop) : Prop where
  ok : drawOK ops = true
  k : K ()
/-- a region whose operations stand in no order that is known here: it is walked by FootP.intro -/
structure FootP (P : Program) (cx : Cx) (ops : Array Oper) (fr : Fr) (H : List Bk) (K : Fr → List Bk → Prop) : Prop where
  run : ∀ (B : Base) (E : Env) (a : Act) (w : World), cx.nt = B.nt → B.h0 ≤ cx.h0 → Rel B ⟨fr, H⟩ E a w → ∀ Q : Exit → Act → World → Prop, (∀ fr' H' E' a' w', K fr' H' → Rel B ⟨fr', H'⟩ E' a' w' → Q .normal a' w') → ∀ id, (Code.region id ops true).wp P Q a w
def argOf (t : Nat) : List Oper → Bool
  | [] => false
  | o :: os => match o.op with
    | .call ⟨.value _, ⟨l⟩, _⟩ => if hasT (tmpsOf l) t then true else argOf t os
    | _ => argOf t os
/-- a slice is made and handed to a call -/
def giveB (ops : List Oper) : List Oper → Bool
  | [] => false
  | o :: os => match o.op, o.dst with
    | .makeSlice .., some t => if argOf t ops then true else giveB ops os
    | _, _ => giveB ops os
/-- a region that draws its order -/
def vdraw (P : Program) (cx : Cx) (ops : Array Oper) (fr : Fr) (H : List Bk) (K : Fr → List Bk → Prop) : Prop :=
  match decide (ops.size ≤ 24) with
  | true => if drawOK ops && !giveB ops.toList ops.toList then
      vopsq P cx ops (ops.toList.take (frontLenA ops)) fr H fun fr H => vops P cx ops (ops.toList.drop (frontLenA ops)) fr H K
    else FootP P cx ops fr H K
  | false => DrawP ops fun _ => vopsq P cx ops (ops.toList.take (frontLenA ops)) fr H fun fr H => vops P cx ops (ops.toList.drop (frontLenA ops)) fr H K
theorem vdraw_get {P : Program} {cx : Cx} {ops : Array Oper} {fr : Fr} {H : List Bk} {K : Fr → List Bk → Prop} (h : vdraw P cx ops fr H K) : (drawOK ops = true ∧ vopsq P cx ops (ops.toList.take (frontLenA ops)) fr H fun fr H => vops P cx ops (ops.toList.drop (frontLenA ops)) fr H K) ∨ FootP P cx ops fr H K := by
  unfold vdraw at h
  split at h
  · split at h
    · next hc => simp only [Bool.and_eq_true] at hc; exact .inl ⟨hc.1, h⟩
    · exact .inr h
  · exact .inl ⟨h.ok, h.k⟩
theorem WRel.drew {B : Base} {H : List Bk} {E : Env} {w : World} (h : WRel B H E w) : WRel B H E w.drew ∧ E.le w w.drew E := by
  have hle : E.le w w.drew E := ⟨fun _ h => h, fun _ _ => rfl⟩
  refine ⟨⟨h.inj, h.own, h.wf, fun x b hx => ?_, h.out, h.good, h.g0, h.gn, h.bel.drew, B.stab _ _ _ _ hle (Env.own.refl _) h.phi⟩, hle⟩
  rcases h.heap x b hx with q | ⟨q1, q2, q3⟩
  · exact .inl q
  · exact .inr ⟨q1, fun c hc => (q2 c hc).move hle (Env.own.refl _) rfl rfl, q3⟩
theorem dstsOf_len : ∀ l : List Oper, (dstsOf l).length = l.length
  | [] => rfl
  | _ :: l => by simp [dstsOf, dstsOf_len l]
theorem frontGo_le : ∀ (rs : List Nat) (l : List Oper), frontGo rs l ≤ l.length
  | _, [] => Nat.le_refl _
  | rs, o :: l => by
    unfold frontGo
    split
    case h_5 t _ _ _ _ =>
      have := frontGo_le (tmpsOf o.op.operands.toList ++ rs) l
      split <;> simp <;> omega
    all_goals simp
theorem frontLen_le (l : List Oper) : frontLen l ≤ l.length := frontGo_le [] l
theorem callCut_le {ops : Array Oper} : ∀ {l : List Oper} {k n : Nat}, callCut ops k l = some n → n < k + l.length
  | [], k, n, h => by simp [callCut] at h
  | o :: l, k, n, h => by
    unfold callCut at h
    split at h
    · split at h
      · cases h; simp
      · have := callCut_le h; simp; omega
    · have := callCut_le h; simp; omega
theorem frontLenA_le (ops : Array Oper) : frontLenA ops ≤ ops.toList.length := by
  unfold frontLenA
  have h0 := frontLen_le ops.toList
  split
  · next k h =>
    have := callCut_le h
    rw [List.length_take] at this
    omega
  · exact h0
section
variable {P : Program} {cx : Cx} {B : Base}
theorem vdraw_sound (hT : cx.T.ok P) (hm : P.follows .mixedOrders = true) (hnt : cx.nt = B.nt) (hh0 : B.h0 ≤ cx.h0) {id : Nat} {ops : Array Oper} {fr : Fr} {H : List Bk} {K : Fr → List Bk → Prop} (hk : vdraw P cx ops fr H K) {E : Env} {a : Act} {w : World} (h : Rel B ⟨fr, H⟩ E a w) {Q : Exit → Act → World → Prop}
    (hQ : ∀ fr' H' E' a' w', K fr' H' → Rel B ⟨fr', H'⟩ E' a' w' → Q .normal a' w') : (Code.region id ops true).wp P Q a w := by
  rcases vdraw_get hk with ⟨hc, hk⟩ | hk
  case inr => exact hk.run B E a w hnt hh0 h Q hQ id
  unfold drawOK at hc
  generalize hn : frontLenA ops = n at *
  have hnle : n ≤ ops.size := by have := frontLenA_le ops; rw [hn] at this; simpa using this
  simp only [Bool.and_eq_true] at hc
  have T := tailWB_spec hc.1
  obtain ⟨tr, fr', H', ht, hK⟩ := vopsq_trace hT _ hk
  obtain ⟨hlen, ⟨nws, hnws⟩, hstep, hfin⟩ := ht.get
  generalize hds : dstsOf (ops.toList.take n) = ds at *
  have hdl : ds.length = n := by rw [← hds, dstsOf_len]; simp; omega
  have htl : tr.length = n := by rw [hlen]; simp; omega
  have hdr := hc.2
  unfold drawnB at hdr
  simp only [Bool.and_eq_true, decide_eq_true_eq] at hdr
  obtain ⟨hnd, hall⟩ := hdr
  have hop : ∀ i, i < n → ∃ o, ops[i]? = some o ∧ (ops.toList.take n)[i]? = some o ∧ o.dst = ds[i]? ∧ readsB ds o = true ∧ guardsB o = true := fun i hi => by
    have := List.all_eq_true.1 hall i (List.mem_range.2 (by omega))
    have ho : ops[i]? = some (ops[i]'(by omega)) := Array.getElem?_eq_getElem (by omega)
    rw [ho] at this
    simp only [Bool.and_eq_true, beq_iff_eq] at this
    refine ⟨_, ho, by rw [List.getElem?_take, if_pos hi, Array.getElem?_toList, ho], ?_, this.1.2, this.2⟩
    rw [this.1.1, List.getD_eq_getElem?_getD, List.getElem?_eq_getElem (by omega)]
    rfl
  have hdst : ∀ i o, (ops.toList.take n)[i]? = some o → i < n ∧ o.dst = ds[i]? := fun i o ho => by
    have hi : i < n := by have := (List.getElem?_eq_some_iff.1 ho).1; simp at this; omega
    obtain ⟨o', _, h2, h3, _⟩ := hop i hi
    rw [ho] at h2
    cases h2
    exact ⟨hi, h3⟩
  have uniq : ∀ {i j : Nat} {t : Nat}, ds[i]? = some t → ds[j]? = some t → i = j := fun {i j t} h1 h2 => by
    obtain ⟨a1, a2⟩ := List.getElem?_eq_some_iff.1 h1
    obtain ⟨b1, b2⟩ := List.getElem?_eq_some_iff.1 h2
    exact (List.getElem_inj hnd).1 (a2.trans b2.symm)
  let J : List Nat → Act → World → Prop := fun U a' w' => ∃ E', WRel B H' E' w' ∧ a'.tmps.size = B.nt ∧ a'.defers = B.df ∧ (∀ t, t ∉ ds → DRep w' E' (fr.get t) (a'.tmps.getD t undef)) ∧
    (∀ (j : Nat) s t, j < n → j ∉ U → tr[j]? = some s → ds[j]? = some t → DRep w' E' s.d (a'.tmps.getD t undef)) ∧ (∀ (j : Nat) s, j ∈ U → tr[j]? = some s → Fresh E' s.H.length (s.H.length + s.nw.length))
  have slotD : ∀ {U : List Nat} {a' : Act} {w' : World} {E' : Env}, (∀ t, t ∉ ds → DRep w' E' (fr.get t) (a'.tmps.getD t undef)) → (∀ (j : Nat) s t, j < n → j ∉ U → tr[j]? = some s → ds[j]? = some t → DRep w' E' s.d (a'.tmps.getD t undef)) →
      ∀ (i : Nat) s, tr[i]? = some s → ∀ t, (∀ j, ds[j]? = some t → j ∉ U ∧ j < i) → DRep w' E' (s.fr.get t) (a'.tmps.getD t undef) := by
    intro U a' w' E' q1 q2 i s hs t hj
    obtain ⟨o, t1, g1, g2, g3, g4, g5, g6, g7, g8, g9⟩ := hstep i s hs
    refine g9 t w' E' _ (fun j s' o' hji hs' ho' hd' => .inl ?_) ?_
    · obtain ⟨k1, k2⟩ := hdst j o' ho'
      exact q2 j s' t k1 (hj j (by rw [← k2, hd'])).1 hs' (by rw [← k2, hd'])
    · by_cases e : t ∈ ds
      · obtain ⟨j, hj'⟩ := List.getElem?_of_mem e
        have hjn : j < n := by have := (List.getElem?_eq_some_iff.1 hj').1; omega
        obtain ⟨o', _, k2, k3, _⟩ := hop j hjn
        exact .inr ⟨j, o', (hj j hj').2, k2, by rw [k3, hj']⟩
      · exact .inl (q1 t e)
  have jput : ∀ {U : List Nat} {i : Nat} {s : TStep} {t : Nat}, i ∈ U → U.Nodup → i < n → tr[i]? = some s → ds[i]? = some t → ∀ {a' : Act} {w' w2 : World} {E' E2 : Env} {v : Value}, a'.tmps.size = B.nt → a'.defers = B.df → t < B.nt → (∀ t, t ∉ ds → DRep w' E' (fr.get t) (a'.tmps.getD t undef)) →
      (∀ (j : Nat) s t, j < n → j ∉ U → tr[j]? = some s → ds[j]? = some t → DRep w' E' s.d (a'.tmps.getD t undef)) → (∀ (j : Nat) s, j ∈ U → tr[j]? = some s → Fresh E' s.H.length (s.H.length + s.nw.length)) →
      WRel B H' E2 w2 → E'.le w' w2 E2 → E'.own E2 → (∀ x, x < s.H.length ∨ s.H.length + s.nw.length ≤ x → E2.σ x = E'.σ x ∧ E2.κ x = E'.κ x) → DRep w2 E2 s.d v → J (U.erase i) (a'.put (some t) v) w2 := by
    intro U i s t hiU hUnd hin hs hti a' w' w2 E' E2 v q1 q2 q3 q4 q5 q6 k1 k2 k3 k4 k5
    refine ⟨E2, k1, put_size.trans q1, put_defers'.trans q2, fun t' ht' => ?_, fun j s' t' hj hjU hs' htj => ?_, fun j s' hjU hs' => ?_⟩
    · have hne : t ≠ t' := fun e => ht' (by rw [← e]; exact List.mem_of_getElem? hti)
      rw [show (a'.put (some t) v).tmps.getD t' undef = a'.tmps.getD t' undef from eval_put_ne hne]
      exact (q4 t' ht').move k2 k3
    · by_cases e : j = i
      · subst e
        rw [hs] at hs'
        cases hs'
        rw [hti] at htj
        cases htj
        rw [show (a'.put (some t) v).tmps.getD t undef = v from eval_put_same (by omega)]
        exact k5
      · have hne : t ≠ t' := fun q => e (uniq htj (by rw [hti, q]))
        rw [show (a'.put (some t) v).tmps.getD t' undef = a'.tmps.getD t' undef from eval_put_ne hne]
        exact (q5 j s' t' hj (fun q => hjU ((hUnd.mem_erase_iff).2 ⟨e, q⟩)) hs' htj).move k2 k3
    · have hne : j ≠ i ∧ j ∈ U := (hUnd.mem_erase_iff).1 hjU
      have hf := q6 j s' hne.2 hs'
      intro x hx1 hx2
      have : x < s.H.length ∨ s.H.length + s.nw.length ≤ x := by
        rcases Nat.lt_or_ge j i with q | q
        · obtain ⟨_, _, _, _, _, _, _, _, _, g8, _⟩ := hstep i s hs
          obtain ⟨p, hp⟩ := g8 j s' q hs'
          left
          rw [hp]
          simp
          omega
        · obtain ⟨_, _, _, _, _, _, _, _, _, g8, _⟩ := hstep j s' hs'
          obtain ⟨p, hp⟩ := g8 i s (by omega) hs
          right
          have := congrArg List.length hp
          simp at this
          omega
      obtain ⟨e1, e2⟩ := k4 x this
      obtain ⟨f1, f2⟩ := hf x hx1 hx2
      exact ⟨e1.trans f1, e2.trans f2⟩
  refine wp_region_any hm ?_
  have esz : ops.size = n + (ops.toList.drop n).length := by simp; omega
  rw [show wpAny P .any ops Q ops.size = wpAny P .any ops Q (n + (ops.toList.drop n).length) by rw [← esz]]
  refine wpAny_joint T J ?_ ?_ n (List.range n) _ a w.drew (by simp) List.nodup_range (by simp) (fun t => ?_) (fun t ht => by simpa using ht) (fun j o' hj hjn => absurd (List.mem_range.2 hj) hjn) ?_
  · intro U i o hUnd hiU hin ho hwait a' w' ⟨E', q1, q2, q3, q4, q5, q6⟩
    obtain ⟨s, hs⟩ : ∃ s, tr[i]? = some s := ⟨_, List.getElem?_eq_getElem (by omega)⟩
    obtain ⟨o1, t1, g1, g2, g3, g4, g5, g6, ⟨p7, g7⟩, g8, g9⟩ := hstep i s hs
    obtain ⟨o2, k1, k2, k3, k4, k5⟩ := hop i hin
    rw [ho] at k1
    cases k1
    rw [k2] at g1
    cases g1
    have hti : ds[i]? = some t1 := by rw [← k3, g2]
    have wait : ∀ {j : Nat}, waitsOn .any o j = true → j ∉ U ∧ j < i := fun hw => by
      obtain ⟨e, he, hb, rfl⟩ := waitsOn_spec hw
      exact ⟨hwait e he hb, T.back i o ho e he hb⟩
    have hwanted : Region.wanted o (yielded ops a'.tmps) = s.run := by
      unfold Guard at g4
      unfold Region.wanted
      split at g4
      · next hg => rw [hg, g4]
      · next j b hg =>
        rw [hg]
        obtain ⟨tj, hj1, hj2⟩ := g4
        have hwj : waitsOn .any o j = true := by unfold guardsB at k5; rw [hg] at k5; exact k5
        obtain ⟨hjU, hji⟩ := wait hwj
        obtain ⟨oj, m1, m2, m3, _⟩ := hop j (by omega)
        have htj : ds[j]? = some tj := by rw [← m3]; rw [m1] at hj1; simpa using hj1
        have hrep := slotD q4 q5 i s hs tj fun j' hj' => by rw [uniq hj' htj]; exact ⟨hjU, hji⟩
        obtain ⟨sj, hsj⟩ : ∃ s, tr[j]? = some s := ⟨_, List.getElem?_eq_getElem (by omega)⟩
        obtain ⟨_, tj', n1, n2, n3, _⟩ := hstep j sj hsj
        rw [m2] at n1
        cases n1
        rw [m3, htj] at n2
        cases n2
        have hy := yielded_get (a := a') hj1 (by rw [q2, ← hnt]; exact n3)
        show (yielded ops a'.tmps j == some b) = s.run
        rw [hy]
        generalize a'.tmps.getD tj undef = v at hrep
        rcases hj2 with ⟨c, hc1, hc2⟩ | ⟨hc1, hc2⟩
        · rw [hc1] at hrep
          cases hrep
          simp only [BE.den]
          rw [hc2]
          by_cases e : c = b <;> simp [e]
        · rw [hc1] at hrep
          cases hrep
          rw [hc2]
          rfl
    unfold wpOp
    rw [ho]
    simp only
    rw [hwanted]
    cases hrun : s.run with
    | true =>
      rw [if_pos rfl]
      rw [hrun, if_pos rfl] at g5
      refine .inl (g5 B H' w' E' a' (fun x => ?_) q1 (fun x b hx => .inr (by rw [g7, List.getElem?_append_left (by have := (List.getElem?_eq_some_iff.1 hx).1; exact this)]; exact hx)) (q6 i s hiU hs) _ Q fun v w2 E2 m1 m2 m3 m4 m5 => ?_)
      · unfold res
        split
        · next hx =>
          cases x with
          | tmp t =>
            refine slotD q4 q5 i s hs t fun j hj => ?_
            have hjn : j < ds.length := (List.getElem?_eq_some_iff.1 hj).1
            have := List.all_eq_true.1 k4 j (List.mem_range.2 hjn)
            have hany : o.op.operands.any (isT (ds.getD j 0)) = true := by
              refine Array.any_eq_true'.2 ⟨.tmp t, hx, ?_⟩
              simp [isT, List.getD_eq_getElem?_getD, hj]
            rw [hany] at this
            exact wait (by simpa using this)
          | const v => exact D.ofV_rep v
          | global g => exact (q1.laid.get _).undata q1.wf
          | func f => exact .fn rfl rfl (fun i d v h => by simp at h) (fun i d v h => by simp at h)
        · exact .junk
      · rw [g2]
        exact jput hiU hUnd hin hs hti q2 q3 (by rw [← hnt]; exact g3) q4 q5 q6 m1 m2 m3 m4 m5
    | false =>
      rw [if_neg (by simp)]
      rw [hrun] at g5
      simp only [Bool.false_eq_true, if_false] at g5
      rw [g2]
      exact jput hiU hUnd hin hs hti q2 q3 (by rw [← hnt]; exact g3) q4 q5 q6 q1 (Env.le.refl _ _) (Env.own.refl _) (fun _ _ => ⟨rfl, rfl⟩) (by rw [g5.1]; exact DRep.tup rfl fun i d v h => by simp at h)
  · intro listed a' w' hs hu ⟨E', q1, q2, q3, q4, q5, q6⟩
    refine wpAny_tail T (ops.toList.drop n) n listed a' w' (Nat.le_refl _) (fun j => by simp [List.getElem?_drop]) hs hu ?_
    refine vops_sound hT hnt hh0 _ hK (E := E') ⟨q2, q3, fun t => ?_, q1⟩ hQ
    refine hfin t w' E' _ (fun j s' o' hs' ho' hd' => .inl ?_) ?_
    · obtain ⟨k1, k2⟩ := hdst j o' ho'
      exact q5 j s' t k1 (by simp) hs' (by rw [← k2, hd'])
    · by_cases e : t ∈ ds
      · obtain ⟨j, hj'⟩ := List.getElem?_of_mem e
        have hjn : j < n := by have := (List.getElem?_eq_some_iff.1 hj').1; omega
        obtain ⟨o', _, k2, k3, _⟩ := hop j hjn
        exact .inr ⟨j, o', k2, by rw [k3, hj']⟩
      · exact .inl (q4 t e)
  · simp only [List.mem_range]
    rcases Nat.lt_or_ge t ops.size with q | q
    · simp [q]; omega
    · simp [show ¬ t < ops.size by omega]; omega
  · obtain ⟨d1, d2⟩ := (h.wr.ext nws).drew
    refine ⟨E, by rw [hnws]; exact d1, h.sz, h.df, fun t _ => (h.fr t).move d2 (Env.own.refl _), fun j s t hj hjU => absurd (List.mem_range.2 hj) hjU, fun j s hjU hs => ?_⟩
    intro x hx1 _
    obtain ⟨_, _, _, _, _, _, _, ⟨p, g6⟩, _⟩ := hstep j s hs
    exact h.wr.out x (by rw [g6] at hx1; simp at hx1; show H.length ≤ x; omega)
end
/-! Code. -/
inductive StuckC (c : Code) : Prop
/-- a piece of code from a state, and what follows -/
structure CodeP (P : Program) (cx : Cx) (c : Code) (fr : Fr) (H : List Bk) (K : Exit → Fr → List Bk → Prop) : Prop where
  run : ∀ (B : Base) (E : Env) (a : Act) (w : World), cx.nt = B.nt ∧ B.h0 ≤ cx.h0 → Rel B ⟨fr, H⟩ E a w → c.wp P (fun e a' w' => ∃ fr' H' E', K e fr' H' ∧ Rel B ⟨fr', H'⟩ E' a' w') a w
def thenK (F : Fr → List Bk → Prop) (K : Exit → Fr → List Bk → Prop) (e : Exit) (fr : Fr) (H : List Bk) : Prop := match e with
  | .normal => F fr H
  | e => K e fr H
def blockK (id : Nat) (K : Exit → Fr → List Bk → Prop) (e : Exit) (fr : Fr) (H : List Bk) : Prop := match e with
  | .exit i => if i = id then K .normal fr H else K (.exit i) fr H
  | e => K e fr H
def vc (P : Program) (cx : Cx) : Code → Fr → List Bk → (Exit → Fr → List Bk → Prop) → Prop
  | .skip, fr, H, K => K .normal fr H
  | .region id ops draw, fr, H, K => if draw then vdraw P cx ops fr H (K .normal) else vops P cx ops ops.toList fr H (K .normal)
  | .seq a b, fr, H, K => vc P cx a fr H (thenK (fun fr H => vc P cx b fr H K) K)
  | .cond c a b, fr, H, K => (match fr.ev c with
    | .bool (.lit true) => vc P cx a fr H K
    | .bool (.lit false) => vc P cx b fr H K
    | .bool e => SplitP e (vc P cx a fr H K) (vc P cx b fr H K)
    | _ => StuckC (.cond c .skip .skip))
  | .block id c, fr, H, K => vc P cx c fr H (blockK id K)
  | .loop c, fr, H, K => CodeP P cx (.loop c) fr H K
  | .exit i, fr, H, K => K (.exit i) fr H
  | .ret, fr, H, K => K .ret fr H
  | .label _, fr, H, K => K .normal fr H
  | c, fr, H, K => CodeP P cx c fr H K
section
variable {P : Program} {cx : Cx}
theorem vc_sound (hT : cx.T.ok P) (hm : P.follows .mixedOrders = true) : ∀ (c : Code) {fr : Fr} {H : List Bk} {K : Exit → Fr → List Bk → Prop}, vc P cx c fr H K → CodeP P cx c fr H K
  | .skip, fr, H, K, hk => ⟨fun B E a w hnt h => wp_skip ⟨fr, H, E, hk, h⟩⟩
  | .region id ops draw, fr, H, K, hk => by
    unfold vc at hk
    split at hk
    · next hd => subst hd; exact ⟨fun B E a w hnt h => vdraw_sound hT hm hnt.1 hnt.2 hk h fun fr' H' E' a' w' q1 q2 => ⟨fr', H', E', q1, q2⟩⟩
    · next hd =>
      have : draw = false := by simpa using hd
      subst this
      exact ⟨fun B E a w hnt h => wp_region_list (vops_sound hT hnt.1 hnt.2 _ hk h fun fr' H' E' a' w' q1 q2 => ⟨fr', H', E', q1, q2⟩)⟩
  | .seq c d, fr, H, K, hk => by
    unfold vc at hk
    refine ⟨fun B E a w hnt h => wp_seq (Code.wp_mono (fun e a' w' ⟨fr', H', E', q1, q2⟩ => ?_) ((vc_sound hT hm c hk).run B E a w hnt h))⟩
    cases e <;> first | exact (vc_sound hT hm d q1).run B E' a' w' hnt q2 | exact ⟨fr', H', E', q1, q2⟩
  | .cond x c d, fr, H, K, hk => by
    refine ⟨fun B E a w hnt h => ?_⟩
    have hx := h.ev x
    unfold vc at hk
    split at hk
    · next he =>
      rw [he] at hx
      generalize hv : a.eval x = v at hx
      cases hx
      exact wp_cond_true hv ((vc_sound hT hm c hk).run B E a w hnt h)
    · next he =>
      rw [he] at hx
      generalize hv : a.eval x = v at hx
      cases hx
      exact wp_cond_false hv ((vc_sound hT hm d hk).run B E a w hnt h)
    · next e _ _ he =>
      rw [he] at hx
      generalize hv : a.eval x = v at hx
      cases hx
      obtain ⟨h1, h2⟩ := hk
      exact wp_cond_split hv (fun q => (vc_sound hT hm c (h1 q)).run B E a w hnt h) (fun q => (vc_sound hT hm d (h2 q)).run B E a w hnt h)
    · cases hk
  | .block id c, fr, H, K, hk => by
    unfold vc at hk
    refine ⟨fun B E a w hnt h => wp_block (Code.wp_mono (fun e a' w' ⟨fr', H', E', q1, q2⟩ => ?_) ((vc_sound hT hm c hk).run B E a w hnt h))⟩
    cases e with
    | exit i =>
      simp only [blockK] at q1
      simp only [Exit.inBlock]
      split at q1
      · next e => rw [if_pos e]; exact ⟨fr', H', E', q1, q2⟩
      · next e => rw [if_neg e]; exact ⟨fr', H', E', q1, q2⟩
    | _ => exact ⟨fr', H', E', q1, q2⟩
  | .loop c, fr, H, K, hk => hk
  | .exit i, fr, H, K, hk => ⟨fun B E a w hnt h => wp_exit ⟨fr, H, E, hk, h⟩⟩
  | .ret, fr, H, K, hk => ⟨fun B E a w hnt h => wp_ret ⟨fr, H, E, hk, h⟩⟩
  | .label _, fr, H, K, hk => ⟨fun B E a w hnt h => wp_label ⟨fr, H, E, hk, h⟩⟩
  | .rangeFunc .., fr, H, K, hk => hk
  | .scope _, fr, H, K, hk => hk
  | .goto _, fr, H, K, hk => hk
  | .refuse _, fr, H, K, hk => hk
end
end Go.Proofs.Ytdhfakajlnidiaa
namespace Go.Proofs.Ytdhfakajlnidiaa
open Go.RowKit

/-! One state behind another: what a loop's head says. -/
inductive OEq : Option D → Option D → Prop
  | none : OEq none none
  | some {d d' : D} (h : DEq d d') : OEq (some d) (some d')
theorem MapOK.eqv {w : World} {E : Env} {kk : IntKind} {es : List MapEntry} {clock : Nat} {F F' : Int → Option D} (h : MapOK w E kk es clock F) (hq : ∀ x, OEq (F x) (F' x)) : MapOK w E kk es clock F' := by
  refine ⟨fun e he => ?_, fun x d hd => ?_, h.apart, h.clock⟩
  · obtain ⟨x, d, h1, h2, h3, h4⟩ := h.val e he
    have q := hq x
    rw [h3] at q
    generalize hF : F' x = y at q
    cases q with | some hd => exact ⟨x, _, h1, h2, hF, hd.rep h4⟩
  · have q := hq x
    rw [hd] at q
    generalize hF : F x = y at q
    cases q with | some hd => exact h.has x _ hF
inductive BkEq (H H' : List Bk) : Bk → Bk → Prop
  | mp {kk : IntKind} {m m' : ME} (hs : m.size = m'.size) (h : ∀ x, OEq (m.den x) (m'.den x)) : BkEq H H' (.mp kk m) (.mp kk m')
  | mpk0 {kk : IntKind} {ks : List IntKind} {k2 : IntKind} {F : List Int → Option Int} {n : IE} (hF : ∀ L, F L = none) (hn : n.den = 0) : BkEq H H' (.mp kk (.lits [])) (.mpk ks k2 F n)
  | mpkf {ks : List IntKind} {k2 : IntKind} {F F' : List Int → Option Int} {n n' : IE} (hF : ∀ L, F L = F' L) (hn : n.den = n'.den) : BkEq H H' (.mpk ks k2 F n) (.mpk ks k2 F' n')
  | refl (b : Bk) : BkEq H H' b b
  | dead (b : Bk) : BkEq H H' b .dead
  | arrf {k : IntKind} {m : Nat} {f f' : Nat → Int} (h : ∀ i, i < m → f i = f' i) : BkEq H H' (.arr k m f) (.arr k m f')
  | cells {l l' : List D} (h : SnDs H H' l l') : BkEq H H' (.cells l) (.cells l')
  | row {ty n ver : Nat} {r r' : RE} (h : r.den = r'.den) : BkEq H H' (.row ty n ver r) (.row ty n ver r')
  | cut {ty n ver k : Nat} {r r' : RE} (h : r.den.take k = r'.den) : BkEq H H' (.row ty n ver r) (.row ty n ver r')
  | rowe {ty n ver : Nat} {r r' : RE} (hl : r.den.length = r'.den.length) (h : ∀ (i : Nat) e e', r.den[i]? = some e → r'.den[i]? = some e' → e.length = e'.length ∧ ∀ (j : Nat) d d', e[j]? = some d → e'[j]? = some d' → DEq d d') : BkEq H H' (.row ty n ver r) (.row ty n ver r')
  | arr {l : List D} {n : Nat} {r : RE} (h : r.den.flatten = l) (hx : ∀ e ∈ r.den, e.length = n ∧ e.all (D.dataB 5) = true) : BkEq H H' (.cells l) (.row 1000000 n 1 r)
def Bk.below (n : Nat) : Bk → Bool
  | .cells l => l.all (D.undr 8 n)
  | _ => true
def FrEnt (H H' : List Bk) (fr : Fr) : Fr → Prop
  | [] => True
  | (t, d) :: r => SnD H H' (fr.get t) d ∧ FrEnt H H' fr r
def HEnt1 (H0 H0' : List Bk) : List Bk → List Bk → Prop
  | _, [] => True
  | [], _ :: _ => False
  | b :: H, b' :: H' => BkEq H0 H0' b b' ∧ HEnt1 H0 H0' H H'
def HEnt (H H' : List Bk) : Prop := HEnt1 H H' H H'
theorem FrEnt.get {H H' : List Bk} {fr : Fr} : ∀ {fr' : Fr}, FrEnt H H' fr fr' → ∀ t, SnD H H' (fr.get t) (fr'.get t)
  | [], _, t => .eq (.junk _)
  | (m, d) :: r, h, t => by
    simp only [Fr.get]
    by_cases e : m = t
    · subst e; rw [if_pos rfl]; exact h.1
    · rw [if_neg e]; exact FrEnt.get h.2 t
theorem HEnt1.get {H0 H0' : List Bk} : ∀ {H H' : List Bk}, HEnt1 H0 H0' H H' → H'.length ≤ H.length ∧ ∀ (i : Nat) b', H'[i]? = some b' → ∃ b, H[i]? = some b ∧ BkEq H0 H0' b b'
  | _, [], _ => ⟨Nat.zero_le _, fun i b h => by simp at h⟩
  | [], _ :: _, h => h.elim
  | b :: H, b' :: H', h => by
    obtain ⟨h1, h2⟩ := HEnt1.get h.2
    refine ⟨by simpa using h1, fun i x hx => ?_⟩
    cases i with
    | zero => simp at hx; subst hx; exact ⟨b, rfl, h.1⟩
    | succ i => simpa using h2 i x (by simpa using hx)
theorem HEnt.refl (H : List Bk) : HEnt H H := by
  unfold HEnt
  have key : ∀ (H0 H0' l : List Bk), HEnt1 H0 H0' l l := fun H0 H0' l => by
    induction l with
    | nil => trivial
    | cons b l ih => exact ⟨.refl b, ih⟩
  exact key _ _ _
def belowH (H' : List Bk) : Bool := H'.all (Bk.below H'.length)
def belowAll (fr' : Fr) (H' : List Bk) : Bool := fr'.all (fun p => p.2.undr 8 H'.length) && belowH H'
structure EntP (fr : Fr) (H : List Bk) (fr' : Fr) (H' : List Bk) : Prop where
  fr : FrEnt H H' fr fr'
  heap : HEnt H H'
  below : belowAll fr' H' = true
theorem Fr.get_below {n : Nat} {fr' : Fr} (h : fr'.all (fun p => p.2.undr 8 n) = true) (t : Nat) : (fr'.get t).undr 8 n = true := by
  induction fr' with
  | nil => rfl
  | cons p r ih =>
    obtain ⟨m, d⟩ := p
    simp only [List.all_cons, Bool.and_eq_true] at h
    simp only [Fr.get]
    split
    · exact h.1
    · exact ih h.2
/-- own blocks that are given up are data from now on -/
def Env.kill (E : Env) (H' : List Bk) : Env := ⟨fun b => E.G b ∨ ∃ x, goneB H' x = true ∧ E.σ x = some b, fun x => if goneB H' x then none else E.σ x, fun x => if goneB H' x then E.κ x + 1 else E.κ x, E.ζ⟩
theorem Env.kill_le (E : Env) (H' : List Bk) (w : World) : E.le w w (E.kill H') := ⟨fun _ h => .inl h, fun _ _ => rfl⟩
theorem Env.kill_own (E : Env) (H' : List Bk) : E.own (E.kill H') := by
  refine ⟨fun b => ?_, fun b e => ?_⟩
  · simp only [Env.kill]; split <;> omega
  · simp only [Env.kill] at e ⊢
    split at e
    · omega
    · next q => rw [if_neg q]; refine ⟨?_, fun _ _ => ?_⟩ <;> first | rfl | trivial
theorem goneB_len {H' : List Bk} {x : Nat} (h : ¬ goneB H' x = true) : x < H'.length := by
  rcases Nat.lt_or_ge x H'.length with q | q
  · exact q
  · exact absurd (by simp [goneB, List.getElem?_eq_none q]) h
theorem WRel.ent {B : Base} {H H' : List Bk} {E : Env} {w : World} (hw : WRel B H E w) (hh : B.h0 ≤ H'.length) (he : HEnt H H') (hb : belowH H' = true) :
    WRel B H' ((E.kill H').trunc H'.length) w ∧ ∀ {d d' : D} {v : Value}, SnD H H' d d' → d'.undr 8 H'.length = true → DRep w E d v → DRep w ((E.kill H').trunc H'.length) d' v := by
  obtain ⟨hle, hget⟩ := HEnt1.get he
  have move : ∀ {d d' : D} {v : Value}, SnD H H' d d' → DRep w E d v → DRep w (E.kill H') d' v := fun hs hr => hs.rep hw.heap (E.kill_le H' w) (E.kill_own H') (fun x c _ hg hc => .inr ⟨x, hg, hc⟩) hr
  refine ⟨?_, fun hs hu hr => DRep.trunc 8 hu (move hs hr)⟩
  have ldata : E.data.le w w (E.kill H').data := (E.kill_le H' w).data
  have sub : ∀ {x c}, ((E.kill H').trunc H'.length).σ x = some c → x < H'.length ∧ ¬ goneB H' x = true ∧ E.σ x = some c := fun {x c} hx => by
    simp only [Env.trunc, Env.kill] at hx
    split at hx
    · next q =>
      split at hx
      · cases hx
      · next q2 => exact ⟨q, q2, hx⟩
    · cases hx
  refine ⟨fun x y c hx hy => hw.inj x y c (sub hx).2.2 (sub hy).2.2, fun x c hx => ?_, fun b hb => ?_, fun x b' hx => ?_, fun x hx => ?_, fun b hb => ?_, fun b hb => .inl (hw.g0 b hb), fun b hb => ?_, hw.bel, B.cut _ _ _ hh (B.stab _ _ _ _ (E.kill_le H' w) (E.kill_own H') hw.phi)⟩
  · obtain ⟨h1, h2, h3⟩ := sub hx
    obtain ⟨q1, q2, q3⟩ := hw.own x c h3
    refine ⟨q1, q2, fun q => ?_⟩
    rcases q with q | ⟨y, hy, hc⟩
    · exact q3 q
    · exact h2 (by rw [hw.inj x y c h3 hc]; exact hy)
  · simp only [Env.trunc, Env.kill] at hb ⊢
    split
    · next q =>
      rw [if_pos q] at hb
      split
      · rfl
      · next q2 => rw [if_neg q2] at hb; exact hw.wf b hb
    · rfl
  · have hlt : x < H'.length := (List.getElem?_eq_some_iff.1 hx).1
    obtain ⟨b, h1, h2⟩ := hget x b' hx
    have hbb := List.all_eq_true.1 hb b' (List.mem_of_getElem? hx)
    by_cases hg : goneB H' x = true
    · have hb' : b' = .dead := by
        unfold goneB at hg
        rw [hx] at hg
        cases b' <;> first | rfl | cases hg
      subst hb'
      refine .inr ⟨trivial, fun c hc => trivial, fun _ => trivial⟩
    have e1 : ((E.kill H').trunc H'.length).κ x = E.κ x := by simp [Env.trunc, Env.kill, hlt, hg]
    have e2 : ((E.kill H').trunc H'.length).σ x = E.σ x := by simp [Env.trunc, Env.kill, hlt, hg]
    have e3 : ((E.kill H').trunc H'.length).ζ x = E.ζ x := rfl
    rw [e1, e2]
    have keep : ∀ {d : D} {v : Value}, DRep w E.data d v → DRep w ((E.kill H').trunc H'.length).data d v := fun h => h.move (E' := ((E.kill H').trunc H'.length).data) ⟨fun _ h => .inl h, fun _ _ => rfl⟩ Env.own.data
    rcases hw.heap x b h1 with q | ⟨q1, q2, q3⟩
    · exact .inl q
    · refine .inr ?_
      cases h2 with
      | refl =>
        refine ⟨q1, fun c hc => ?_, q3⟩
        have := q2 c hc
        cases b' with
        | cells l =>
          obtain ⟨cs, t, g1, g2, gz, g3⟩ := this
          exact ⟨cs, t, g1, g2, gz, fun i d hd => by
            obtain ⟨v, g4, g5⟩ := g3 i d hd
            simp only [Bk.below, List.all_eq_true] at hbb
            exact ⟨v, g4, DRep.trunc 8 (hbb d (List.mem_of_getElem? hd)) (move (.eq (.refl _)) g5)⟩⟩
        | row ty n ver r =>
          obtain ⟨cs, t, g0, g1, g2, gz, g3⟩ := this
          exact ⟨cs, t, g0, g1, g2, gz, fun i e he => ⟨(g3 i e he).1, fun j d hd => by obtain ⟨v, g4, g5⟩ := (g3 i e he).2 j d hd; exact ⟨v, g4, keep g5⟩⟩⟩
        | mp kk m =>
          obtain ⟨es, clock, g1, g2, g3, g4⟩ := this
          exact ⟨es, clock, g1, g2, g3, ⟨fun e he => by obtain ⟨x, d, k1, k2, k3, k4⟩ := g4.val e he; exact ⟨x, d, k1, k2, k3, keep k4⟩, g4.has, g4.apart, g4.clock⟩⟩
        | mpk ks k2 F n =>
          obtain ⟨es, clock, g1, g2, g3, g4⟩ := this
          exact ⟨es, clock, g1, g2, g3, g4⟩
        | arr k m f =>
          obtain ⟨cs, t, g1, g2, g3, g4⟩ := this
          exact ⟨cs, t, g1, g2, g3, g4⟩
        | dead => trivial
      | @arrf k m f f' hf =>
        refine ⟨q1, fun c hc => ?_, q3⟩
        obtain ⟨cs, t, g1, g2, g3, g4⟩ := q2 c hc
        exact ⟨cs, t, g1, g2, g3, fun i hi => by rw [← hf i hi]; exact g4 i hi⟩
      | dead => exact ⟨trivial, fun _ _ => trivial, fun _ => trivial⟩
      | mpk0 hF hn =>
        refine ⟨q1, fun c hc => ?_, fun _ => trivial⟩
        obtain ⟨es, clock, g1, g2, g3, g4⟩ := q2 c hc
        have h0 : es.toList = [] := by
          have h1 : es.size = 0 := by have h2 : (es.size : Int) = ((([] : List (Int × D)).length : Nat) : Int) := g2; simpa using h2
          exact List.length_eq_zero_iff.1 (by simpa using h1)
        have hz : (es.size : Int) = 0 := by rw [← Array.length_toList, h0]; rfl
        refine ⟨es, clock, g1, by rw [hn]; exact hz, g3, ?_⟩
        rw [h0]
        exact ⟨fun e he => by simp at he, fun L y hy => by (rw [hF] at hy; cases hy), .nil, fun e he => by simp at he⟩
      | mpkf hF hn =>
        refine ⟨q1, fun c hc => ?_, fun _ => trivial⟩
        obtain ⟨es, clock, g1, g2, g3, g4⟩ := q2 c hc
        exact ⟨es, clock, g1, by rw [g2, hn], g3, ⟨fun e he => by obtain ⟨L, y, k1, k2, k3, k4⟩ := g4.val e he; exact ⟨L, y, k1, k2, by rw [← hF]; exact k3, k4⟩, fun L y hy hk => g4.has L y (by rw [hF]; exact hy) hk, g4.apart, g4.clock⟩⟩
      | mp hs hq =>
        refine ⟨q1, fun c hc => ?_, fun _ => trivial⟩
        obtain ⟨es, clock, g1, g2, g3, g4⟩ := q2 c hc
        have g5 := g4.eqv hq
        exact ⟨es, clock, g1, by rw [g2, hs], g3, ⟨fun e he => by obtain ⟨x, d, k1, k2, k3, k4⟩ := g5.val e he; exact ⟨x, d, k1, k2, k3, keep k4⟩, g5.has, g5.apart, g5.clock⟩⟩
      | @cells l l' hl =>
        refine ⟨q1, fun c hc => ?_, q3⟩
        obtain ⟨cs, t, g1, g2, gz, g3⟩ := q2 c hc
        obtain ⟨k1, k2⟩ := hl.get
        refine ⟨cs, t, g1, by omega, by rw [← k1]; exact gz, fun i d hd => ?_⟩
        have hlt2 := (List.getElem?_eq_some_iff.1 hd).1
        have k3 : l[i]? = some (l[i]'(by omega)) := List.getElem?_eq_getElem (by omega)
        obtain ⟨v, g4, g5⟩ := g3 i _ k3
        simp only [Bk.below, List.all_eq_true] at hbb
        exact ⟨v, g4, DRep.trunc 8 (hbb d (List.mem_of_getElem? hd)) (move (k2 i _ d k3 hd) g5)⟩
      | @row ty n ver r r' hre =>
        refine ⟨q1, fun c hc => ?_, fun hn => by simpa [Bk.virt, hre] using q3 hn⟩
        obtain ⟨cs, t, g0, g1, g2, gz, g3⟩ := q2 c hc
        rw [hre] at gz g3
        exact ⟨cs, t, g0, g1, g2, gz, fun i e he => ⟨(g3 i e he).1, fun j d hd => by obtain ⟨v, g4, g5⟩ := (g3 i e he).2 j d hd; exact ⟨v, g4, keep g5⟩⟩⟩
      | @cut ty n ver k r r' hre =>
        refine ⟨q1, fun c hc => ?_, fun hn => by have := q3 hn; simp only [Bk.virt] at this ⊢; rw [← hre, this, List.take_nil]⟩
        obtain ⟨cs, t, g0, g1, g2, gz, g3⟩ := q2 c hc
        have hlen : r'.den.length ≤ r.den.length := by rw [← hre, List.length_take]; omega
        refine ⟨cs, t, g0, g1, g2, Nat.le_trans (Nat.mul_le_mul_right n hlen) gz, fun i e he => ?_⟩
        rw [← hre, List.getElem?_take] at he
        split at he
        · exact ⟨(g3 i e he).1, fun j d hd => by obtain ⟨v, g4, g5⟩ := (g3 i e he).2 j d hd; exact ⟨v, g4, keep g5⟩⟩
        · cases he
      | @rowe ty n ver r r' hl he =>
        refine ⟨q1, fun c hc => ?_, fun hn => by have := q3 hn; simp only [Bk.virt] at this ⊢; exact List.length_eq_zero_iff.1 (by rw [← hl, this]; rfl)⟩
        obtain ⟨cs, t, g0, g1, g2, gz, g3⟩ := q2 c hc
        refine ⟨cs, t, g0, g1, g2, by rw [← hl]; exact gz, fun i e' hi => ?_⟩
        have hlt2 := (List.getElem?_eq_some_iff.1 hi).1
        have hi0 : r.den[i]? = some (r.den[i]'(by omega)) := List.getElem?_eq_getElem (by omega)
        obtain ⟨k1, k2⟩ := he i _ e' hi0 hi
        obtain ⟨k3, k4⟩ := g3 i _ hi0
        refine ⟨by rw [← k1]; exact k3, fun j d' hd' => ?_⟩
        have hlt3 := (List.getElem?_eq_some_iff.1 hd').1
        have hj0 : (r.den[i]'(by omega))[j]? = some ((r.den[i]'(by omega))[j]'(by omega)) := List.getElem?_eq_getElem (by omega)
        obtain ⟨v, g4, g5⟩ := k4 j _ hj0
        exact ⟨v, g4, keep ((k2 j _ d' hj0 hd').rep g5)⟩
      | @arr l n r hfl hx' =>
        refine ⟨q1, fun c hc => ?_, fun hn => (q3 hn).elim⟩
        obtain ⟨cs, t, g1, g2, gz, g3⟩ := q2 c hc
        have hlen : r.den.length * n = l.length := by
          rw [← hfl]
          have : ∀ es : List (List D), (∀ e ∈ es, e.length = n) → es.flatten.length = es.length * n := fun es => by
            induction es with
            | nil => simp
            | cons e es ih =>
              intro h
              simp only [List.flatten_cons, List.length_append, List.length_cons]
              rw [ih fun e he => h e (by simp [he]), h e (by simp), Nat.add_mul]
              omega
          exact (this _ fun e he => (hx' e he).1).symm
        refine ⟨cs, t, .inl rfl, g1, by rw [e3]; omega, by omega, fun i e he => ?_⟩
        obtain ⟨k1, k2⟩ := hx' e (List.mem_of_getElem? he)
        refine ⟨k1, fun j d hd => ?_⟩
        obtain ⟨v, k3, k4⟩ := g3 (i * n + j) d (by rw [← hfl]; exact flatten_get _ (fun e he => (hx' e he).1) i e he j d hd)
        exact ⟨v, k3, keep (D.dataB_rep (E := E) (E' := E.data) rfl 5 (List.all_eq_true.1 k2 d (List.mem_of_getElem? hd)) k4)⟩
  · replace hx : H'.length ≤ x := hx
    simp only [Env.trunc]
    rw [if_neg (by omega), if_neg (by omega)]
    exact ⟨rfl, rfl⟩
  · rcases hb with hb | ⟨x, _, hx⟩
    · exact hw.good b hb
    · exact (hw.own x b hx).2.1
  · rcases hb with hb | ⟨x, _, hx⟩
    · exact hw.gn b hb
    · exact .inr (hw.own x b hx).1
theorem EntP.rel {B : Base} {fr fr' : Fr} {H H' : List Bk} (hh : B.h0 ≤ H'.length) (h : EntP fr H fr' H') {E : Env} {a : Act} {w : World} (hr : Rel B ⟨fr, H⟩ E a w) : Rel B ⟨fr', H'⟩ ((E.kill H').trunc H'.length) a w := by
  have hb := h.below
  unfold belowAll at hb
  simp only [Bool.and_eq_true] at hb
  obtain ⟨h1, h2⟩ := hr.wr.ent hh h.heap hb.2
  exact ⟨hr.sz, hr.df, fun t => h2 (h.fr.get t) (Fr.get_below hb.1 t) (hr.fr t), h1⟩
/-! A loop. -/
structure BackP {X : Type} (fr : X → Fr) (H : X → List Bk) (I : X → Prop) (μ : X → Nat) (x : X) (fr2 : Fr) (H2 : List Bk) : Prop where
  out : ∃ y, I y ∧ μ y < μ x ∧ EntP fr2 H2 (fr y) (H y)
def loopK {X : Type} (fr : X → Fr) (H : X → List Bk) (I : X → Prop) (μ : X → Nat) (x : X) (K : Exit → Fr → List Bk → Prop) (e : Exit) (fr2 : Fr) (H2 : List Bk) : Prop := match e with
  | .normal => BackP fr H I μ x fr2 H2
  | e => K e fr2 H2
theorem CodeP.loop {P : Program} {cx : Cx} (hT : cx.T.ok P) (hm : P.follows .mixedOrders = true) {c : Code} {fr : Fr} {H : List Bk} {K : Exit → Fr → List Bk → Prop} {X : Type} (fr' : X → Fr) (H' : X → List Bk) (I : X → Prop) (μ : X → Nat) (x0 : X) (hI : I x0) (hh : ∀ x, cx.h0 ≤ (H' x).length)
    (he : EntP fr H (fr' x0) (H' x0)) (round : ∀ x, I x → vc P cx c (fr' x) (H' x) (loopK fr' H' I μ x K)) : CodeP P cx (.loop c) fr H K := by
  refine ⟨fun B E a w hnt hr b k cs => ?_⟩
  have key : ∀ (n : Nat) (x : X), μ x = n → I x → ∀ (E : Env) (a : Act) (w : World), Rel B ⟨fr' x, H' x⟩ E a w →
      ∃ e a' w', (∃ fr'' H'' E', K e fr'' H'' ∧ Rel B ⟨fr'', H''⟩ E' a' w') ∧ Arrives P (lone (b.at a (.code c :: .inLoop c :: k)) cs w) b k cs e a' w' := by
    intro n
    induction n using Nat.strongRecOn with
    | _ n ih =>
      intro x hn hx E a w hr
      obtain ⟨e, a1, w1, ⟨fr2, H2, E2, hq, hr2⟩, harr⟩ := (vc_sound hT hm c (round x hx)).run B E a w hnt hr b (.inLoop c :: k) cs
      cases e with
      | normal =>
        obtain ⟨y, hy, hlt, hent⟩ := hq.out
        obtain ⟨e3, a3, w3, hq3, harr3⟩ := ih (μ y) (hn ▸ hlt) y rfl hy _ a1 w1 (hent.rel (Nat.le_trans hnt.2 (hh y)) hr2)
        exact ⟨e3, a3, w3, hq3, .of_steps (Steps.trans harr (.one step_inLoop)) harr3⟩
      | exit id => exact ⟨_, a1, w1, ⟨fr2, H2, E2, hq, hr2⟩, .pass (x := .inLoop c) rfl (fun _ _ => .inl (by simp)) harr⟩
      | goto l => exact ⟨_, a1, w1, ⟨fr2, H2, E2, hq, hr2⟩, .pass (x := .inLoop c) rfl (fun _ _ => .inl (by simp)) harr⟩
      | ret => exact ⟨_, a1, w1, ⟨fr2, H2, E2, hq, hr2⟩, .pass (x := .inLoop c) rfl (fun _ _ => .inl (by simp)) harr⟩
      | panic ch => exact ⟨_, a1, w1, ⟨fr2, H2, E2, hq, hr2⟩, .pass (x := .inLoop c) rfl (fun _ _ => .inl (by simp)) harr⟩
      | outgrown => exact ⟨_, a1, w1, ⟨fr2, H2, E2, hq, hr2⟩, .pass (x := .inLoop c) rfl (fun _ _ => .inl (by simp)) harr⟩
  obtain ⟨e, a', w', hq, harr⟩ := key _ x0 rfl hI _ a w (he.rel (Nat.le_trans hnt.2 (hh x0)) hr)
  exact ⟨e, a', w', hq, .of_steps (.one step_loop) harr⟩
/-! A function from its first step to its result. -/
inductive StuckX (e : Exit) : Prop
inductive RetP (H : List Bk) (got : List D) (want : List D) : Prop
  | mk (h : SnDs H [] got want) (hd : want.all (D.dataB 8) = true)
/-- what the results are: slots, or cells of the call's own -/
def resD (T : Tab) (fr : Fr) (H : List Bk) : ResultVar → Option D
  | .tmp t => some (fr.get t)
  | .cell x t => match qLoad2 T H t (fr.get x) with
    | .ret d => some d
    | _ => none
def resDs (T : Tab) (fr : Fr) (H : List Bk) : List ResultVar → Option (List D)
  | [] => some []
  | r :: rs => match resD T fr H r with
    | some d => (match resDs T fr H rs with | some l => some (d :: l) | none => none)
    | none => none
def retX (T : Tab) (rs : List ResultVar) (K : List D → List Bk → Prop) (fr : Fr) (H : List Bk) : Prop := match resDs T fr H rs with
  | some l => K l H
  | none => StuckX .ret
def retK (T : Tab) (rs : List ResultVar) (want : List D) (e : Exit) (fr : Fr) (H : List Bk) : Prop := match e with
  | .ret => retX T rs (fun l H => RetP H l want) fr H
  | .normal => retX T rs (fun l H => RetP H l want) fr H
  | e => StuckX e
def retD : List D → D
  | [d] => d
  | l => .tup l
def argFr (n : Nat) : List D → Fr
  | [] => []
  | d :: l => (n, d) :: argFr (n + 1) l
theorem argFr_get : ∀ (l : List D) (n t : Nat), (argFr n l).get t = if n ≤ t then (l[t - n]?).getD .junk else .junk
  | [], n, t => by simp [argFr, Fr.get]
  | d :: l, n, t => by
    simp only [argFr, Fr.get]
    by_cases e : n = t
    · subst e; simp
    · rw [if_neg e, argFr_get l (n + 1) t]
      by_cases h : n ≤ t
      · rw [if_pos (by omega), if_pos h, show t - n = (t - (n + 1)) + 1 by omega, List.getElem?_cons_succ]
      · rw [if_neg (by omega), if_neg h]
def rvB (nt : Nat) : ResultVar → Bool
  | .tmp t => decide (t < nt)
  | .cell x _ => decide (x < nt)
theorem loadVar_of {P : Program} {t : Nat} {u v : Value} {w w' : World} (h : (Instr.loadAt t u).run P w = .ok v w') : (do loadVar t (← asAddr u) : Sem Value).run P w = .ok v w' := by
  unfold Instr.loadAt at h
  cases u with
  | pointer q =>
    cases q with
    | some ad => simpa [Instr.sureAddr, asAddr] using h
    | none => simp [Instr.sureAddr, stuck, Result.andThen] at h
  | _ => simp [Instr.sureAddr, stuck, Result.andThen] at h
theorem resD_rep {P : Program} {T : Tab} (hT : T.ok P) {B : Base} {fr : Fr} {H : List Bk} {E : Env} {a : Act} {w : World} (hr : Rel B ⟨fr, H⟩ E a w) {r : ResultVar} {d : D} (hd : resD T fr H r = some d) :
    ∃ v, (match r with | .tmp t => (pure (a.tmps.getD t undef) : Sem Value) | .cell x t => (do loadVar t (← asAddr (a.tmps.getD x undef)))).run P w = .ok v w ∧ DRep w E d v := by
  cases r with
  | tmp t =>
    simp only [resD, Option.some.injEq] at hd
    subst hd
    exact ⟨_, by simp, hr.fr t⟩
  | cell x t =>
    simp only [resD] at hd
    split at hd
    · next d' hq =>
      cases hd
      have hg := qLoad2_good (P := P) (H := H) (ρ := fr.ev) (o := ⟨none, .load t (.tmp x), 0, "", #[], none⟩) hT rfl
      rw [show fr.ev (.tmp x) = fr.get x from rfl, hq] at hg
      obtain ⟨v, h1, h2⟩ := hg w E a.eval hr.ev hr.wr.wf hr.wr.heap
      refine ⟨v, ?_, h2⟩
      rw [execOp_load rfl] at h1
      have h3 : (Instr.loadAt t (a.eval (.tmp x))).run P w = .ok v w := by
        cases hl : (Instr.loadAt t (a.eval (.tmp x))).run P w with
        | ok v' w' =>
          rw [Sem.run_bind, hl] at h1
          simp only [Result.andThen_ok, Sem.run_pure, Result.ok.injEq, Next.value.injEq] at h1
          rw [h1.1, h1.2]
        | halt hh w' => rw [Sem.run_bind, hl] at h1; simp [Result.andThen] at h1
      exact loadVar_of h3
    · cases hd
theorem resDs_rep {P : Program} {T : Tab} (hT : T.ok P) {B : Base} {fr : Fr} {H : List Bk} {E : Env} {a : Act} {w : World} (hr : Rel B ⟨fr, H⟩ E a w) {f : ResultVar → Sem Value}
    (hf : ∀ r, f r = match r with | .tmp t => (pure (a.tmps.getD t undef) : Sem Value) | .cell x t => (do loadVar t (← asAddr (a.tmps.getD x undef)))) : ∀ (rs : List ResultVar) (ds : List D), resDs T fr H rs = some ds →
    ∃ vs, (rs.mapM f).run P w = .ok vs w ∧ vs.length = ds.length ∧ ∀ (i : Nat) d v, ds[i]? = some d → vs[i]? = some v → DRep w E d v
  | [], ds, h => by
    simp only [resDs, Option.some.injEq] at h
    subst h
    exact ⟨[], by simp, rfl, fun i d v h => by simp at h⟩
  | r :: rs, ds, h => by
    simp only [resDs] at h
    split at h
    · next d hd =>
      split at h
      · next l hl =>
        cases h
        obtain ⟨v, h1, h2⟩ := resD_rep hT hr hd
        obtain ⟨vs, h3, h4, h5⟩ := resDs_rep hT hr hf rs l hl
        refine ⟨v :: vs, ?_, by simp [h4], fun i d' v' h6 h7 => ?_⟩
        · rw [← hf] at h1
          rw [List.mapM_cons]
          simp only [Sem.run_bind, h1, Result.andThen_ok, h3, Sem.run_pure]
        · cases i with
          | zero => simp at h6 h7; subst h6; subst h7; exact h2
          | succ i => exact h5 i d' v' (by simpa using h6) (by simpa using h7)
      · cases h
    · cases h
theorem results_rep {P : Program} {T : Tab} (hT : T.ok P) {fn : Func} {B : Base} {fr : Fr} {H : List Bk} {E : Env} {a : Act} {w : World} (hr : Rel B ⟨fr, H⟩ E a w) {ds : List D} (hd : resDs T fr H fn.results.toList = some ds) :
    ∃ (v : Value) (vs : List Value), (results fn a.tmps).run P w = .ok v w ∧ (if vs.length = 1 then v = vs.headD undef else v = .tuple vs.toArray) ∧ vs.length = ds.length ∧ ∀ (i : Nat) d v, ds[i]? = some d → vs[i]? = some v → DRep w E d v := by
  have hf : ∃ f : ResultVar → Sem Value, (∀ r, f r = match r with | .tmp t => (pure (a.tmps.getD t undef) : Sem Value) | .cell x t => (do loadVar t (← asAddr (a.tmps.getD x undef)))) ∧
      results fn a.tmps = (do let vs ← fn.results.mapM f; pure (if h : vs.size = 1 then vs[0] else .tuple vs)) := ⟨_, fun r => by cases r <;> rfl, rfl⟩
  obtain ⟨f, hf, hres⟩ := hf
  obtain ⟨vs, h1, h2, h3⟩ := resDs_rep hT hr hf _ _ hd
  refine ⟨if vs.length = 1 then vs.headD undef else .tuple vs.toArray, vs, ?_, by split <;> simp_all, h2, h3⟩
  rw [hres, Array.mapM_eq_mapM_toList]
  simp only [Sem.run_bind, Sem.run_map]
  rw [h1]
  simp only [Result.andThen_ok, Sem.run_pure]
  congr 1
  split
  · next h1 =>
    rw [if_pos (by simpa using h1)]
    cases vs with
    | nil => simp at h1
    | cons x r => rfl
  · next h1 =>
    rw [if_neg (by simpa using h1)]
theorem retD_rep {w : World} {E : Env} {v : Value} {vs : List Value} {ds : List D} (h1 : if vs.length = 1 then v = vs.headD undef else v = .tuple vs.toArray) (h2 : vs.length = ds.length) (h3 : ∀ (i : Nat) d v, ds[i]? = some d → vs[i]? = some v → DRep w E d v) : DRep w E (retD ds) v := by
  match ds, vs, h2, h3, h1 with
  | [], [], _, rep, h1 => simp at h1; rw [h1]; exact .tup rfl fun i d v h => by simp at h
  | [d], [u], _, rep, h1 => simp at h1; rw [h1]; exact rep 0 d u rfl rfl
  | d :: d2 :: r, v :: v2 :: r2, hlen, rep, h1 =>
    rw [if_neg (by simp)] at h1
    rw [h1]
    exact .tup (by simpa using hlen.symm) fun i d v h1 h2 => rep i d v h1 (by simpa using h2)
theorem enter_rel {B : Base} {fn : Func} {args : List D} {H : List Bk} {E : Env} {w : World} {vs : Array Value} (hl : args.length ≤ fn.ntmps) (hv : LRep w E args vs) (hw : WRel B H E w) (hB : B.nt = fn.ntmps) (hD : B.df = []) : Rel B ⟨argFr 0 args, H⟩ E { tmps := vs ++ Array.replicate (fn.ntmps - vs.size) undef, defers := [] } w := by
  have hsz : vs.size + (fn.ntmps - vs.size) = fn.ntmps := by have := hv.1; omega
  refine ⟨by simp [hsz, hB], hD.symm, fun t => ?_, hw⟩
  simp only [argFr_get]
  rw [if_pos (Nat.zero_le _), Nat.sub_zero]
  cases ht : args[t]? with
  | none => exact .junk
  | some d =>
    have hlt := (List.getElem?_eq_some_iff.1 ht).1
    have hv1 : vs[t]? = some (vs[t]'(by have := hv.1; omega)) := Array.getElem?_eq_getElem _
    have := hv.2 t d _ ht hv1
    have e : (vs ++ Array.replicate (fn.ntmps - vs.size) undef).getD t undef = vs[t]'(by have := hv.1; omega) := by
      have : t < vs.size := by have := hv.1; omega
      simp [Array.getElem?_append_left this, this]
    rw [e]
    exact this
theorem Pure.intro {P : Program} {f : Nat} {fn : Func} {c : Code} {args want : List D} {T : Tab} (hT : T.ok P) (hm : P.follows .mixedOrders = true) (hf : P.funcs[f]? = some fn) (hb : fn.body = some c) (hn : (fn.name == "runtime.NumGoroutine") = false) {rs : List ResultVar}
    (hr : fn.results.toList = rs) (hl : decide (args.length ≤ fn.ntmps) = true)
    (h : vc P ⟨T, fn.ntmps, 0⟩ c (argFr 0 args) [] (retK T rs want)) : Pure P f args (retD want) := by
  simp only [decide_eq_true_eq] at hl
  refine ⟨⟨fn, c, hf, hb, hn⟩, fun w G vs hL hG hv => ?_⟩
  let B : Base := ⟨w, G, fn.ntmps, 0, fun w E => Laid w E.G, fun _ _ _ _ h1 _ h3 => h3.le h1, fun _ _ _ _ h => h, [], fun _ _ h => h⟩
  have h0 := enter_rel (B := B) (fn := fn) hl hv (H := []) ⟨fun x y c h => by simp [Env.of] at h, fun x c h => by simp [Env.of] at h, fun _ _ => rfl, fun x b h => by simp at h, fun _ _ => ⟨rfl, rfl⟩, hG, fun _ h => h, fun _ h => .inl h, Below.refl _ _, hL⟩ rfl rfl
  refine calls_of_wp hf hb (Code.wp_mono (fun e a' w' ⟨fr', H', E', q1, q2⟩ => ?_) ((vc_sound hT hm c h).run B _ _ _ ⟨rfl, Nat.le_refl _⟩ h0))
  have fin : retX T rs (fun l H => RetP H l want) fr' H' → a'.defers = [] ∧ ∃ v, (results fn a'.tmps).run P w' = .ok v w' ∧ ∃ (v' : Value) (G' : Nat → Prop), Ending.returned v = .returned v' ∧ Below w.heap.size w w' ∧ (∀ b, G b → G' b) ∧ (∀ b, G' b → G b ∨ w.heap.size ≤ b) ∧ (∀ b, G' b → b < w'.heap.size) ∧ DRep w' (Env.of G') (retD want) v' := by
    intro hs
    unfold retX at hs
    split at hs
    · next ds hds =>
      obtain ⟨hs, hdat⟩ := hs
      have hwr := q2.wr
      obtain ⟨v, us, g1, g2, g3, g4⟩ := results_rep hT (fn := fn) q2 (by rw [hr]; exact hds)
      obtain ⟨k1, k2⟩ := hs.get
      refine ⟨q2.df, v, g1, v, E'.lent, rfl, hwr.bel, fun b hb => .inl (hwr.g0 b hb), fun b hb => ?_, hwr.lentGood, ?_⟩
      · rcases hb with hb | ⟨x, hx⟩
        · exact hwr.gn b hb
        · exact .inr (hwr.own x b hx).1
      · refine retD_rep g2 (by omega) fun i d u h1 h2 => ?_
        have hlt := (List.getElem?_eq_some_iff.1 h1).1
        have h3 : ds[i]? = some (ds[i]'(by omega)) := List.getElem?_eq_getElem (by omega)
        exact (k2 i _ d h3 h1).lent hwr.heap (g4 i _ u h3 h2) (List.all_eq_true.1 hdat d (List.mem_of_getElem? h1))
    · cases hs
  cases e with
  | ret => exact fin q1
  | normal => exact fin q1
  | exit i => cases q1
  | goto l => cases q1
  | panic ch => cases q1
  | outgrown => cases q1
/-! A call that is walked on the spot: the callee sees the caller's own blocks. -/
def retI (T : Tab) (rs : List ResultVar) (K : D → List Bk → Prop) (e : Exit) (fr : Fr) (H : List Bk) : Prop := match e with
  | .ret => retX T rs (fun l H => K (retD l) H) fr H
  | .normal => retX T rs (fun l H => K (retD l) H) fr H
  | e => StuckX e
theorem CallP.inl {P : Program} {f : Nat} {fn : Func} {c : Code} {args : List D} {H : List Bk} {K : D → List Bk → Prop} {T : Tab} (hT : T.ok P) (hm : P.follows .mixedOrders = true) (hf : P.funcs[f]? = some fn) (hb : fn.body = some c) (hn : (fn.name == "runtime.NumGoroutine") = false) {rs : List ResultVar}
    (hr : fn.results.toList = rs) (hl : decide (args.length ≤ fn.ntmps) = true)
    (h : vc P ⟨T, fn.ntmps, H.length⟩ c (argFr 0 args) H (retI T rs K)) : CallP P f args H K := by
  simp only [decide_eq_true_eq] at hl
  refine ⟨⟨fn, c, hf, hb, hn⟩, fun B w E vs hh hv hw => ?_⟩
  let B2 : Base := ⟨B.w0, B.G0, fn.ntmps, B.h0, B.Φ, B.stab, B.cut, [], B.gl⟩
  have h0 := enter_rel (B := B2) (fn := fn) hl hv (H := H) ⟨hw.inj, hw.own, hw.wf, hw.heap, hw.out, hw.good, hw.g0, hw.gn, hw.bel, hw.phi⟩ rfl rfl
  refine calls_of_wp hf hb (Code.wp_mono (fun e a' w' ⟨fr', H', E', q1, q2⟩ => ?_) ((vc_sound hT hm c h).run B2 _ _ _ ⟨rfl, hh⟩ h0))
  have fin : retX T rs (fun l H => K (retD l) H) fr' H' → a'.defers = [] ∧ ∃ v, (results fn a'.tmps).run P w' = .ok v w' ∧ ∃ (v' : Value) (E2 : Env) (d : D) (H2 : List Bk), Ending.returned v = .returned v' ∧ WRel B H2 E2 w' ∧ DRep w' E2 d v' ∧ K d H2 := by
    intro hK
    unfold retX at hK
    split at hK
    · next ds hds =>
      have hwr := q2.wr
      obtain ⟨v, us, g1, g2, g3, g4⟩ := results_rep hT (fn := fn) q2 (by rw [hr]; exact hds)
      exact ⟨q2.df, v, g1, v, E', _, H', rfl, ⟨hwr.inj, hwr.own, hwr.wf, hwr.heap, hwr.out, hwr.good, hwr.g0, hwr.gn, hwr.bel, hwr.phi⟩, retD_rep g2 g3 g4, hK⟩
    · cases hK
  cases e with
  | ret => exact fin q1
  | normal => exact fin q1
  | exit i => cases q1
  | goto l => cases q1
  | panic ch => cases q1
  | outgrown => cases q1
/-- behind a call or ahead of it, own blocks are given up, or said in other words -/
structure CallEnt (h0 : Nat) (H : List Bk) (got : D) (K : D → List Bk → Prop) (want : D) (H' : List Bk) : Prop where
  d : SnD H H' got want
  heap : HEnt H H'
  len : h0 ≤ H'.length
  below : (want.undr 8 H'.length && belowH H') = true
  k : K want H'
theorem CallP.post {P : Program} {f : Nat} {args : List D} {H : List Bk} {K : D → List Bk → Prop} (h : CallP P f args H fun d H1 => ∃ want H', CallEnt H.length H1 d K want H') : CallP P f args H K := by
  refine ⟨h.here, fun B w E vs hh hv hw => (h.run B w E vs hh hv hw).mono ?_⟩
  rintro e w' ⟨v, E', d, H1, rfl, q1, q2, want, H', q3⟩
  have hb := q3.below
  simp only [Bool.and_eq_true] at hb
  obtain ⟨k1, k2⟩ := q1.ent (Nat.le_trans hh q3.len) q3.heap hb.2
  exact ⟨v, _, want, H', rfl, k1, k2 q3.d hb.1 q2, q3.k⟩
theorem CallP.pre {P : Program} {f : Nat} {args : List D} {H : List Bk} {K : D → List Bk → Prop} (args' : List D) (H' : List Bk) (hs : SnDs H H' args args') (he : HEnt H H') (hlen : H'.length = H.length) (hb : (args'.all (D.undr 8 H'.length) && belowH H') = true) (h : CallP P f args' H' K) : CallP P f args H K := by
  refine ⟨h.here, fun B w E vs hh hv hw => ?_⟩
  simp only [Bool.and_eq_true] at hb
  obtain ⟨k1, k2⟩ := hw.ent (H' := H') (by omega) he hb.2
  obtain ⟨h1, h2⟩ := hs.get
  refine h.run B w _ vs (by omega) ⟨by rw [← h1]; exact hv.1, fun i x v hx hv' => ?_⟩ k1
  have hlt := (List.getElem?_eq_some_iff.1 hx).1
  have hx0 : args[i]? = some (args[i]'(by omega)) := List.getElem?_eq_getElem (by omega)
  exact k2 (h2 i _ x hx0 hx) (List.all_eq_true.1 hb.1 x (List.mem_of_getElem? hx)) (hv.2 i _ v hx0 hv')
theorem CodeP.pre {P : Program} {cx : Cx} {c : Code} {fr : Fr} {H : List Bk} {K : Exit → Fr → List Bk → Prop} (fr' : Fr) (H' : List Bk) (he : EntP fr H fr' H') (hh : cx.h0 ≤ H'.length) (h : CodeP P cx c fr' H' K) : CodeP P cx c fr H K :=
  ⟨fun B E a w hnt hr => h.run B _ a w hnt (he.rel (Nat.le_trans hnt.2 hh) hr)⟩
/-- own blocks are given up in the midst of a region -/
theorem OpsP.pre {P : Program} {cx : Cx} {ops : Array Oper} {os : List Oper} {fr : Fr} {H : List Bk} {K : Fr → List Bk → Prop} (hT : cx.T.ok P) (fr' : Fr) (H' : List Bk) (he : EntP fr H fr' H') (hh : cx.h0 ≤ H'.length) (h : vops P cx ops os fr' H' K) : OpsP P cx ops os fr H K :=
  ⟨fun B E a w hnt hh0 hr Q hQ => vops_sound hT hnt hh0 os h (he.rel (Nat.le_trans hh0 hh) hr) hQ⟩
/-! A deferred call of a function with what it captured. -/
structure DefP (P : Program) (f : Nat) (args : List D) (H : List Bk) (K : D → List Bk → Prop) : Prop where
  here : Here P f
  run : ∀ (B : Base) (w : World) (E : Env) (vs : Array Value), B.h0 ≤ H.length → LRep w E args vs → WRel B H E w →
    CallsD P f vs .returning w fun e u' w' => u' = .returning ∧ ∃ v E' d H', e = .returned v ∧ WRel B H' E' w' ∧ DRep w' E' d v ∧ K d H'
theorem DefP.inl {P : Program} {f : Nat} {fn : Func} {c : Code} {args : List D} {H : List Bk} {K : D → List Bk → Prop} {T : Tab} (hT : T.ok P) (hm : P.follows .mixedOrders = true) (hf : P.funcs[f]? = some fn) (hb : fn.body = some c) (hn : (fn.name == "runtime.NumGoroutine") = false) {rs : List ResultVar}
    (hr : fn.results.toList = rs) (hl : decide (args.length ≤ fn.ntmps) = true)
    (h : vc P ⟨T, fn.ntmps, H.length⟩ c (argFr 0 args) H (retI T rs K)) : DefP P f args H K := by
  simp only [decide_eq_true_eq] at hl
  refine ⟨⟨fn, c, hf, hb, hn⟩, fun B w E vs hh hv hw => ?_⟩
  let B2 : Base := ⟨B.w0, B.G0, fn.ntmps, B.h0, B.Φ, B.stab, B.cut, [], B.gl⟩
  have h0 := enter_rel (B := B2) (fn := fn) hl hv (H := H) ⟨hw.inj, hw.own, hw.wf, hw.heap, hw.out, hw.good, hw.g0, hw.gn, hw.bel, hw.phi⟩ rfl rfl
  refine callsD_of_wp hf hb (Code.wp_mono (fun e a' w' ⟨fr', H', E', q1, q2⟩ => ?_) ((vc_sound hT hm c h).run B2 _ _ _ ⟨rfl, hh⟩ h0))
  have fin : retX T rs (fun l H => K (retD l) H) fr' H' → a'.defers = [] ∧ ∃ v, (results fn a'.tmps).run P w' = .ok v w' ∧ ∃ (v' : Value) (E2 : Env) (d : D) (H2 : List Bk), Ending.returned v = .returned v' ∧ WRel B H2 E2 w' ∧ DRep w' E2 d v' ∧ K d H2 := by
    intro hK
    unfold retX at hK
    split at hK
    · next ds hds =>
      have hwr := q2.wr
      obtain ⟨v, us, g1, g2, g3, g4⟩ := results_rep hT (fn := fn) q2 (by rw [hr]; exact hds)
      exact ⟨q2.df, v, g1, v, E', _, H', rfl, ⟨hwr.inj, hwr.own, hwr.wf, hwr.heap, hwr.out, hwr.good, hwr.g0, hwr.gn, hwr.bel, hwr.phi⟩, retD_rep g2 g3 g4, hK⟩
    · cases hK
  cases e with
  | ret => exact fin q1
  | normal => exact fin q1
  | exit i => cases q1
  | goto l => cases q1
  | panic ch => cases q1
  | outgrown => cases q1
/-- the end of a function with one deferred call -/
def retKD (P : Program) (T : Tab) (rs : List ResultVar) (want : List D) (n : Nat) (caps : List D) (e : Exit) (fr : Fr) (H : List Bk) : Prop := match e with
  | .ret => if fr.all (fun p => p.2.undr 8 H.length) && caps.all (D.undr 8 H.length) then DefP P n caps H fun _ H2 => retX T rs (fun l H => RetP H l want) fr H2 else StuckX .ret
  | .normal => if fr.all (fun p => p.2.undr 8 H.length) && caps.all (D.undr 8 H.length) then DefP P n caps H fun _ H2 => retX T rs (fun l H => RetP H l want) fr H2 else StuckX .ret
  | e => StuckX e
end Go.Proofs.Ytdhfakajlnidiaa
namespace Go.Proofs.Ytdhfakajlnidiaa
open Go.RowKit

/-! A slice that is nil becomes a row of the call's own, with nothing in it. -/
theorem WRel.virtr {B : Base} {H : List Bk} {E : Env} {w : World} (hw : WRel B H E w) (e n : Nat) : WRel B (H ++ [.row e n 1 (.lits [])]) (E.upd H.length none 1 0) w ∧ E.le w w (E.upd H.length none 1 0) ∧ E.own (E.upd H.length none 1 0) := by
  have hκ := (hw.out H.length (Nat.le_refl _)).2
  obtain ⟨r1, r2, r3⟩ := (hw.ext [.dead]).redo (w' := w) (x := H.length) (k := 1) (z := 0) (c := none) (b' := .row e n 1 (.lits [])) (by simp) (by omega) (fun _ _ _ => rfl) (Nat.le_refl _) hw.bel (fun d hd => by cases hd) rfl (fun _ _ d hd => by cases hd) (fun _ => rfl)
  have hset : (H ++ [Bk.dead]).set H.length (.row e n 1 (.lits [])) = H ++ [.row e n 1 (.lits [])] := by
    rw [List.set_append_right _ _ (Nat.le_refl _)]; simp
  rw [hset] at r1
  exact ⟨r1, r2, r3⟩
theorem osl_virt {H : List Bk} {E : Env} {w : World} {n : Nat} {v : Value} (h : DRep w E .nils v) : DRep w (E.upd H.length none 1 0) (.osl n H.length 1 (.lit true) (.lit 0) (.lit 0)) v := by
  cases h
  exact .osln (by simp [Env.upd]) (by simp [Env.upd]) rfl rfl rfl
theorem CodeP.virt {P : Program} {cx : Cx} {c : Code} {fr : Fr} {H : List Bk} {K : Exit → Fr → List Bk → Prop} (t e n : Nat) (ht : fr.get t = .nils) (h : CodeP P cx c (fr.set t (.osl n H.length 1 (.lit true) (.lit 0) (.lit 0))) (H ++ [.row e n 1 (.lits [])]) K) : CodeP P cx c fr H K := by
  refine ⟨fun B E a w hnt hr => ?_⟩
  obtain ⟨r1, r2, r3⟩ := hr.wr.virtr e n
  refine h.run B _ a w hnt ⟨hr.sz, hr.df, fun k => ?_, r1⟩
  show DRep w _ (Fr.get (Fr.set fr t _) k) _
  rw [Fr.get_set]
  have hk := hr.fr k
  by_cases q : t = k
  · subst q
    rw [if_pos rfl]
    simp only [ht] at hk
    exact osl_virt hk
  · rw [if_neg q]
    exact hk.move r2 r3
theorem CodeP.virtc {P : Program} {cx : Cx} {c : Code} {fr : Fr} {H : List Bk} {K : Exit → Fr → List Bk → Prop} (b i e n : Nat) (l : List D) (hb : H[b]? = some (.cells l)) (hi : l[i]? = some .nils)
    (h : CodeP P cx c fr (H.set b (.cells (l.set i (.osl n H.length 1 (.lit true) (.lit 0) (.lit 0)))) ++ [.row e n 1 (.lits [])]) K) : CodeP P cx c fr H K := by
  refine ⟨fun B E a w hnt hr => ?_⟩
  obtain ⟨r1, r2, r3⟩ := hr.wr.virtr e n
  have hlt : b < H.length := (List.getElem?_eq_some_iff.1 hb).1
  refine h.run B _ a w hnt ⟨hr.sz, hr.df, fun k => (hr.fr k).move r2 r3, ⟨r1.inj, r1.own, r1.wf, fun x bk hx => ?_, fun x hx => r1.out x (by simpa using hx), r1.good, r1.g0, r1.gn, r1.bel, r1.phi⟩⟩
  by_cases q : x = b
  · subst q
    rw [List.getElem?_append_left (by simpa using hlt), List.getElem?_set_self hlt] at hx
    cases hx
    rcases r1.heap x (.cells l) (by rw [List.getElem?_append_left hlt]; exact hb) with q | ⟨q1, q2, q3⟩
    · exact .inl q
    · refine .inr ⟨q1, fun c' hc' => ?_, fun hn => (q3 hn).elim⟩
      obtain ⟨cs, t, g1, g2, gz, g3⟩ := q2 c' hc'
      have hne : ¬ x = H.length := by omega
      have hs0 : E.σ x = some c' := by simpa [Env.upd, hne] using hc'
      refine ⟨cs, t, g1, by simpa using g2, by simpa using gz, fun j d hd => ?_⟩
      rw [List.getElem?_set] at hd
      by_cases hj : i = j
      · subst hj
        simp only [if_true] at hd
        split at hd
        · cases hd
          rcases hr.wr.heap x (.cells l) hb with z | ⟨_, z, _⟩
          · rw [z.2] at hs0; cases hs0
          · obtain ⟨cs2, t2, k1, _, _, k3⟩ := z c' hs0
            obtain ⟨v, k4, k5⟩ := k3 i _ hi
            rw [g1] at k1
            cases k1
            exact ⟨v, k4, osl_virt k5⟩
        · cases hd
      · rw [if_neg hj] at hd
        exact g3 j d hd
  · refine r1.heap x bk ?_
    rcases Nat.lt_or_ge x H.length with z | z
    · rw [List.getElem?_append_left (by simpa using z), List.getElem?_set_ne (fun e => q e.symm)] at hx
      rw [List.getElem?_append_left z]
      exact hx
    · rw [List.getElem?_append_right (by simpa using z)] at hx
      rw [List.getElem?_append_right z]
      simpa using hx
/-! Conveniences: a loop whose head keeps what its body does not write; what the VCs say in plain numbers. -/
def writesL : List Oper → List Nat
  | [] => []
  | o :: os => match o.dst with | some t => t :: writesL os | none => writesL os
def writesC : Code → List Nat
  | .region _ ops _ => writesL ops.toList
  | .seq a b => writesC a ++ writesC b
  | .cond _ a b => writesC a ++ writesC b
  | .block _ c | .loop c | .scope c => writesC c
  | _ => []
def hasN : List Nat → Nat → Bool
  | [], _ => false
  | a :: l, n => if a = n then true else hasN l n
def keep (ws : List Nat) : Fr → Fr
  | [] => []
  | (t, d) :: r => if hasN ws t then keep ws r else (t, d) :: keep ws r
theorem CodeP.loopm {P : Program} {cx : Cx} (hT : cx.T.ok P) (hm : P.follows .mixedOrders = true) {c : Code} {fr : Fr} {H : List Bk} {K : Exit → Fr → List Bk → Prop} {X : Type} (mods : X → Fr) (heap : X → List Bk) (I : X → Prop) (μ : X → Nat) (x0 : X) (hI : I x0) (hh : ∀ x, cx.h0 ≤ (heap x).length)
    (he : EntP fr H (mods x0 ++ keep (writesC c) fr) (heap x0)) (round : ∀ x, I x → vc P cx c (mods x ++ keep (writesC c) fr) (heap x) (loopK (fun x => mods x ++ keep (writesC c) fr) heap I μ x K)) : CodeP P cx (.loop c) fr H K :=
  CodeP.loop hT hm _ heap I μ x0 hI hh he round
/-- the blocks stay as they are -/
theorem CodeP.loopc {P : Program} {cx : Cx} (hT : cx.T.ok P) (hm : P.follows .mixedOrders = true) {c : Code} {fr : Fr} {H : List Bk} {K : Exit → Fr → List Bk → Prop} {X : Type} (mods : X → Fr) (I : X → Prop) (μ : X → Nat) (x0 : X) (hI : I x0) (hh : cx.h0 ≤ H.length)
    (he : FrEnt H H fr (mods x0 ++ keep (writesC c) fr)) (hb : belowAll (mods x0 ++ keep (writesC c) fr) H = true) (round : ∀ x, I x → vc P cx c (mods x ++ keep (writesC c) fr) H (loopK (fun x => mods x ++ keep (writesC c) fr) (fun _ => H) I μ x K)) : CodeP P cx (.loop c) fr H K :=
  CodeP.loop hT hm _ (fun _ => H) I μ x0 hI (fun _ => hh) ⟨he, HEnt.refl H, hb⟩ round
theorem BackP.intro {X : Type} {fr : X → Fr} {H : X → List Bk} {I : X → Prop} {μ : X → Nat} {x : X} {fr2 : Fr} {H2 : List Bk} (y : X) (hy : I y) (hm : μ y < μ x) (he : EntP fr2 H2 (fr y) (H y)) : BackP fr H I μ x fr2 H2 := ⟨⟨y, hy, hm, he⟩⟩
/-- a loop that is walked round by round: for states without letters -/
def vcR (P : Program) (cx : Cx) (c : Code) : Nat → Fr → List Bk → (Exit → Fr → List Bk → Prop) → Prop
  | 0, _, _, _ => StuckC .skip
  | n + 1, fr, H, K => vc P cx c fr H fun e fr H => match e with
    | .normal => vcR P cx c n fr H K
    | e => K e fr H
theorem CodeP.rounds {P : Program} {cx : Cx} (hT : cx.T.ok P) (hm : P.follows .mixedOrders = true) {c : Code} : ∀ (n : Nat) {fr : Fr} {H : List Bk} {K : Exit → Fr → List Bk → Prop}, vcR P cx c n fr H K → CodeP P cx (.loop c) fr H K := by
  have key : ∀ (n : Nat) {fr : Fr} {H : List Bk} {K : Exit → Fr → List Bk → Prop}, vcR P cx c n fr H K → ∀ (B : Base) (E : Env) (a : Act) (w : World), cx.nt = B.nt ∧ B.h0 ≤ cx.h0 → Rel B ⟨fr, H⟩ E a w →
      Code.rounds P c (fun e a' w' => ∃ fr' H' E', K e fr' H' ∧ Rel B ⟨fr', H'⟩ E' a' w') n a w := by
    intro n
    induction n with
    | zero => intro fr H K h; cases h
    | succ n ih =>
      intro fr H K h B E a w hnt hr
      refine Code.wp_mono (fun e a' w' ⟨fr2, H2, E2, q1, q2⟩ => ?_) ((vc_sound hT hm c h).run B E a w hnt hr)
      cases e <;> first | exact ih q1 B E2 a' w' hnt q2 | exact ⟨fr2, H2, E2, q1, q2⟩
  exact fun n {fr H K} h => ⟨fun B E a w hnt hr => wp_loop_rounds n (key n h B E a w hnt hr)⟩
/-- the same function at arguments that say more, and what it gives in other words -/
theorem Pure.args {P : Program} {f : Nat} {args args' : List D} {d : D} (hs : DsEq args args') (h : Pure P f args' d) : Pure P f args d := by
  refine ⟨h.1, fun w G vs hL hG hv => h.2 w G vs hL hG ?_⟩
  obtain ⟨h1, h2⟩ := hs.get
  refine ⟨by rw [← h1]; exact hv.1, fun i d v hd hv' => ?_⟩
  have hlt := (List.getElem?_eq_some_iff.1 hd).1
  have h3 : args[i]? = some (args[i]'(by omega)) := List.getElem?_eq_getElem (by omega)
  exact (h2 i _ d h3 hd).rep (hv.2 i _ v h3 hv')
theorem Pure.res {P : Program} {f : Nat} {args : List D} {d d' : D} (h : Pure P f args d) (he : DEq d d') : Pure P f args d' := by
  refine ⟨h.1, fun w G vs hL hG hv => (h.2 w G vs hL hG hv).mono ?_⟩
  rintro e w' ⟨v, G', q1, q2, q3, q4, q5, q6⟩
  exact ⟨v, G', q1, q2, q3, q4, q5, he.rep q6⟩
theorem wrap_add1 {k : Nat} (h : k < 9223372036854775807) : IntKind.i64.wrap ((k : Int) + 1) = ((k + 1 : Nat) : Int) := by
  rw [IntKind.wrap_i64]; omega
theorem DEq.inc {k : Nat} (h : k < 9223372036854775807) : DEq (.int .i64 (.bin .add .i64 (.nat k) (.lit 1))) (.int .i64 (.nat (k + 1))) := .int (wrap_add1 h)
theorem SnD.refl {H H' : List Bk} (d : D) : SnD H H' d d := .eq (.refl d)
theorem SnD.nat0 {H H' : List Bk} : SnD H H' (.int .i64 (.lit 0)) (.int .i64 (.nat 0)) := .eq (.int rfl)
theorem SnD.inc {H H' : List Bk} {k : Nat} (h : k < 9223372036854775807) : SnD H H' (.int .i64 (.bin .add .i64 (.nat k) (.lit 1))) (.int .i64 (.nat (k + 1))) := .eq (DEq.inc h)
theorem DEq.nat0 : DEq (.int .i64 (.lit 0)) (.int .i64 (.nat 0)) := .int rfl
section
variable {a b : IE} {c d : BE}
theorem BE.lss_t : ((BE.cmp .lss a b).den = true) = (a.den < b.den) := by simp [BE.den, cmpDen]
theorem BE.lss_f : ((BE.cmp .lss a b).den = false) = (b.den ≤ a.den) := by simp [BE.den, cmpDen]
theorem BE.leq_t : ((BE.cmp .leq a b).den = true) = (a.den ≤ b.den) := by simp [BE.den, cmpDen]
theorem BE.leq_f : ((BE.cmp .leq a b).den = false) = (b.den < a.den) := by simp [BE.den, cmpDen]
theorem BE.gtr_t : ((BE.cmp .gtr a b).den = true) = (b.den < a.den) := by simp [BE.den, cmpDen]
theorem BE.gtr_f : ((BE.cmp .gtr a b).den = false) = (a.den ≤ b.den) := by simp [BE.den, cmpDen]
theorem BE.geq_t : ((BE.cmp .geq a b).den = true) = (b.den ≤ a.den) := by simp [BE.den, cmpDen]
theorem BE.geq_f : ((BE.cmp .geq a b).den = false) = (a.den < b.den) := by simp [BE.den, cmpDen]
theorem BE.eql_t : ((BE.cmp .eql a b).den = true) = (a.den = b.den) := by simp [BE.den, cmpDen]
theorem BE.eql_f : ((BE.cmp .eql a b).den = false) = (¬ a.den = b.den) := by simp [BE.den, cmpDen]
theorem BE.neq_t : ((BE.cmp .neq a b).den = true) = (¬ a.den = b.den) := by simp [BE.den, cmpDen]
theorem BE.neq_f : ((BE.cmp .neq a b).den = false) = (a.den = b.den) := by simp [BE.den, cmpDen]
theorem BE.not_t : ((BE.not c).den = true) = (c.den = false) := by simp [BE.den]
theorem BE.not_f : ((BE.not c).den = false) = (c.den = true) := by simp [BE.den]
theorem BE.seq_t {s t : ByteArray} : ((BE.seq s t).den = true) = (s = t) := by simp [BE.den]
theorem BE.seq_f {s t : ByteArray} : ((BE.seq s t).den = false) = (¬ s = t) := by simp [BE.den]
theorem BE.beq_t : ((BE.beq c d).den = true) = (c.den = d.den) := by simp [BE.den]
theorem BE.beq_f : ((BE.beq c d).den = false) = (¬ c.den = d.den) := by simp [BE.den]
theorem BE.var_d {x : Bool} : (BE.var x).den = x := rfl
theorem BE.lit_d {x : Bool} : (BE.lit x).den = x := rfl
theorem IE.var_d {x : Int} : (IE.var x).den = x := rfl
theorem IE.lit_d {x : Int} : (IE.lit x).den = x := rfl
theorem IE.nat_d {x : Nat} : (IE.nat x).den = x := rfl
theorem IE.len_d {α : Type} {l : List α} : (IE.len l).den = l.length := rfl
theorem IE.sum_d : (IE.sum a b).den = a.den + b.den := rfl
end
end Go.Proofs.Ytdhfakajlnidiaa
namespace Go.Proofs.Ytdhfakajlnidiaa
open Go.RowKit

/-! A function that defers one call of a closure, and ends. -/
theorem LRep.move {w w' : World} {E E' : Env} {l : List D} {vs : Array Value} (h : LRep w E l vs) (h1 : E.le w w' E') (h2 : E.own E') : LRep w' E' l vs := ⟨h.1, fun i d v hd hv => (h.2 i d v hd hv).move h1 h2⟩
theorem LRep.trunc {w : World} {E : Env} {l : List D} {vs : Array Value} {n : Nat} (hl : l.all (D.undr 8 n) = true) (h : LRep w E l vs) : LRep w (E.trunc n) l vs :=
  ⟨h.1, fun i d v hd hv => DRep.trunc 8 (List.all_eq_true.1 hl d (List.mem_of_getElem? hd)) (h.2 i d v hd hv)⟩
theorem undr_all_mono {l : List D} {n m : Nat} (hnm : n ≤ m) (hl : l.all (D.undr 8 n) = true) : l.all (D.undr 8 m) = true := List.all_eq_true.2 fun d hd => D.undr_mono 8 hnm (List.all_eq_true.1 hl d hd)
theorem Pure.introD {P : Program} {f : Nat} {fn : Func} {c1 c3 : Code} {rid : Nat} {o1 o2 : Oper} {t n : Nat} {xs : List Operand} {ats : Array TypeId} {args want : List D} {T : Tab} (hT : T.ok P) (hm : P.follows .mixedOrders = true) (hf : P.funcs[f]? = some fn) (hb : fn.body = some (c1.seq ((Code.region rid ⟨[o1, o2]⟩ false).seq c3)))
    (hn : (fn.name == "runtime.NumGoroutine") = false) {rs : List ResultVar} (hr : fn.results.toList = rs) (hl : decide (args.length ≤ fn.ntmps) = true)
    (g1 : o1.guard = none) (h1 : o1.op = .makeFunc (.func n) ⟨[]⟩ ⟨xs⟩) (d1 : o1.dst = some t) (g2 : o2.guard = none) (d2 : o2.dst = none) (h2 : o2.op = .defer ⟨.value (.tmp t), ⟨[]⟩, ats⟩) (ht : decide (t < fn.ntmps) = true)
    (h : vc P ⟨T, fn.ntmps, 0⟩ c1 (argFr 0 args) [] fun e fr H => match e with
      | .normal => ∃ fr1 H1, EntP fr H fr1 H1 ∧ (xs.map fr1.ev).all (D.undr 8 H1.length) = true ∧ vc P ⟨T, fn.ntmps, H1.length⟩ c3 (fr1.set t (.fn (.func n) [] (xs.map fr1.ev))) H1 (retKD P T rs want n (xs.map fr1.ev))
      | e => StuckX e) : Pure P f args (retD want) := by
  simp only [decide_eq_true_eq] at hl ht
  refine ⟨⟨fn, _, hf, hb, hn⟩, fun w G vs hL hG hv => ?_⟩
  let B : Base := ⟨w, G, fn.ntmps, 0, fun w E => Laid w E.G, fun _ _ _ _ h1 _ h3 => h3.le h1, fun _ _ _ _ h => h, [], fun _ _ h => h⟩
  have h0 := enter_rel (B := B) (fn := fn) hl hv (H := []) ⟨fun x y c h => by simp [Env.of] at h, fun x c h => by simp [Env.of] at h, fun _ _ => rfl, fun x b h => by simp at h, fun _ _ => ⟨rfl, rfl⟩, hG, fun _ h => h, fun _ h => .inl h, Below.refl _ _, hL⟩ rfl rfl
  refine calls_of_wp_defers hf hb (wp_seq (Code.wp_mono (fun e a' w' ⟨fr', H', E', q1, q2⟩ => ?_) ((vc_sound hT hm c1 h).run B _ _ _ ⟨rfl, Nat.le_refl _⟩ h0)))
  cases e with
  | normal =>
    obtain ⟨fr1, H1, qe, k1, k2⟩ := q1
    obtain ⟨E1, q3⟩ : ∃ E1, Rel B ⟨fr1, H1⟩ E1 a' w' := ⟨_, qe.rel (Nat.zero_le _) q2⟩
    clear qe q2 fr' H' E'
    have q2 := q3
    clear q3
    obtain ⟨fr', rfl⟩ : ∃ x, x = fr1 := ⟨_, rfl⟩
    obtain ⟨H', rfl⟩ : ∃ x, x = H1 := ⟨_, rfl⟩
    obtain ⟨E', rfl⟩ : ∃ x, x = E1 := ⟨_, rfl⟩
    refine wp_seq (wp_region_list ?_)
    generalize hcaps : xs.map fr'.ev = caps at k1 k2
    obtain ⟨cv, hcv⟩ : ∃ cv : Array Value, cv = (xs.map a'.eval).toArray := ⟨_, rfl⟩
    have hlr : LRep w' E' caps cv := by
      subst hcaps hcv
      refine ⟨by simp, fun i d v hd hv' => ?_⟩
      simp only [List.getElem?_map, List.getElem?_toArray, Option.map_eq_some_iff] at hd hv'
      obtain ⟨x, hx, rfl⟩ := hd
      obtain ⟨y, hy, rfl⟩ := hv'
      rw [hx] at hy
      cases hy
      exact q2.ev x
    have hfv : DRep w' E' (.fn (.func n) [] caps) (.func (.func n) #[] cv) := .fn (by simp) hlr.1 (fun i d v h => by simp at h) hlr.2
    have hp := q2.put q2.wr (Env.le.refl _ _) (Env.own.refl _) (dst := some t) (by simp [dstB, ht, B]) hfv
    have e1 : (execOp a'.eval o1).run P w' = .ok (.value (.func (.func n) #[] cv)) w' := by
      unfold execOp; rw [h1, hcv]; simp [Instr.makeFunc]
    let d0 : Deferred := ⟨.fn (.func n) cv, #[]⟩
    have e2 : (execOp (a'.put (some t) (.func (.func n) #[] cv)).eval o2).run P w' = .ok (.defer d0) w' := by
      unfold execOp
      rw [h2]
      have : (a'.put (some t) (.func (.func n) #[] cv)).eval (.tmp t) = .func (.func n) #[] cv := eval_put_same (by rw [q2.sz]; exact ht)
      simp [resolve, this, Deferred.ofValue]
      rfl
    have hnd : (a'.put (some t) (.func (.func n) #[] cv)).defers = [] := put_defers'.trans q2.df
    simp only [wpList, Region.wanted, g1, g2, if_true]
    refine .inl ?_
    unfold Oper.wp
    rw [e1, Oper.upon_value, d1]
    refine .inl ?_
    rw [e2, Oper.upon_defer, d2, hnd]
    generalize ha2 : a'.put (some t) (.func (.func n) #[] cv) = a2 at *
    let B2 : Base := ⟨w, G, fn.ntmps, H'.length, fun w E => Laid w E.G ∧ LRep w E caps cv, fun _ _ _ _ h1 h2 h3 => ⟨h3.1.le h1, h3.2.move h1 h2⟩, fun _ _ _ hn h3 => ⟨h3.1, h3.2.trunc (undr_all_mono hn k1)⟩, [d0], fun _ _ h => h.1⟩
    have hr2 : Rel B2 ⟨fr'.set t (.fn (.func n) [] caps), H'⟩ E' { tmps := a2.tmps, defers := [d0] } w' := ⟨hp.sz, rfl, hp.fr, ⟨hp.wr.inj, hp.wr.own, hp.wr.wf, hp.wr.heap, hp.wr.out, hp.wr.good, hp.wr.g0, hp.wr.gn, hp.wr.bel, hp.wr.laid, hlr⟩⟩
    show c3.wp P _ { tmps := a2.tmps, defers := [d0] } w'
    refine Code.wp_mono (fun e a3 w3 ⟨fr3, H3, E3, q3, q4⟩ => ?_) ((vc_sound hT hm c3 k2).run B2 _ _ _ ⟨rfl, Nat.le_refl _⟩ hr2)
    have hd3 : a3.defers = [d0] := q4.df
    have fin : retKD P T rs want n caps .ret fr3 H3 → Leaves P fn a3.tmps (fun e w' => ∃ (v : Value) (G' : Nat → Prop), e = Ending.returned v ∧ Below w.heap.size w w' ∧ (∀ b, G b → G' b) ∧ (∀ b, G' b → G b ∨ w.heap.size ≤ b) ∧ (∀ b, G' b → b < w'.heap.size) ∧ DRep w' (Env.of G') (retD want) v) [d0] .returning w3 := by
      intro hk
      unfold retKD at hk
      simp only at hk
      split at hk
      · next hchk =>
        simp only [Bool.and_eq_true] at hchk
        let B3 : Base := ⟨w, G, fn.ntmps, H3.length, fun w E => Laid w E.G ∧ ∀ t, DRep w E (fr3.get t) (a3.tmps.getD t undef), fun _ _ _ _ h1 h2 h3 => ⟨h3.1.le h1, fun t => (h3.2 t).move h1 h2⟩, fun _ _ _ hn h3 => ⟨h3.1, fun t => DRep.trunc 8 (D.undr_mono 8 hn (Fr.get_undr hchk.1 t)) (h3.2 t)⟩, [d0], fun _ _ h => h.1⟩
        have hw3 : WRel B3 H3 E3 w3 := ⟨q4.wr.inj, q4.wr.own, q4.wr.wf, q4.wr.heap, q4.wr.out, q4.wr.good, q4.wr.g0, q4.wr.gn, q4.wr.bel, q4.wr.laid, q4.fr⟩
        refine leaves_cons (fun h => by cases h) (by show (callFunc n _).run P w3 = _; exact callFunc_here hk.here _ _) ((hk.run B3 w3 E3 _ (Nat.le_refl _) ?_ hw3).mono ?_)
        · have := q4.wr.phi.2
          simpa using this
        · rintro e u' w4 ⟨rfl, v4, E4, d4, H4, rfl, r1, r2, r3⟩
          show Leaves P fn a3.tmps _ [] (settle .returning) w4
          have hrel : Rel B3 ⟨fr3, H4⟩ E4 a3 w4 := ⟨q4.sz, hd3, r1.phi.2, r1⟩
          unfold retX at r3
          split at r3
          · next ds hds =>
            obtain ⟨hs, hdat⟩ := r3
            obtain ⟨v, us, y1, y2, y3, y4⟩ := results_rep hT (fn := fn) hrel (by rw [hr]; exact hds)
            obtain ⟨z1, z2⟩ := hs.get
            refine ⟨v, y1, v, E4.lent, rfl, r1.bel, fun b hb => .inl (r1.g0 b hb), fun b hb => ?_, r1.lentGood, ?_⟩
            · rcases hb with hb | ⟨x, hx⟩
              · exact r1.gn b hb
              · exact .inr (r1.own x b hx).1
            · refine retD_rep y2 (by omega) fun i d u h1 h2 => ?_
              have hlt := (List.getElem?_eq_some_iff.1 h1).1
              have h3 : ds[i]? = some (ds[i]'(by omega)) := List.getElem?_eq_getElem (by omega)
              exact (z2 i _ d h3 h1).lent r1.heap (y4 i _ u h3 h2) (List.all_eq_true.1 hdat d (List.mem_of_getElem? h1))
          · cases r3
      · cases hk
    cases e with
    | ret => show Leaves P fn a3.tmps _ a3.defers .returning w3; rw [hd3]; exact fin q3
    | normal => show Leaves P fn a3.tmps _ a3.defers .returning w3; rw [hd3]; exact fin q3
    | exit i => cases q3
    | goto l => cases q3
    | panic ch => cases q3
    | outgrown => cases q3
  | ret => cases q1
  | exit i => cases q1
  | goto l => cases q1
  | panic ch => cases q1
  | outgrown => cases q1
end Go.Proofs.Ytdhfakajlnidiaa
namespace Go.Proofs.Ytdhfakajlnidiaa
open Go.RowKit

/-! Code in pieces. -/
theorem CodeP.seq {P : Program} {cx : Cx} {c d : Code} {fr : Fr} {H : List Bk} {K : Exit → Fr → List Bk → Prop} (h : CodeP P cx c fr H (thenK (fun fr H => CodeP P cx d fr H K) K)) : CodeP P cx (.seq c d) fr H K := by
  refine ⟨fun B E a w hnt hr => wp_seq (Code.wp_mono (fun e a' w' ⟨fr', H', E', q1, q2⟩ => ?_) (h.run B E a w hnt hr))⟩
  cases e <;> first | exact CodeP.run q1 B E' a' w' hnt q2 | exact ⟨fr', H', E', q1, q2⟩
theorem Pure.introC {P : Program} {f : Nat} {fn : Func} {c : Code} {args want : List D} {T : Tab} (hT : T.ok P) (hf : P.funcs[f]? = some fn) (hb : fn.body = some c) (hn : (fn.name == "runtime.NumGoroutine") = false) {rs : List ResultVar}
    (hr : fn.results.toList = rs) (hl : decide (args.length ≤ fn.ntmps) = true)
    (h : CodeP P ⟨T, fn.ntmps, 0⟩ c (argFr 0 args) [] (retK T rs want)) : Pure P f args (retD want) := by
  simp only [decide_eq_true_eq] at hl
  refine ⟨⟨fn, c, hf, hb, hn⟩, fun w G vs hL hG hv => ?_⟩
  let B : Base := ⟨w, G, fn.ntmps, 0, fun w E => Laid w E.G, fun _ _ _ _ h1 _ h3 => h3.le h1, fun _ _ _ _ h => h, [], fun _ _ h => h⟩
  have h0 := enter_rel (B := B) (fn := fn) hl hv (H := []) ⟨fun x y c h => by simp [Env.of] at h, fun x c h => by simp [Env.of] at h, fun _ _ => rfl, fun x b h => by simp at h, fun _ _ => ⟨rfl, rfl⟩, hG, fun _ h => h, fun _ h => .inl h, Below.refl _ _, hL⟩ rfl rfl
  refine calls_of_wp hf hb (Code.wp_mono (fun e a' w' ⟨fr', H', E', q1, q2⟩ => ?_) (h.run B _ _ _ ⟨rfl, Nat.le_refl _⟩ h0))
  have fin : retX T rs (fun l H => RetP H l want) fr' H' → a'.defers = [] ∧ ∃ v, (results fn a'.tmps).run P w' = .ok v w' ∧ ∃ (v' : Value) (G' : Nat → Prop), Ending.returned v = .returned v' ∧ Below w.heap.size w w' ∧ (∀ b, G b → G' b) ∧ (∀ b, G' b → G b ∨ w.heap.size ≤ b) ∧ (∀ b, G' b → b < w'.heap.size) ∧ DRep w' (Env.of G') (retD want) v' := by
    intro hs
    unfold retX at hs
    split at hs
    · next ds hds =>
      obtain ⟨hs, hdat⟩ := hs
      have hwr := q2.wr
      obtain ⟨v, us, g1, g2, g3, g4⟩ := results_rep hT (fn := fn) q2 (by rw [hr]; exact hds)
      obtain ⟨k1, k2⟩ := hs.get
      refine ⟨q2.df, v, g1, v, E'.lent, rfl, hwr.bel, fun b hb => .inl (hwr.g0 b hb), fun b hb => ?_, hwr.lentGood, ?_⟩
      · rcases hb with hb | ⟨x, hx⟩
        · exact hwr.gn b hb
        · exact .inr (hwr.own x b hx).1
      · refine retD_rep g2 (by omega) fun i d u h1 h2 => ?_
        have hlt := (List.getElem?_eq_some_iff.1 h1).1
        have h3 : ds[i]? = some (ds[i]'(by omega)) := List.getElem?_eq_getElem (by omega)
        exact (k2 i _ d h3 h1).lent hwr.heap (g4 i _ u h3 h2) (List.all_eq_true.1 hdat d (List.mem_of_getElem? h1))
    · cases hs
  cases e with
  | ret => exact fin q1
  | normal => exact fin q1
  | exit i => cases q1
  | goto l => cases q1
  | panic ch => cases q1
  | outgrown => cases q1

def hasL : List Nat → Nat → Bool
  | [], _ => false
  | a :: l, n => if a = n then true else hasL l n
theorem hasL_spec : ∀ {l : List Nat} {n : Nat}, hasL l n = true ↔ n ∈ l
  | [], n => by simp [hasL]
  | a :: l, n => by
    unfold hasL
    split
    · next e => simp [e]
    · next e =>
      rw [hasL_spec, List.mem_cons]
      exact ⟨.inr, fun h => h.elim (fun q => absurd q.symm e) id⟩
/-! Functions whose results are new. -/
def D.ownB : Nat → D → Bool
  | 0, _ => false
  | n + 1, d => match d with
    | .agg l | .tup l => l.all (D.ownB n)
    | .int .. | .bool _ | .str _ | .nils | .osl .. => true
    | _ => false
theorem D.ownB_rep {w : World} {E E' : Env} (h1 : E'.σ = E.σ) (h2 : E'.κ = E.κ) (h3 : E'.ζ = E.ζ) : ∀ (n : Nat) {d : D} {v : Value}, d.ownB n = true → DRep w E d v → DRep w E' d v
  | 0, _, _, h, _ => by cases h
  | n + 1, d, v, h, hr => by
    cases hr with
    | int h' => exact .int h'
    | bool => exact .bool
    | str h' => exact .str h'
    | nils => exact .nils
    | agg hs hh =>
      simp only [D.ownB, List.all_eq_true] at h
      exact .agg hs fun i d v q1 q2 => D.ownB_rep h1 h2 h3 n (h d (List.mem_of_getElem? q1)) (hh i d v q1 q2)
    | tup hs hh =>
      simp only [D.ownB, List.all_eq_true] at h
      exact .tup hs fun i d v q1 q2 => D.ownB_rep h1 h2 h3 n (h d (List.mem_of_getElem? q1)) (hh i d v q1 q2)
    | oslc hk hs hnb hl hn hc hm hsz => exact .oslc (by rw [h2]; exact hk) (by rw [h1]; exact hs) hnb hl hn hc hm (by rw [h3]; exact hsz)
    | osln hk hs hnb hl hn => exact .osln (by rw [h2]; exact hk) (by rw [h1]; exact hs) hnb hl hn
    | osls hk => exact .osls (by rw [h2]; exact hk)
    | _ => cases h
def onlyH (xs : List Nat) : Nat → List Bk → List Bk
  | _, [] => []
  | y, b :: r => (if hasL xs y then b else .dead) :: onlyH xs (y + 1) r
theorem onlyH_get {xs : List Nat} : ∀ {y : Nat} {H : List Bk} {x : Nat} {b : Bk}, (onlyH xs y H)[x]? = some b → b = .dead ∨ (H[x]? = some b ∧ y + x ∈ xs)
  | _, [], x, b, h => by simp [onlyH] at h
  | y, b0 :: r, 0, b, h => by
    simp only [onlyH, List.getElem?_cons_zero, Option.some.injEq, Nat.add_zero] at h ⊢
    split at h
    · next q => exact .inr ⟨h, hasL_spec.1 q⟩
    · exact .inl h.symm
  | y, b0 :: r, x + 1, b, h => by
    simp only [onlyH, List.getElem?_cons_succ] at h ⊢
    have := onlyH_get h
    rwa [show y + 1 + x = y + (x + 1) by omega] at this
inductive RetF (H : List Bk) (got : List D) (want : List D) : Prop
  | mk (xs : List Nat) (ho : got.all (D.ownB 8) = true) (hx : ∀ x ∈ xs, ∃ ty n ver r, H[x]? = some (.row ty n ver r) ∧ ∀ e ∈ r.den, e.all D.scalB = true) (h : SnDs (onlyH xs 0 H) [] got want) (hd : want.all (D.dataB 8) = true)
def retKF (T : Tab) (rs : List ResultVar) (want : List D) (e : Exit) (fr : Fr) (H : List Bk) : Prop := match e with
  | .ret => retX T rs (fun l H => RetF H l want) fr H
  | .normal => retX T rs (fun l H => RetF H l want) fr H
  | e => StuckX e
theorem PureF.intro {P : Program} {f : Nat} {fn : Func} {c : Code} {args want : List D} {T : Tab} (hT : T.ok P) (hm : P.follows .mixedOrders = true) (hf : P.funcs[f]? = some fn) (hb : fn.body = some c) (hn : (fn.name == "runtime.NumGoroutine") = false) {rs : List ResultVar}
    (hr : fn.results.toList = rs) (hl : decide (args.length ≤ fn.ntmps) = true)
    (h : vc P ⟨T, fn.ntmps, 0⟩ c (argFr 0 args) [] (retKF T rs want)) : PureF P f args (retD want) := by
  simp only [decide_eq_true_eq] at hl
  refine ⟨⟨fn, c, hf, hb, hn⟩, fun w G vs hL hG hv => ?_⟩
  let B : Base := ⟨w, G, fn.ntmps, 0, fun w E => Laid w E.G, fun _ _ _ _ h1 _ h3 => h3.le h1, fun _ _ _ _ h => h, [], fun _ _ h => h⟩
  have h0 := enter_rel (B := B) (fn := fn) hl hv (H := []) ⟨fun x y c h => by simp [Env.of] at h, fun x c h => by simp [Env.of] at h, fun _ _ => rfl, fun x b h => by simp at h, fun _ _ => ⟨rfl, rfl⟩, hG, fun _ h => h, fun _ h => .inl h, Below.refl _ _, hL⟩ rfl rfl
  refine calls_of_wp hf hb (Code.wp_mono (fun e a' w' ⟨fr', H', E', q1, q2⟩ => ?_) ((vc_sound hT hm c h).run B _ _ _ ⟨rfl, Nat.le_refl _⟩ h0))
  have fin : retX T rs (fun l H => RetF H l want) fr' H' → a'.defers = [] ∧ ∃ v, (results fn a'.tmps).run P w' = .ok v w' ∧ ∃ (v' : Value) (G' : Nat → Prop), Ending.returned v = .returned v' ∧ Below w.heap.size w w' ∧ (∀ b, G' b → w.heap.size ≤ b ∧ b < w'.heap.size) ∧ DRep w' (Env.of G') (retD want) v' := by
    intro hs
    unfold retX at hs
    split at hs
    · next ds hds =>
      obtain ⟨xs, ho, hx, hs, hdat⟩ := hs
      have hwr := q2.wr
      obtain ⟨v, us, g1, g2, g3, g4⟩ := results_rep hT (fn := fn) q2 (by rw [hr]; exact hds)
      obtain ⟨k1, k2⟩ := hs.get
      let E0 : Env := ⟨fun _ => False, E'.σ, E'.κ, E'.ζ⟩
      have hH0 : HRep w' E0 (onlyH xs 0 H') := fun x b hb => by
        rcases onlyH_get hb with q | ⟨q, q2⟩
        · subst q
          exact .inr ⟨trivial, fun _ _ => trivial, fun _ => trivial⟩
        · rw [Nat.zero_add] at q2
          obtain ⟨ty, n, ver, r, hrow, hsc⟩ := hx x q2
          rw [hrow] at q
          cases q
          rcases hwr.heap x _ hrow with p | ⟨p1, p2, p3⟩
          · exact .inl p
          · refine .inr ⟨p1, fun c hc => ?_, p3⟩
            obtain ⟨cs, t, y1, y2, y3, y4, y5⟩ := p2 c hc
            refine ⟨cs, t, y1, y2, y3, y4, fun i e he => ?_⟩
            obtain ⟨z1, z2⟩ := y5 i e he
            refine ⟨z1, fun j d hd => ?_⟩
            obtain ⟨v, z3, z4⟩ := z2 j d hd
            exact ⟨v, z3, D.scalB_rep (List.all_eq_true.1 (hsc e (List.mem_of_getElem? he)) d (List.mem_of_getElem? hd)) z4⟩
      refine ⟨q2.df, v, g1, v, E0.lent, rfl, hwr.bel, fun b hb => ?_, ?_⟩
      · rcases hb with hb | ⟨x, hx⟩
        · exact hb.elim
        · obtain ⟨o1, o2, _⟩ := hwr.own x b hx
          exact ⟨o1, o2⟩
      · refine retD_rep g2 (by omega) fun i d u h1 h2 => ?_
        have hlt := (List.getElem?_eq_some_iff.1 h1).1
        have h3 : ds[i]? = some (ds[i]'(by omega)) := List.getElem?_eq_getElem (by omega)
        exact (k2 i _ d h3 h1).lent hH0 (D.ownB_rep (E := E') (E' := E0) rfl rfl rfl 8 (List.all_eq_true.1 ho _ (List.mem_of_getElem? h3)) (g4 i _ u h3 h2)) (List.all_eq_true.1 hdat d (List.mem_of_getElem? h1))
    · cases hs
  cases e with
  | ret => exact fin q1
  | normal => exact fin q1
  | exit i => cases q1
  | goto l => cases q1
  | panic ch => cases q1
  | outgrown => cases q1
/-- the slots that are still asked for -/
def keepS (ks : List Nat) : Fr → Fr
  | [] => []
  | (t, d) :: r => if hasT ks t then (t, d) :: keepS ks r else keepS ks r
theorem keepS_get (ks : List Nat) (t : Nat) : ∀ fr : Fr, (keepS ks fr).get t = if hasT ks t then fr.get t else .junk
  | [] => by simp [keepS, Fr.get]
  | (m, d) :: r => by
    unfold keepS
    by_cases q : hasT ks m = true
    · rw [if_pos q]
      simp only [Fr.get]
      by_cases e : m = t
      · subst e
        rw [if_pos rfl, if_pos q, if_pos rfl]
      · rw [if_neg e, if_neg e, keepS_get ks t r]
    · rw [if_neg q, keepS_get ks t r]
      by_cases e : m = t
      · subst e
        rw [if_neg q, if_neg q]
      · simp only [Fr.get, if_neg e]
theorem CodeP.keep {P : Program} {cx : Cx} {c : Code} {fr : Fr} {H : List Bk} {K : Exit → Fr → List Bk → Prop} (ks : List Nat) (h : CodeP P cx c (keepS ks fr) H K) : CodeP P cx c fr H K := by
  refine ⟨fun B E a w hnt hr => h.run B E a w hnt ⟨hr.sz, hr.df, fun t => ?_, hr.wr⟩⟩
  show DRep w E ((keepS ks fr).get t) _
  rw [keepS_get]
  split
  · exact hr.fr t
  · exact .junk
theorem OpsP.keep {P : Program} {cx : Cx} {ops : Array Oper} {os : List Oper} {fr : Fr} {H : List Bk} {K : Fr → List Bk → Prop} (ks : List Nat) (h : OpsP P cx ops os (keepS ks fr) H K) : OpsP P cx ops os fr H K := by
  refine ⟨fun B E a w hnt hh hr => h.run B E a w hnt hh ⟨hr.sz, hr.df, fun t => ?_, hr.wr⟩⟩
  show DRep w E ((keepS ks fr).get t) _
  rw [keepS_get]
  split
  · exact hr.fr t
  · exact .junk
/-! Regions whose operations stand in no order that is known here, among them such that write or give up own blocks. -/
def anyE (p : Edge → Bool) : List Edge → Bool
  | [] => false
  | e :: l => if p e then true else anyE p l
/-- does j wait for i, perhaps by way of others? -/
def reach (ops : Array Oper) : Nat → Nat → Nat → Bool
  | 0, _, _ => false
  | f + 1, i, j => match ops[j]? with
    | none => false
    | some o => if waitsOn .any o i then true else anyE (fun e => if Region.binds .any e then reach ops f i e.on else false) o.after.toList
theorem anyE_spec {p : Edge → Bool} : ∀ {l : List Edge}, anyE p l = true → ∃ e ∈ l, p e = true
  | [], h => by cases h
  | e :: l, h => by
    unfold anyE at h
    split at h
    · next q => exact ⟨e, by simp, q⟩
    · obtain ⟨e', h1, h2⟩ := anyE_spec h
      exact ⟨e', by simp [h1], h2⟩
theorem reach_spec {ops : Array Oper} {S : Nat → Prop} (hS : ∀ j o, S j → ops[j]? = some o → ∀ e ∈ o.after, Region.binds .any e = true → S e.on) : ∀ f i j, reach ops f i j = true → S j → S i
  | 0, _, _, h, _ => by cases h
  | f + 1, i, j, h, hj => by
    unfold reach at h
    split at h
    · cases h
    · next o ho =>
      split at h
      · next hw =>
        obtain ⟨e, he, hb, rfl⟩ := waitsOn_spec hw
        exact hS j o hj ho e he hb
      · obtain ⟨e, he, hp⟩ := anyE_spec h
        split at hp
        · next hb => exact reach_spec hS f i e.on hp (hS j o hj ho e (Array.mem_toList_iff.1 he) hb)
        · cases hp
theorem reach_ready {ops : Array Oper} {S : Nat → Prop} (hS : ∀ j o, S j → ops[j]? = some o → ∀ e ∈ o.after, Region.binds .any e = true → S e.on) {f i j : Nat} (h : reach ops f i j = true) {o : Oper} (ho : ops[j]? = some o) (hd : ∀ e ∈ o.after, Region.binds .any e = true → S e.on) : S i := by
  cases f with
  | zero => cases h
  | succ f =>
    unfold reach at h
    rw [ho] at h
    simp only at h
    split at h
    · next hw =>
      obtain ⟨e, he, hb, rfl⟩ := waitsOn_spec hw
      exact hd e he hb
    · obtain ⟨e, he, hp⟩ := anyE_spec h
      split at hp
      · next hb => exact reach_spec hS f i e.on hp (hd e (Array.mem_toList_iff.1 he) hb)
      · cases hp
def touch : List (Nat × List Nat) → Nat → List Nat
  | [], _ => []
  | (j, xs) :: r, i => if j = i then xs else touch r i
def allM : List (Nat × List Nat) → List Nat
  | [] => []
  | (_, xs) :: r => xs ++ allM r
theorem touch_allM : ∀ {mods : List (Nat × List Nat)} {i x : Nat}, x ∈ touch mods i → x ∈ allM mods
  | [], _, _, h => by cases h
  | (j, xs) :: r, i, x, h => by
    unfold touch at h
    unfold allM
    split at h
    · simp [h]
    · simp [touch_allM h]
def maskH (M keep : List Nat) : Nat → List Bk → List Bk
  | _, [] => []
  | y, b :: r => (if hasT M y then (if hasT keep y then b else .dead) else b) :: maskH M keep (y + 1) r
theorem hasT_spec : ∀ {l : List Nat} {n : Nat}, hasT l n = true ↔ n ∈ l
  | [], n => by simp [hasT]
  | a :: l, n => by
    unfold hasT
    split
    · next e => simp [e]
    · next e =>
      rw [hasT_spec, List.mem_cons]
      exact ⟨.inr, fun h => h.elim (fun q => absurd q.symm e) id⟩
theorem maskH_len (M keep : List Nat) : ∀ (y : Nat) (H : List Bk), (maskH M keep y H).length = H.length
  | _, [] => rfl
  | y, b :: r => by simp [maskH, maskH_len M keep (y + 1) r]
theorem maskH_get {M keep : List Nat} : ∀ {y : Nat} {H : List Bk} {x : Nat} {b : Bk}, (maskH M keep y H)[x]? = some b → b = .dead ∨ (H[x]? = some b ∧ (y + x ∈ M → y + x ∈ keep))
  | _, [], x, b, h => by simp [maskH] at h
  | y, b0 :: r, 0, b, h => by
    simp only [maskH, List.getElem?_cons_zero, Option.some.injEq, Nat.add_zero] at h ⊢
    split at h
    · split at h
      · next h1 h2 => exact .inr ⟨h, fun _ => hasT_spec.1 h2⟩
      · exact .inl h.symm
    · next h1 => exact .inr ⟨h, fun q => absurd (hasT_spec.2 q) h1⟩
  | y, b0 :: r, x + 1, b, h => by
    simp only [maskH, List.getElem?_cons_succ] at h ⊢
    have := maskH_get h
    rwa [show y + 1 + x = y + (x + 1) by omega] at this
def setL (H : List Bk) : List (Nat × Bk) → List Bk
  | [] => H
  | (x, b) :: r => setL (H.set x b) r
theorem setL_len : ∀ (md : List (Nat × Bk)) (H : List Bk), (setL H md).length = H.length
  | [], _ => rfl
  | (x, b) :: r, H => by simp [setL, setL_len r]
theorem setL_out : ∀ (md : List (Nat × Bk)) (H : List Bk) (x : Nat), (∀ b, (x, b) ∉ md) → (setL H md)[x]? = H[x]?
  | [], _, _, _ => rfl
  | (y, b) :: r, H, x, h => by
    have h1 : y ≠ x := fun e => h b (by simp [e])
    rw [setL, setL_out r _ x fun b' hb => h b' (by simp [hb]), List.getElem?_set_ne h1]
theorem setL_congr : ∀ (md : List (Nat × Bk)) {H H' : List Bk} {x : Nat}, H.length = H'.length → H[x]? = H'[x]? → (setL H md)[x]? = (setL H' md)[x]?
  | [], _, _, _, _, h => h
  | (y, b) :: r, H, H', x, hl, h => by
    refine setL_congr r (by simp [hl]) ?_
    by_cases e : y = x
    · subst e
      by_cases q : y < H.length
      · rw [List.getElem?_set_self q, List.getElem?_set_self (by omega)]
      · rw [List.getElem?_eq_none (by simp; omega), List.getElem?_eq_none (by simp; omega)]
    · rw [List.getElem?_set_ne e, List.getElem?_set_ne e, h]
theorem setL_app : ∀ (md : List (Nat × Bk)) {H X : List Bk}, (∀ p ∈ md, p.1 < H.length) → setL (H ++ X) md = setL H md ++ X
  | [], _, _, _ => rfl
  | (y, b) :: r, H, X, h => by
    rw [setL, setL, List.set_append_left _ _ (h (y, b) (by simp)), setL_app r fun p hp => by simp; exact h p (by simp [hp])]
theorem setL_cat : ∀ (a b : List (Nat × Bk)) {H : List Bk}, setL H (a ++ b) = setL (setL H a) b
  | [], _, _ => rfl
  | (y, c) :: r, b, H => by rw [List.cons_append, setL, setL, setL_cat r b]
/-- what an operation does, among blocks of which some are not laid yet and some are not looked at -/
def OpZ (P : Program) (H : List Bk) (ρ : Operand → D) (o : Oper) (d : D) (nw : List Bk) (md : List (Nat × Bk)) : Prop :=
  ∀ (B : Base) (Hx : List Bk) (w : World) (E : Env) (a : Act), (∀ x, DRep w E (ρ x) (a.eval x)) → WRel B Hx E w → (H ++ nw).length ≤ Hx.length → Compat H nw Hx → Fresh E H.length (H.length + nw.length) → ∀ (K : Act → World → Prop) (Q : Exit → Act → World → Prop),
    (∀ v w' E', WRel B (setL Hx md) E' w' → E.le w w' E' → E.own E' → (∀ x, (x < H.length ∨ H.length + nw.length ≤ x) → (∀ b, (x, b) ∉ md) → E'.σ x = E.σ x ∧ E'.κ x = E.κ x) → DRep w' E' d v → K (a.put o.dst v) w') → o.wp P a w K Q
theorem OpX.z {P : Program} {H : List Bk} {ρ : Operand → D} {o : Oper} {d : D} {nw : List Bk} (h : OpX P H ρ o d nw) : OpZ P H ρ o d nw [] :=
  fun B Hx w E a h1 h2 _ h3 h4 K Q hk => h B Hx w E a h1 h2 h3 h4 K Q fun v w' E' g1 g2 g3 g4 g5 => hk v w' E' g1 g2 g3 (fun x hx _ => g4 x hx) g5
theorem EEff.z {P : Program} {H : List Bk} {ρ : Operand → D} {o : Oper} {d : D} {b : Nat} {b' : Bk} (h : ∀ Hx, Compat H [] Hx → EEff P Hx ρ o (Hx.set b b') d) : OpZ P H ρ o d [] [(b, b')] := fun B Hx w E a h1 h2 _ h3 h4 K Q hk => by
  obtain ⟨nx, v, w', E', e1, e2, e3, e4, e5, e6, e7⟩ := h Hx h3 B w E a.eval h1 h2
  unfold Oper.wp
  rw [e1]
  have fin := hk v w' E' e3 e4 e5 (fun x _ hx => e7 x (List.getElem?_set_ne fun e => hx b' (by simp [e]))) e6
  rcases e2 with rfl | ⟨rfl, rfl⟩
  · exact fin
  · exact fin
theorem ReqQ.put {b : Bool} {p : Unit → Prop} {K : Prop} (h : p ()) (hk : K) : ReqQ b p K := by
  cases b
  · exact ⟨h, fun _ => hk⟩
  · exact hk
def blkOf : D → Option Nat
  | .ptr b _ _ => some b
  | .rp _ b _ _ _ => some b
  | .osl _ b _ _ _ _ => some b
  | .ap _ b _ => some b
  | _ => none
theorem sStore_z {P : Program} {T : Tab} {H : List Bk} {ρ : Operand → D} {o : Oper} (hT : T.ok P) {t : Nat} {a x : Operand} (ho : o.op = .store t a x) {K : List Bk → Prop} (hk : sStore T H o t (ρ a) (ρ x) K) : ∃ b b', blkOf (ρ a) = some b ∧ b < H.length ∧ OpZ P H ρ o (.tup []) [] [(b, b')] ∧ K (H.set b b') := by
  have key : ∀ {b : Nat} {b' : Bk}, (∀ Hx, Compat H [] Hx → sStore T Hx o t (ρ a) (ρ x) fun H' => H' = Hx.set b b') → OpZ P H ρ o (.tup []) [] [(b, b')] := fun h => EEff.z fun Hx hc => by
    obtain ⟨H', h1, rfl⟩ := sStore_eff hT ho (h Hx hc)
    exact h1
  unfold sStore at hk
  split at hk
  · next ti m hti hm =>
    split at hk
    · next hc =>
      split at hk
      · next b ver off hd =>
        split at hk
        · next l hl =>
          split at hk
          · next hcc =>
            refine ⟨b, _, by rw [hd]; rfl, (List.getElem?_eq_some_iff.1 hl).1, key fun Hx hx => ?_, hk⟩
            unfold sStore
            simp only [hti, hm, hc, if_true, hd, hx.of (b := .cells l) (by simpa using hl) (by simp)]
            rw [if_pos hcc]
            trivial
          · cases hk
        · cases hk
      · next n b ver i off hd =>
        split at hk
        · next ty n' ver' r hl =>
          split at hk
          · next hcc =>
            obtain ⟨hlt, hk⟩ := ReqQ.get hk ltLit_spec
            refine ⟨b, _, by rw [hd]; rfl, (List.getElem?_eq_some_iff.1 hl).1, key fun Hx hx => ?_, hk⟩
            unfold sStore
            simp only [hti, hm, hc, if_true, hd, hx.of (b := .row ty n' ver' r) (by simpa using hl) (by simp)]
            rw [if_pos hcc]
            exact ReqQ.put hlt trivial
          · cases hk
        · cases hk
      · cases hk
    · cases hk
  · cases hk
theorem sStore2_z {P : Program} {T : Tab} {H : List Bk} {ρ : Operand → D} {o : Oper} (hT : T.ok P) {t : Nat} {a x : Operand} (ho : o.op = .store t a x) {K : List Bk → Prop} (hk : sStore2 T H o t (ρ a) (ρ x) K) : ∃ b b', blkOf (ρ a) = some b ∧ b < H.length ∧ OpZ P H ρ o (.tup []) [] [(b, b')] ∧ K (H.set b b') := by
  have key : ∀ {b : Nat} {b' : Bk}, (∀ Hx, Compat H [] Hx → sStore2 T Hx o t (ρ a) (ρ x) fun H' => H' = Hx.set b b') → OpZ P H ρ o (.tup []) [] [(b, b')] := fun h => EEff.z fun Hx hc => by
    obtain ⟨H', h1, rfl⟩ := sStore2_eff hT ho (h Hx hc)
    exact h1
  unfold sStore2 at hk
  split at hk
  · next m b i k e hd hdx =>
    split at hk
    · next k' m' f hb =>
      split at hk
      · next hc =>
        refine ⟨b, _, by rw [hd]; rfl, (List.getElem?_eq_some_iff.1 hb).1, key fun Hx hx => ?_, hk⟩
        rw [hd, hdx]
        unfold sStore2
        simp only [hx.of (b := .arr k' m' f) (by simpa using hb) (by simp)]
        rw [if_pos hc]
        trivial
      · cases hk
    · cases hk
  · next b ver k m g hd hdx =>
    split at hk
    · next k' m' f hb =>
      split at hk
      · next hc =>
        refine ⟨b, _, by rw [hd]; rfl, (List.getElem?_eq_some_iff.1 hb).1, key fun Hx hx => ?_, hk⟩
        rw [hd, hdx]
        unfold sStore2
        simp only [hx.of (b := .arr k' m' f) (by simpa using hb) (by simp)]
        rw [if_pos hc]
        trivial
      · cases hk
    · cases hk
  · exact sStore_z hT ho hk
theorem elemsOf_mono {H Hx : List Bk} (hc : Compat H [] Hx) {d : D} {n : Nat} {r : RE} {m : IE} (h : elemsOf H d = some (n, r, m)) : elemsOf Hx d = some (n, r, m) := by
  unfold elemsOf at h ⊢
  split at h
  · exact h
  · exact h
  · next n' b ver nb lo len =>
    split at h
    · next ty n2 ver2 r2 hb =>
      rw [hc.of (b := .row ty n2 ver2 r2) (by simpa using hb) (by simp)]
      exact h
    · cases h
  · cases h
theorem sAppend_z {P : Program} {T : Tab} {H : List Bk} {ρ : Operand → D} {o : Oper} (hT : T.ok P) {t : Nat} {s x : Operand} (ho : o.op = .call ⟨.builtin .append, #[s, x], #[t, t]⟩) {K : List Bk → D → Prop} (hs : ρ s ≠ .nils) (hk : sAppend T H o t (ρ s) (ρ x) K) : ∃ b b' d, blkOf (ρ s) = some b ∧ b < H.length ∧ OpZ P H ρ o d [] [(b, b')] ∧ K (H.set b b') d := by
  have key : ∀ {b : Nat} {b' : Bk} {d : D}, (∀ Hx, Compat H [] Hx → sAppend T Hx o t (ρ s) (ρ x) fun H' d' => H' = Hx.set b b' ∧ d' = d) → OpZ P H ρ o d [] [(b, b')] := fun h => EEff.z fun Hx hc => by
    obtain ⟨H', d', h1, rfl, rfl⟩ := sAppend_eff hT ho (h Hx hc)
    exact h1
  unfold sAppend at hk
  split at hk
  · next e sz by_ z n rx m ht hel =>
    have key2 : ∀ {Hx}, Compat H [] Hx → elemsOf Hx (ρ x) = some (n, rx, m) := fun hc => elemsOf_mono hc hel
    split at hk
    · next te hte =>
      split at hk
      · next hc =>
        split at hk
        · next hs' => exact absurd hs' hs
        · next n' bb ver nb len hs' =>
          split at hk
          · next ty n2 ver2 r hb =>
            split at hk
            · next hcc =>
              obtain ⟨hq, hk⟩ := ReqQ.get hk (fun hb => by
                simp only [Bool.and_eq_true, decide_eq_true_eq] at hb
                obtain ⟨k1, k2, k3⟩ := litsOK_spec hb.1.1
                obtain ⟨j1, j2, j3⟩ := litsOK_spec hb.1.2
                exact ⟨k1, j1, k2, j2, by omega, small_bytes (by omega) hb.2⟩)
              refine ⟨bb, _, _, by rw [hs']; rfl, (List.getElem?_eq_some_iff.1 hb).1, key fun Hx hx => ?_, hk⟩
              unfold sAppend
              simp only [ht, key2 hx, hte, hs', hx.of (b := .row ty n2 ver2 r) (by simpa using hb) (by simp)]
              rw [if_pos hc, if_pos hcc]
              exact ReqQ.put hq (by simp)
            · cases hk
          · cases hk
        · cases hk
      · cases hk
    · cases hk
  · cases hk
/-! A call that own blocks are given up to. -/
def Env.give (E : Env) (xs : List Nat) : Env := ⟨fun b => E.G b ∨ ∃ x ∈ xs, E.σ x = some b, fun y => if y ∈ xs then none else E.σ y, fun y => if y ∈ xs then E.κ y + 1 else E.κ y, E.ζ⟩
theorem Env.give_le (E : Env) (xs : List Nat) (w : World) : E.le w w (E.give xs) := ⟨fun _ h => .inl h, fun _ _ => rfl⟩
theorem Env.give_own (E : Env) (xs : List Nat) : E.own (E.give xs) := by
  refine ⟨fun b => ?_, fun b e => ?_⟩
  · simp only [Env.give]; split <;> omega
  · simp only [Env.give] at e ⊢
    split at e
    · omega
    · next q => rw [if_neg q]; refine ⟨?_, fun _ _ => ?_⟩ <;> first | rfl | trivial
def deadL (xs : List Nat) : Nat → Nat → List Bk
  | _, 0 => []
  | y, n + 1 => (if hasT xs y then .dead else .cells []) :: deadL xs (y + 1) n
theorem deadL_gone {xs : List Nat} : ∀ {n y x : Nat}, x < n → goneB (deadL xs y n) x = true → y + x ∈ xs
  | 0, _, _, h, _ => by omega
  | n + 1, y, 0, _, h => by
    simp only [deadL, goneB, List.getElem?_cons_zero] at h
    by_cases q : hasT xs y = true
    · exact hasT_spec.1 q
    · rw [if_neg q] at h; cases h
  | n + 1, y, x + 1, hx, h => by
    have : goneB (deadL xs (y + 1) n) x = true := by simpa [deadL, goneB] using h
    have := deadL_gone (by omega) this
    rwa [show y + 1 + x = y + (x + 1) by omega] at this
def deads (xs : List Nat) : List (Nat × Bk) := xs.map fun x => (x, .dead)
theorem setL_deads : ∀ (xs : List Nat) {H : List Bk} {x : Nat} {b : Bk}, (setL H (deads xs))[x]? = some b → b = .dead ∨ (x ∉ xs ∧ H[x]? = some b)
  | [], H, x, b, h => .inr ⟨by simp, h⟩
  | y :: r, H, x, b, h => by
    rcases setL_deads r (H := H.set y .dead) h with q | ⟨q1, q2⟩
    · exact .inl q
    · by_cases e : y = x
      · subst e
        rw [List.getElem?_set] at q2
        simp only [if_true] at q2
        split at q2
        · exact .inl (Option.some.inj q2).symm
        · cases q2
      · rw [List.getElem?_set_ne e] at q2
        exact .inr ⟨by simp [q1, Ne.symm e], q2⟩
theorem WRel.give {B : Base} {Hx : List Bk} {E : Env} {w : World} (hw : WRel B Hx E w) (xs : List Nat) (hx : ∀ x ∈ xs, x < Hx.length) : WRel B (setL Hx (deads xs)) (E.give xs) w := by
  have sub : ∀ {x c}, (E.give xs).σ x = some c → x ∉ xs ∧ E.σ x = some c := fun {x c} h => by
    simp only [Env.give] at h
    split at h
    · cases h
    · next q => exact ⟨q, h⟩
  refine ⟨fun x y c h1 h2 => hw.inj x y c (sub h1).2 (sub h2).2, fun x c h1 => ?_, fun b hb => ?_, fun x b' hb => ?_, fun x hx' => ?_, fun b hb => ?_, fun b hb => .inl (hw.g0 b hb), fun b hb => ?_, hw.bel, B.stab _ _ _ _ (E.give_le xs w) (E.give_own xs) hw.phi⟩
  · obtain ⟨h2, h3⟩ := sub h1
    obtain ⟨q1, q2, q3⟩ := hw.own x c h3
    refine ⟨q1, q2, fun q => ?_⟩
    rcases q with q | ⟨y, hy, hc⟩
    · exact q3 q
    · exact h2 (by rw [hw.inj x y c h3 hc]; exact hy)
  · simp only [Env.give] at hb ⊢
    split at hb
    · omega
    · next q => rw [if_neg q]; exact hw.wf b hb
  · rcases setL_deads xs hb with q | ⟨q1, q2⟩
    · subst q
      exact .inr ⟨trivial, fun _ _ => trivial, fun _ => trivial⟩
    · have e1 : (E.give xs).κ x = E.κ x := by simp [Env.give, q1]
      have e2 : (E.give xs).σ x = E.σ x := by simp [Env.give, q1]
      rw [e1, e2]
      rcases hw.heap x b' q2 with q | ⟨h1, h2, h3⟩
      · exact .inl q
      · exact .inr ⟨h1, fun c hc => (h2 c hc).move (E.give_le xs w) (E.give_own xs) rfl rfl, h3⟩
  · rw [setL_len] at hx'
    have : x ∉ xs := fun q => by have := hx x q; omega
    simp only [Env.give, if_neg this]
    exact hw.out x hx'
  · rcases hb with hb | ⟨x, _, hc⟩
    · exact hw.good b hb
    · exact (hw.own x b hc).2.1
  · rcases hb with hb | ⟨x, _, hc⟩
    · exact hw.gn b hb
    · exact .inr (hw.own x b hc).1
inductive GiveP (P : Program) (n : Nat) (args : List D) (H : List Bk) (xs : List Nat) (K : D → Prop) : Prop
  | mk (args' : List D) (d : D) (hp : Pure P n args' d) (hs : SnDs H (deadL xs 0 H.length) args args') (hd : args'.all (D.dataB 8) = true) (hk : K d)
theorem GiveP.z {P : Program} {H : List Bk} {ρ : Operand → D} {o : Oper} {f : Operand} {args : Array Operand} {ats : Array TypeId} (ho : o.op = .call ⟨.value f, args, ats⟩) {n : Nat} {first cap : List D} (hf : ρ f = .fn (.func n) first cap) {xs : List Nat} (hxs : ∀ x ∈ xs, x < H.length) {K : D → Prop}
    (h : GiveP P n (first ++ args.toList.map ρ ++ cap) H xs K) : ∃ d, OpZ P H ρ o d [] (deads xs) ∧ K d := by
  obtain ⟨args', d, hp, hs, hd, hk⟩ := h
  refine ⟨d, fun B Hx w E a hev hw hle hc hfr K' Q hK' => ?_, hk⟩
  obtain ⟨vs, hex, hl⟩ := call_eval (P := P) ho hf hp.1 hev
  unfold Oper.wp
  rw [hex]
  obtain ⟨h1, h2⟩ := hs.get
  have hxl : ∀ x ∈ xs, x < Hx.length := fun x hx => by have := hxs x hx; simp at hle; omega
  have hg := hw.give xs hxl
  have hH := hc.heap hw.heap
  refine (hp.2 w (E.give xs).G vs hg.laid hg.good ⟨by rw [← h1]; exact hl.1, fun i x v hx hv' => ?_⟩).mono ?_
  · have hlt := (List.getElem?_eq_some_iff.1 hx).1
    have hx0 : (first ++ args.toList.map ρ ++ cap)[i]? = some ((first ++ args.toList.map ρ ++ cap)[i]'(by omega)) := List.getElem?_eq_getElem (by omega)
    have := (h2 i _ x hx0 hx).rep hH (E.give_le xs w) (E.give_own xs) (fun y c hy hg hc => .inr ⟨y, by have := deadL_gone hy hg; rwa [Nat.zero_add] at this, hc⟩) (hl.2 i _ v hx0 hv')
    exact D.dataB_rep (E := E.give xs) (E' := Env.of (E.give xs).G) rfl 8 (List.all_eq_true.1 hd x (List.mem_of_getElem? hx)) this
  · rintro e w' ⟨v, G', rfl, q2, q3, q4, q5, q6⟩
    have k1 := hg.kept q2 q3 q4 q5
    refine hK' v w' ⟨G', (E.give xs).σ, (E.give xs).κ, (E.give xs).ζ⟩ k1 ?_ ?_ (fun x _ hx => ?_) (DRep.undata (E := ⟨G', (E.give xs).σ, (E.give xs).κ, (E.give xs).ζ⟩) k1.wf q6)
    · have := Below.le_env (E := E) (G' := G') q2 hw.good fun b hb => q3 b (.inl hb)
      exact ⟨this.G, this.heap⟩
    · obtain ⟨g1, g2⟩ := E.give_own xs
      exact ⟨g1, g2⟩
    · have : x ∉ xs := fun q => hx .dead (by simp [deads, q])
      simp [Env.give, this]
/-! A store of an own row, which is given up: behind it what it held is data. -/
inductive StoreG (T : Tab) (Hm : List Bk) (o : Oper) (t : Nat) (a x : D) (x0 y0 : Nat) (K : D → List (Nat × Bk) → Prop) : Prop
  | mk (d' : D) (hs : SnD Hm (deadL [y0] 0 Hm.length) x d') (hk : sStore2 T (Hm.set y0 .dead) o t a d' fun H' => K (.tup []) [(y0, .dead), (x0, H'.getD x0 .dead)])
theorem OwnTrans {E E1 E2 : Env} (h : E.own E1) (h2 : E1.own E2) : E.own E2 := by
  refine ⟨fun b => Nat.le_trans (h.κ b) (h2.κ b), fun b e => ?_⟩
  have q1 := h.κ b
  have q2 := h2.κ b
  obtain ⟨a1, a2⟩ := h.σ b (by omega)
  obtain ⟨b1, b2⟩ := h2.σ b (by omega)
  exact ⟨b1.trans a1, fun c hc => (b2 c (a1.trans hc)).trans (a2 c hc)⟩
def tmpNe : Operand → Operand → Bool
  | .tmp i, .tmp j => if i = j then false else true
  | _, _ => false
theorem tmpNe_spec {a x : Operand} (h : tmpNe a x = true) : x ≠ a := by
  intro e
  subst e
  unfold tmpNe at h
  split at h
  · simp at h
  · cases h
theorem StoreG.z {P : Program} {T : Tab} {H : List Bk} {ρ : Operand → D} {o : Oper} (hT : T.ok P) {t : Nat} {a x : Operand} (ho : o.op = .store t a x) (hne : tmpNe a x = true) {x0 y0 : Nat} (hb : blkOf (ρ a) = some x0) (hxy : x0 ≠ y0) (hy : y0 < H.length) {K : D → List (Nat × Bk) → Prop}
    (h : StoreG T H o t (ρ a) (ρ x) x0 y0 K) : ∃ d md, OpZ P H ρ o d [] md ∧ (∀ p ∈ md, p.1 ∈ [x0, y0] ∧ p.1 < H.length) ∧ K d md := by
  obtain ⟨d', hs, hk⟩ := h
  have hxa := tmpNe_spec hne
  classical
  obtain ⟨ρ', hρ⟩ : ∃ ρ' : Operand → D, ρ' = fun z => if z = x then d' else if z = a then ρ a else .junk := ⟨_, rfl⟩
  have r1 : ρ' x = d' := by rw [hρ]; simp
  have r2 : ρ' a = ρ a := by rw [hρ]; simp only; rw [if_neg (Ne.symm hxa)]; exact if_pos trivial
  obtain ⟨b, b', h1, h2, h3, h4⟩ := sStore2_z (ρ := ρ') hT ho (by rw [r1, r2]; exact hk)
  rw [r2, hb] at h1
  cases h1
  rw [List.getD_eq_getElem?_getD, List.getElem?_set_self h2] at h4
  rw [List.length_set] at h2
  refine ⟨_, _, fun B Hx w E av hev hw hle hc hfr K' Q hK' => ?_, fun p hp => ?_, h4⟩
  · have hxl : ∀ z ∈ [y0], z < Hx.length := fun z hz => by simp only [List.mem_singleton] at hz; subst hz; simp at hle; omega
    have hg := hw.give [y0] hxl
    have hH := hc.heap hw.heap
    refine h3 B (setL Hx (deads [y0])) w (E.give [y0]) av (fun z => ?_) hg (by rw [setL_len]; simpa using hle) (fun z bz hz => ?_) (fun z h1 h2 => absurd h2 (by simp at h1 ⊢; omega)) K' Q fun v w' E' k1 k2 k3 k4 k5 => ?_
    · rw [hρ]
      simp only
      split
      · next e =>
        subst e
        exact hs.rep hH (E.give_le [y0] w) (E.give_own [y0]) (fun z c hz hg hc => .inr ⟨z, by have := deadL_gone hz hg; rwa [Nat.zero_add] at this, hc⟩) (hev _)
      · split
        · next e =>
          subst e
          exact (hev _).move (E.give_le [y0] w) (E.give_own [y0])
        · exact .junk
    · simp only [deads, List.map_cons, List.map_nil, setL, List.append_nil] at hz ⊢
      by_cases e : y0 = z
      · subst e
        rw [List.getElem?_set_self hy] at hz
        simp only [Option.some.injEq] at hz
        exact .inl hz.symm
      · rw [List.getElem?_set_ne e] at hz ⊢
        exact hc z bz (by simpa using hz)
    · refine hK' v w' E' (by simpa [deads, setL] using k1) ⟨fun b hb => k2.G b ((E.give_le [y0] w).G b hb), fun b hb => k2.heap b ((E.give_le [y0] w).G b hb)⟩ (OwnTrans (E.give_own [y0]) k3) (fun z hz hn => ?_) k5
      have hzy : z ≠ y0 := fun e => hn .dead (by simp [e])
      have hzx : z ≠ x0 := fun e => hn b' (by simp [e])
      obtain ⟨q1, q2⟩ := k4 z (by simpa using hz) (fun b hb => by simp at hb; exact hzx hb.1)
      rw [q1, q2]
      simp [Env.give, hzy]
  · simp only [List.mem_cons, List.not_mem_nil, or_false] at hp
    rcases hp with e | e
    · subst e; exact ⟨by simp, hy⟩
    · subst e; exact ⟨by simp, h2⟩
/-! The operations of a region, each seen in the order of the text. -/
def readsF (ops : Array Oper) : Bool := (List.range ops.size).all fun i => match ops[i]? with
  | none => true
  | some o => (List.range ops.size).all fun j => match (ops[j]?).bind (·.dst) with
    | none => true
    | some t => if o.op.operands.any (isT t) then (if reach ops 6 j i then true else reach ops 6 i j) else true
def dstF (ops : Array Oper) : Bool := (List.range ops.size).all fun i => (List.range ops.size).all fun j => if i = j then true else match (ops[i]?).bind (·.dst), (ops[j]?).bind (·.dst) with
  | some t, some t' => if t = t' then false else true
  | _, _ => true
def meets : List Nat → List Nat → Bool
  | [], _ => false
  | x :: r, l => if hasT l x then true else meets r l
def ordF (ops : Array Oper) (mods : List (Nat × List Nat)) : Bool := (List.range ops.size).all fun i => (List.range ops.size).all fun j => if i < j then (if meets (touch mods i) (touch mods j) then reach ops 6 i j else true) else true
def footOK (ops : Array Oper) (mods : List (Nat × List Nat)) : Bool := tailWB .any ops ops.size && readsF ops && dstF ops && ordF ops mods
def within (lo hi : Nat) : List Nat → Bool
  | [] => false
  | x :: r => if lo ≤ x then (if x < hi then true else within lo hi r) else within lo hi r
def freshOK (ops : Array Oper) (mods : List (Nat × List Nat)) (k lo hi : Nat) : Bool := (List.range ops.size).all fun j => if within lo hi (touch mods j) then reach ops 6 k j else true
theorem meets_spec : ∀ {l m : List Nat} {x : Nat}, x ∈ l → x ∈ m → meets l m = true
  | [], _, _, h, _ => by cases h
  | y :: r, m, x, h, h2 => by
    unfold meets
    split
    · rfl
    · next q =>
      rcases List.mem_cons.1 h with rfl | h
      · exact absurd (hasT_spec.2 h2) q
      · exact meets_spec h h2
theorem within_spec {lo hi : Nat} : ∀ {l : List Nat} {x : Nat}, x ∈ l → lo ≤ x → x < hi → within lo hi l = true
  | [], _, h, _, _ => by cases h
  | y :: r, x, h, h1, h2 => by
    unfold within
    rcases List.mem_cons.1 h with rfl | h
    · rw [if_pos h1, if_pos h2]
    · split
      · split
        · rfl
        · exact within_spec h h1 h2
      · exact within_spec h h1 h2
/-- an operation that writes own blocks, or gives them up -/
def vopm (P : Program) (cx : Cx) (o : Oper) (fr : Fr) (Hm : List Bk) (xs : List Nat) (K : D → List (Nat × Bk) → Prop) : Prop := match o.op with
  | .call ⟨.value f, args, _⟩ => (match fr.ev f with
    | .fn (.func n) first cap => if xs.all (fun x => decide (x < Hm.length)) then GiveP P n (first ++ args.toList.map fr.ev ++ cap) Hm xs fun d => K d (deads xs) else StuckP o []
    | _ => StuckP o (opnds fr o))
  | .store t a x => (match blkOf (fr.ev a), xs with
    | some b, [x0] => if b = x0 then sStore2 cx.T Hm o t (fr.ev a) (fr.ev x) fun H' => K (.tup []) [(x0, H'.getD x0 .dead)] else StuckP o []
    | some b, [x0, y0] => if b = x0 then (if x0 = y0 then StuckP o [] else (if y0 < Hm.length then (if tmpNe a x then StoreG cx.T Hm o t (fr.ev a) (fr.ev x) x0 y0 K else StuckP o []) else StuckP o [])) else StuckP o []
    | _, _ => StuckP o [])
  | .call ⟨.builtin .append, ⟨[s, x]⟩, ⟨[t, t']⟩⟩ => (match blkOf (fr.ev s), xs with
    | some b, [x0] => if b = x0 then (if t = t' then sAppend cx.T Hm o t (fr.ev s) (fr.ev x) fun H' d => K d [(x0, H'.getD x0 .dead)] else StuckP o []) else StuckP o []
    | _, _ => StuckP o [])
  | _ => StuckP o []
def loadB : Op → Bool
  | .load .. => true
  | _ => false
def vfoot (P : Program) (cx : Cx) (ops : Array Oper) (mods : List (Nat × List Nat)) : Nat → List Oper → Fr → List Bk → (Fr → List Bk → Prop) → Prop
  | _, [], fr, H, K => K fr H
  | i, o :: os, fr, H, K => match o.guard with
    | some _ => StuckP o []
    | none => match touch mods i with
      | [] => vopq P cx (baseB ops o) o fr (maskH (allM mods) [] 0 H) fun fr' Hm => if freshOK ops mods i H.length Hm.length then vfoot P cx ops mods (i + 1) os fr' (H ++ Hm.drop H.length) K else StuckP o []
      | x :: xs => if loadB o.op then vopq P cx (baseB ops o) o fr (maskH (allM mods) (x :: xs) 0 H) fun fr' Hm => if freshOK ops mods i H.length Hm.length then vfoot P cx ops mods (i + 1) os fr' (H ++ Hm.drop H.length) K else StuckP o []
        else if dstB cx.nt o.dst then vopm P cx o fr (maskH (allM mods) (x :: xs) 0 H) (x :: xs) fun d md => vfoot P cx ops mods (i + 1) os (fr.put o.dst d) (setL H md) K else StuckP o []
structure YS where
  fr : Fr
  H : List Bk
  d : D
  nw : List Bk
  md : List (Nat × Bk)
inductive YT (P : Program) (cx : Cx) (ops : Array Oper) (mods : List (Nat × List Nat)) : Nat → List Oper → Fr → List Bk → List YS → Fr → List Bk → Prop
  | nil {i fr H} : YT P cx ops mods i [] fr H [] fr H
  | cons {i o os fr H d nw md tr fr' H'} (hg : o.guard = none) (hd : dstB cx.nt o.dst = true) (hop : OpZ P (maskH (allM mods) (touch mods i) 0 H) (res o fr.ev) o d nw md) (hmd : ∀ p ∈ md, p.1 ∈ touch mods i ∧ p.1 < H.length)
      (hnw : ∀ x, H.length ≤ x → x < H.length + nw.length → ∀ j, j < ops.size → x ∈ touch mods j → reach ops 6 i j = true) (rest : YT P cx ops mods (i + 1) os (fr.put o.dst d) (setL (H ++ nw) md) tr fr' H') : YT P cx ops mods i (o :: os) fr H (⟨fr, H, d, nw, md⟩ :: tr) fr' H'
section
variable {P : Program} {cx : Cx} {ops : Array Oper} {mods : List (Nat × List Nat)}
theorem vopm_z (hT : cx.T.ok P) {o : Oper} {fr : Fr} {Hm : List Bk} {xs : List Nat} {K : D → List (Nat × Bk) → Prop} (hk : vopm P cx o fr Hm xs K) : ∃ d md, OpZ P Hm (res o fr.ev) o d [] md ∧ (∀ p ∈ md, p.1 ∈ xs ∧ p.1 < Hm.length) ∧ K d md := by
  unfold vopm at hk
  split at hk
  · next f args ats ho =>
    split at hk
    · next n first cap hf =>
      split at hk
      · next hx =>
        have hx' : ∀ x ∈ xs, x < Hm.length := fun x hm => of_decide_eq_true (List.all_eq_true.1 hx x hm)
        have e1 : res o fr.ev f = .fn (.func n) first cap := by rw [res_in (by rw [ho]; simp [Op.operands, Call.operands]), hf]
        have e2 : args.toList.map (res o fr.ev) = args.toList.map fr.ev := List.map_congr_left fun x hx => res_in (by rw [ho]; simp only [Op.operands, Call.operands]; simp; exact .inr (by simpa using hx))
        obtain ⟨d, h1, h2⟩ := GiveP.z ho e1 hx' (by rw [e2]; exact hk)
        exact ⟨d, _, h1, fun p hp => by simp only [deads, List.mem_map] at hp; obtain ⟨x, hx, rfl⟩ := hp; exact ⟨hx, hx' x hx⟩, h2⟩
      · cases hk
    · cases hk
  · next t a x ho =>
    split at hk
    · next b x0 hb =>
      split at hk
      · next e =>
        subst e
        have e1 : res o fr.ev a = fr.ev a := res_in (by rw [ho]; simp [Op.operands])
        have e2 : res o fr.ev x = fr.ev x := res_in (by rw [ho]; simp [Op.operands])
        obtain ⟨b1, b', h1, h2, h3, h4⟩ := sStore2_z (ρ := res o fr.ev) hT ho (by rw [e1, e2]; exact hk)
        rw [e1, hb] at h1
        cases h1
        rw [List.getD_eq_getElem?_getD, List.getElem?_set_self h2] at h4
        exact ⟨_, _, h3, fun p hp => by simp only [List.mem_singleton] at hp; subst hp; exact ⟨by simp, h2⟩, h4⟩
      · cases hk
    · next b x0 y0 hb =>
      split at hk
      · next e =>
        subst e
        split at hk
        · cases hk
        · next hxy =>
          split at hk
          · next hy =>
            split at hk
            · next hne =>
              have e1 : res o fr.ev a = fr.ev a := res_in (by rw [ho]; simp [Op.operands])
              have e2 : res o fr.ev x = fr.ev x := res_in (by rw [ho]; simp [Op.operands])
              exact StoreG.z hT ho hne (by rw [e1]; exact hb) hxy hy (by rw [e1, e2]; exact hk)
            · cases hk
          · cases hk
      · cases hk
    · cases hk
  · next s x t t' ho =>
    split at hk
    · next b x0 hb =>
      split at hk
      · next e =>
        subst e
        split at hk
        · next e =>
          subst e
          have e1 : res o fr.ev s = fr.ev s := res_in (by rw [ho]; simp [Op.operands, Call.operands])
          have e2 : res o fr.ev x = fr.ev x := res_in (by rw [ho]; simp [Op.operands, Call.operands])
          obtain ⟨b1, b', d, h1, h2, h3, h4⟩ := sAppend_z (ρ := res o fr.ev) hT ho (by rw [e1]; intro q; rw [q] at hb; cases hb) (by rw [e1, e2]; exact hk)
          rw [e1, hb] at h1
          cases h1
          rw [List.getD_eq_getElem?_getD, List.getElem?_set_self h2] at h4
          exact ⟨_, _, h3, fun p hp => by simp only [List.mem_singleton] at hp; subst hp; exact ⟨by simp, h2⟩, h4⟩
        · cases hk
      · cases hk
    · cases hk
  · cases hk
theorem vfoot_yt (hT : cx.T.ok P) : ∀ (os : List Oper) {i : Nat} {fr : Fr} {H : List Bk} {K : Fr → List Bk → Prop}, vfoot P cx ops mods i os fr H K → ∃ tr fr' H', YT P cx ops mods i os fr H tr fr' H' ∧ K fr' H'
  | [], i, fr, H, K, hk => ⟨[], fr, H, .nil, hk⟩
  | o :: os, i, fr, H, K, hk => by
    unfold vfoot at hk
    split at hk
    · cases hk
    · next hg =>
      split at hk
      · next ht =>
        obtain ⟨t, d, nw, h1, h2, h3, h4⟩ := vopq_trace hT hk
        simp only [List.length_append, maskH_len] at h4
        split at h4
        · next hf =>
          rw [← maskH_len (allM mods) [] 0 H, List.drop_left] at h4
          obtain ⟨tr, fr', H', h5, h6⟩ := vfoot_yt hT os h4
          refine ⟨_, fr', H', .cons hg (by rw [h1]; simpa [dstB] using h2) (by rw [ht]; exact h3.z) (fun p hp => by cases hp) (fun x hx1 hx2 j hj hxj => ?_) (by rw [h1]; exact h5), h6⟩
          unfold freshOK at hf
          have := List.all_eq_true.1 hf j (List.mem_range.2 hj)
          rwa [if_pos (within_spec hxj hx1 hx2)] at this
        · cases h4
      · next x xs ht =>
        split at hk
        · obtain ⟨t, d, nw, h1, h2, h3, h4⟩ := vopq_trace hT hk
          simp only [List.length_append, maskH_len] at h4
          split at h4
          · next hf =>
            rw [← maskH_len (allM mods) (x :: xs) 0 H, List.drop_left] at h4
            obtain ⟨tr, fr', H', h5, h6⟩ := vfoot_yt hT os h4
            refine ⟨_, fr', H', .cons hg (by rw [h1]; simpa [dstB] using h2) (by rw [ht]; exact h3.z) (fun p hp => by cases hp) (fun x hx1 hx2 j hj hxj => ?_) (by rw [h1]; exact h5), h6⟩
            unfold freshOK at hf
            have := List.all_eq_true.1 hf j (List.mem_range.2 hj)
            rwa [if_pos (within_spec hxj hx1 hx2)] at this
          · cases h4
        split at hk
        · next hd =>
          obtain ⟨d, md, h1, h2, h3⟩ := vopm_z hT hk
          obtain ⟨tr, fr', H', h5, h6⟩ := vfoot_yt hT os h3
          refine ⟨_, fr', H', .cons (nw := []) hg hd (by rw [ht]; exact h1) (fun p hp => by have := h2 p hp; rw [maskH_len] at this; rw [ht]; exact this) (fun x hx1 hx2 => by simp at hx2; omega) (by rw [List.append_nil]; exact h5), h6⟩
        · cases hk
def mdsOf (tr : List YS) : List (Nat × Bk) := (tr.map (·.md)).flatten
def nwsOf (tr : List YS) : List Bk := (tr.map (·.nw)).flatten
theorem YT.get {i0 : Nat} {os : List Oper} {fr fr' : Fr} {H H' : List Bk} {tr : List YS} (h : YT P cx ops mods i0 os fr H tr fr' H') : (∀ (a b : Nat) oa ob t, os[a]? = some oa → os[b]? = some ob → oa.dst = some t → ob.dst = some t → a = b) →
    tr.length = os.length ∧
    (∀ (k : Nat) s, tr[k]? = some s → ∃ o, os[k]? = some o ∧ o.guard = none ∧ dstB cx.nt o.dst = true ∧ OpZ P (maskH (allM mods) (touch mods (i0 + k)) 0 s.H) (res o s.fr.ev) o s.d s.nw s.md ∧ (∀ p ∈ s.md, p.1 ∈ touch mods (i0 + k) ∧ p.1 < s.H.length) ∧
      (∀ x, s.H.length ≤ x → x < s.H.length + s.nw.length → ∀ j, j < ops.size → x ∈ touch mods j → reach ops 6 (i0 + k) j = true) ∧ (∃ p, setL (H ++ nwsOf tr) (mdsOf (tr.take k)) = s.H ++ s.nw ++ p) ∧ (H.length ≤ s.H.length) ∧
      (∀ (j : Nat) s', j < k → tr[j]? = some s' → s'.H.length + s'.nw.length ≤ s.H.length) ∧
      (∀ t, (∀ (j : Nat) o', j < k → os[j]? = some o' → o'.dst ≠ some t) → s.fr.get t = fr.get t) ∧ (∀ t (j : Nat) s' o', j < k → tr[j]? = some s' → os[j]? = some o' → o'.dst = some t → s.fr.get t = s'.d)) ∧
    H' = setL (H ++ nwsOf tr) (mdsOf tr) ∧ (∀ t, (∀ (j : Nat) o', os[j]? = some o' → o'.dst ≠ some t) → fr'.get t = fr.get t) ∧ (∀ t (j : Nat) s' o', tr[j]? = some s' → os[j]? = some o' → o'.dst = some t → fr'.get t = s'.d) := by
  induction h with
  | nil => exact fun _ => ⟨rfl, fun k s hs => by simp at hs, by simp [nwsOf, mdsOf, setL], fun _ _ => rfl, fun t j s' o' hs => by simp at hs⟩
  | @cons i o os fr H d nw md tr fr' H' hg hd hop hmd hnw rest ih =>
    intro hu
    obtain ⟨h1, h2, h3, h4, h5⟩ := ih fun a b oa ob t q1 q2 q3 q4 => by
      have := hu (a + 1) (b + 1) oa ob t (by simpa using q1) (by simpa using q2) q3 q4
      omega
    have hput : ∀ t, o.dst ≠ some t → (fr.put o.dst d).get t = fr.get t := fun t ht => by
      unfold Fr.put
      split
      · next t' e => rw [Fr.get_set, if_neg fun q => ht (by rw [e, q])]
      · rfl
    have hput2 : ∀ t, o.dst = some t → (fr.put o.dst d).get t = d := fun t ht => by
      rw [ht]; simp [Fr.put, Fr.get_set]
    have hbase : setL (H ++ nwsOf (⟨fr, H, d, nw, md⟩ :: tr)) md = setL (H ++ nw) md ++ nwsOf tr := by
      rw [← setL_app md fun p hp => by have := (hmd p hp).2; simp; omega]
      simp [nwsOf]
    have hnot : ∀ t, o.dst = some t → ∀ (j : Nat) o', os[j]? = some o' → o'.dst ≠ some t := fun t ht j o' ho' e => by
      have := hu 0 (j + 1) o o' t rfl (by simpa using ho') ht e
      omega
    refine ⟨by simp [h1], fun k s hs => ?_, ?_, fun t ht => ?_, fun t j s' o' hs ho' hd' => ?_⟩
    · cases k with
      | zero =>
        simp only [List.getElem?_cons_zero, Option.some.injEq] at hs
        subst hs
        exact ⟨o, rfl, hg, hd, hop, hmd, hnw, ⟨nwsOf tr, by simp [mdsOf, setL, nwsOf]⟩, Nat.le_refl _, fun j s' hj => by omega, fun t _ => rfl, fun t j s' o' hj => by omega⟩
      | succ k =>
        simp only [List.getElem?_cons_succ] at hs
        obtain ⟨o1, g1, g2, g3, g4, g5, g6, ⟨p, g7⟩, g8, g9, g10, g11⟩ := h2 k s hs
        have e0 : i + 1 + k = i + (k + 1) := by omega
        rw [setL_len, List.length_append] at g8
        refine ⟨o1, by simpa using g1, g2, g3, by rw [← e0]; exact g4, by rw [← e0]; exact g5, by rw [← e0]; exact g6, ⟨p, ?_⟩, by omega, fun j s' hj hs' => ?_, fun t ht => ?_, fun t j s' o' hj hs' ho' hd' => ?_⟩
        · rw [← g7]
          simp only [List.take_succ_cons, mdsOf, List.map_cons, List.flatten_cons, setL_cat]
          rw [hbase]
        · cases j with
          | zero =>
            simp only [List.getElem?_cons_zero, Option.some.injEq] at hs'
            subst hs'
            exact g8
          | succ j => exact g9 j s' (by omega) (by simpa using hs')
        · rw [g10 t fun j o' hj ho' => ht (j + 1) o' (by omega) (by simpa using ho')]
          exact hput t (ht 0 o (by omega) rfl)
        · cases j with
          | zero =>
            simp only [List.getElem?_cons_zero, Option.some.injEq] at hs' ho'
            subst hs' ho'
            rw [g10 t fun j o' _ ho' => hnot t hd' j o' ho']
            exact hput2 t hd'
          | succ j => exact g11 t j s' o' (by omega) (by simpa using hs') (by simpa using ho') hd'
    · rw [h3]
      simp only [mdsOf, List.map_cons, List.flatten_cons, setL_cat]
      rw [hbase]
    · rw [h4 t fun j o' ho' => ht (j + 1) o' (by simpa using ho')]
      exact hput t (ht 0 o rfl)
    · cases j with
      | zero =>
        simp only [List.getElem?_cons_zero, Option.some.injEq] at hs ho'
        subst hs ho'
        rw [h4 t fun j o' ho' => hnot t hd' j o' ho']
        exact hput2 t hd'
      | succ j => exact h5 t j s' o' (by simpa using hs) (by simpa using ho') hd'
theorem reach_lt (T : TailW .any ops ops.size) : ∀ (f i j : Nat), reach ops f i j = true → i < j
  | 0, _, _, h => by cases h
  | f + 1, i, j, h => by
    unfold reach at h
    split at h
    · cases h
    · next o ho =>
      split at h
      · next hw =>
        obtain ⟨e, he, hb, rfl⟩ := waitsOn_spec hw
        exact T.back j o ho e he hb
      · obtain ⟨e, he, hp⟩ := anyE_spec h
        split at hp
        · next hb =>
          have := reach_lt T f i e.on hp
          have := T.back j o ho e (Array.mem_toList_iff.1 he) hb
          omega
        · cases hp
theorem mdsOf_take_succ {tr : List YS} {k : Nat} {s : YS} (h : tr[k]? = some s) : mdsOf (tr.take (k + 1)) = mdsOf (tr.take k) ++ s.md := by
  unfold mdsOf
  rw [List.take_add_one, h]
  simp
theorem FootP.intro {fr : Fr} {H : List Bk} {K : Fr → List Bk → Prop} (hT : cx.T.ok P) (hm : P.follows .mixedOrders = true) (mods : List (Nat × List Nat)) (hok : footOK ops mods = true) (h : vfoot P cx ops mods 0 ops.toList fr H K) : FootP P cx ops fr H K := by
  refine ⟨fun B E a w hnt hh0 hr Q hQ id => ?_⟩
  obtain ⟨tr, fr', H', ht, hK⟩ := vfoot_yt hT _ h
  unfold footOK at hok
  simp only [Bool.and_eq_true] at hok
  obtain ⟨⟨⟨ok1, ok2⟩, ok3⟩, ok4⟩ := hok
  have T := tailWB_spec ok1
  obtain ⟨n, hn⟩ : ∃ n, n = ops.size := ⟨_, rfl⟩
  have hlt : ∀ {j : Nat} {o : Oper}, ops[j]? = some o → j < n := fun ho => by rw [hn]; exact (Array.getElem?_eq_some_iff.1 ho).1
  have uniq : ∀ (a b : Nat) oa ob t, ops[a]? = some oa → ops[b]? = some ob → oa.dst = some t → ob.dst = some t → a = b := fun a b oa ob t q1 q2 q3 q4 => by
    unfold dstF at ok3
    have k1 := List.all_eq_true.1 (List.all_eq_true.1 ok3 a (List.mem_range.2 (by rw [← hn]; exact hlt q1))) b (List.mem_range.2 (by rw [← hn]; exact hlt q2))
    by_cases e : a = b
    · exact e
    · rw [if_neg e, q1, q2] at k1
      simp only [Option.bind_some, q3, q4, if_true] at k1
      cases k1
  have reads : ∀ {i j : Nat} {o oj : Oper} {t : Nat}, ops[i]? = some o → ops[j]? = some oj → oj.dst = some t →   .tmp t ∈ o.op.operands → reach ops 6 j i = true ∨ reach ops 6 i j = true := fun {i j o oj t} q1 q2 q3 q4 => by
    unfold readsF at ok2
    have k1 := List.all_eq_true.1 ok2 i (List.mem_range.2 (by rw [← hn]; exact hlt q1))
    rw [q1] at k1
    have k2 := List.all_eq_true.1 k1 j (List.mem_range.2 (by rw [← hn]; exact hlt q2))
    rw [q2] at k2
    simp only [Option.bind_some, q3] at k2
    rw [if_pos (Array.any_eq_true'.2 ⟨.tmp t, q4, by simp [isT]⟩)] at k2
    split at k2
    · next h => exact .inl h
    · exact .inr k2
  have ord : ∀ {i j x : Nat}, i < j → j < n → x ∈ touch mods i → x ∈ touch mods j → reach ops 6 i j = true := fun {i j x} q1 q2 q3 q4 => by
    unfold ordF at ok4
    have k1 := List.all_eq_true.1 (List.all_eq_true.1 ok4 i (List.mem_range.2 (by omega))) j (List.mem_range.2 (by omega))
    rwa [if_pos q1, if_pos (meets_spec q3 q4)] at k1
  obtain ⟨g1, g2, g3, g4, g5⟩ := ht.get fun a b oa ob t q1 q2 => uniq a b oa ob t (by simpa using q1) (by simpa using q2)
  simp only [Nat.zero_add, Array.getElem?_toList] at g2 g4 g5
  have htl : tr.length = n := by rw [g1, hn]; simp
  obtain ⟨Hb, hHb⟩ : ∃ Hb, Hb = H ++ nwsOf tr := ⟨_, rfl⟩
  rw [← hHb] at g2 g3
  have hget : ∀ {i : Nat} {o : Oper}, ops[i]? = some o → ∃ s, tr[i]? = some s := fun ho => ⟨_, List.getElem?_eq_getElem (by rw [htl]; exact hlt ho)⟩
  -- what the blocks hold behind k operations, in the order of the text
  have mdM : ∀ {k : Nat} {x : Nat}, (∀ j, j < k → x ∉ touch mods j) → ∀ b, (x, b) ∉ mdsOf (tr.take k) := fun {k x} hx b hb => by
    unfold mdsOf at hb
    simp only [List.mem_flatten, List.mem_map] at hb
    obtain ⟨_, ⟨s, hs, rfl⟩, hb⟩ := hb
    obtain ⟨j, hj⟩ := List.getElem?_of_mem hs
    have hjk : j < k := by have := (List.getElem?_eq_some_iff.1 hj).1; simp at this; omega
    rw [List.getElem?_take, if_pos hjk] at hj
    obtain ⟨_, _, _, _, _, k5, _⟩ := g2 j s hj
    exact hx j hjk (k5 _ hb).1
  have stab : ∀ (d : Nat) {a x : Nat}, a + d ≤ n → (∀ j, a ≤ j → j < a + d → x ∉ touch mods j) → (setL Hb (mdsOf (tr.take (a + d))))[x]? = (setL Hb (mdsOf (tr.take a)))[x]? := by
    intro d
    induction d with
    | zero => exact fun _ _ => rfl
    | succ d ih =>
      intro a x had hx
      obtain ⟨s, hs⟩ : ∃ s, tr[a + d]? = some s := ⟨_, List.getElem?_eq_getElem (by omega)⟩
      rw [show a + (d + 1) = (a + d) + 1 by omega, mdsOf_take_succ hs, setL_cat, setL_out _ _ _ fun b hb => ?_]
      · exact ih (by omega) fun j h1 h2 => hx j h1 (by omega)
      · obtain ⟨_, _, _, _, _, k5, _⟩ := g2 _ s hs
        exact hx (a + d) (by omega) (by omega) (k5 _ hb).1
  let J : List Nat → Act → World → Prop := fun U a' w' => ∃ E' Hx, WRel B Hx E' w' ∧ Hx.length = Hb.length ∧ (∀ x, x ∉ allM mods → Hx[x]? = Hb[x]?) ∧
    (∀ x, x ∈ allM mods → ∀ k, k ≤ n → (∀ j, j < k → x ∈ touch mods j → j ∉ U) → (∀ j, k ≤ j → j < n → x ∈ touch mods j → j ∈ U) → Hx[x]? = (setL Hb (mdsOf (tr.take k)))[x]?) ∧ a'.tmps.size = B.nt ∧ a'.defers = B.df ∧
    (∀ t, (∀ (j : Nat) (o : Oper), j ∉ U → ops[j]? = some o → o.dst ≠ some t) → DRep w' E' (fr.get t) (a'.tmps.getD t undef)) ∧ (∀ (j : Nat) (s : YS) (o : Oper) (t : Nat), j ∉ U → tr[j]? = some s → ops[j]? = some o → o.dst = some t → DRep w' E' s.d (a'.tmps.getD t undef)) ∧
    (∀ (j : Nat) (s : YS), j ∈ U → tr[j]? = some s → Fresh E' s.H.length (s.H.length + s.nw.length)) ∧ (∀ (j : Nat) (o : Oper), j ∉ U → ops[j]? = some o → ∀ e ∈ o.after, Region.binds .any e = true → e.on ∉ U)
  refine wp_region_any hm ?_
  rw [show wpAny P .any ops Q ops.size = wpAny P .any ops Q (n + 0) by rw [hn]; rfl]
  rw [← hn] at T
  refine wpAny_joint T J ?_ ?_ n (List.range n) _ a w.drew (by simp) List.nodup_range (by simp) (fun t => ?_) (fun t ht => by simpa using ht) (fun j o' hj hjn => absurd (List.mem_range.2 hj) hjn) ?_
  · intro U i o hUnd hiU hin ho hwait a' w' ⟨E', Hx, q1, q2, q3, q4, q5, q6, q7, q8, q9, q10⟩
    obtain ⟨s, hs⟩ := hget ho
    obtain ⟨o1, k1, k2, k3, k4, k5, k6, ⟨p, k7⟩, k8, k9, k10, k11⟩ := g2 i s hs
    rw [ho] at k1
    cases k1
    have hS : ∀ (j : Nat) (o : Oper), (j ∉ U) → ops[j]? = some o → ∀ e ∈ o.after, Region.binds .any e = true → e.on ∉ U := q10
    have rdy : ∀ {j}, reach ops 6 j i = true → j ∉ U := fun hr => reach_ready (S := fun j => j ∉ U) hS hr ho hwait
    have rch : ∀ {j}, reach ops 6 i j = true → j ∈ U := fun {j} hr => Classical.byContradiction fun q => reach_spec (S := fun j => j ∉ U) hS 6 i j hr q hiU
    have rlt : ∀ {f i j}, reach ops f i j = true → i < j := fun {f i j} hr => reach_lt (by rw [← hn]; exact T) f i j hr
    have cur : ∀ x, x ∈ touch mods i → Hx[x]? = (setL Hb (mdsOf (tr.take i)))[x]? := fun x hx => q4 x (touch_allM hx) i (by omega) (fun j hj hxj => rdy (ord hj hin hxj hx)) (fun j hj hjn hxj => by
      rcases Nat.lt_or_ge i j with q | q
      · exact rch (ord q hjn hx hxj)
      · rw [show j = i by omega]; exact hiU)
    have free : ∀ x, x ∉ allM mods → Hx[x]? = (setL Hb (mdsOf (tr.take i)))[x]? := fun x hx => by
      rw [q3 x hx, setL_out _ _ _ (mdM fun j _ q => hx (touch_allM q))]
    have hbl : (s.H ++ s.nw).length ≤ Hx.length := by
      have := congrArg List.length k7
      rw [setL_len] at this
      simp at this ⊢
      omega
    unfold wpOp
    rw [ho]
    simp only
    rw [show Region.wanted o (yielded ops a'.tmps) = true by unfold Region.wanted; rw [k2], if_pos rfl]
    refine .inl (k4 B Hx w' E' a' (fun x => ?_) q1 (by rw [List.length_append, maskH_len, ← List.length_append]; exact hbl) (fun x b hx => ?_) (by rw [maskH_len]; exact q9 i s hiU hs) _ Q fun v w2 E2 m1 m2 m3 m4 m5 => ?_)
    · unfold res
      split
      · next hx =>
        cases x with
        | tmp t =>
          show DRep w' E' (s.fr.get t) (a'.tmps.getD t undef)
          by_cases q : ∃ (j : Nat) (oj : Oper), ops[j]? = some oj ∧ oj.dst = some t
          · obtain ⟨j, oj, hj, hd⟩ := q
            obtain ⟨sj, hsj⟩ := hget hj
            rcases reads ho hj hd hx with hrj | hrj
            · rw [k11 t j sj oj (rlt hrj) hsj hj hd]
              exact q8 j sj oj t (rdy hrj) hsj hj hd
            · have hij := rlt hrj
              rw [k10 t fun j' o' hj' ho' hd' => by
                have := uniq j' j o' oj t ho' hj hd' hd
                omega]
              exact q7 t fun j' o' hj' ho' hd' => hj' (by rw [uniq j' j o' oj t ho' hj hd' hd]; exact rch hrj)
          · rw [k10 t fun j o' _ ho' hd => q ⟨j, o', ho', hd⟩]
            exact q7 t fun j o' _ ho' hd => q ⟨j, o', ho', hd⟩
        | const v => exact D.ofV_rep v
        | global g => exact (q1.laid.get _).undata q1.wf
        | func f => exact .fn rfl rfl (fun i d v h => by simp at h) (fun i d v h => by simp at h)
      · exact .junk
    · rcases Nat.lt_or_ge x s.H.length with q | q
      · rw [List.getElem?_append_left (by rw [maskH_len]; exact q)] at hx
        rcases maskH_get hx with hx | ⟨hx, hM⟩
        · exact .inl hx
        · refine .inr ?_
          rw [Nat.zero_add] at hM
          have e1 : (setL Hb (mdsOf (tr.take i)))[x]? = some b := by rw [k7, List.append_assoc, List.getElem?_append_left q, hx]
          by_cases q2 : x ∈ allM mods
          · rw [cur x (hM q2), e1]
          · rw [free x q2, e1]
      · rw [List.getElem?_append_right (by rw [maskH_len]; exact q), maskH_len] at hx
        have hlt2 : x - s.H.length < s.nw.length := (List.getElem?_eq_some_iff.1 hx).1
        have e1 : (setL Hb (mdsOf (tr.take i)))[x]? = some b := by rw [k7, List.append_assoc, List.getElem?_append_right q, List.getElem?_append_left hlt2, hx]
        refine .inr ?_
        rw [← e1]
        by_cases q2 : x ∈ allM mods
        · refine q4 x q2 i (by omega) (fun j hj hxj => ?_) fun j hj hjn hxj => ?_
          · have := rlt (k6 x q (by omega) j (by omega) hxj)
            omega
          · exact rch (k6 x q (by omega) j (by omega) hxj)
        · exact free x q2
    · rw [maskH_len] at m4
      have hne : ∀ {j}, j ∉ U.erase i → j = i ∨ j ∉ U := fun {j} hj => by
        by_cases e : j = i
        · exact .inl e
        · exact .inr fun q => hj ((hUnd.mem_erase_iff).2 ⟨e, q⟩)
      refine ⟨E2, setL Hx s.md, m1, by rw [setL_len, q2], fun x hx => ?_, fun x hx k hk c1 c2 => ?_, put_size.trans q5, put_defers'.trans q6, fun t ht => ?_, fun j s' o' t hj hs' ho' hd' => ?_, fun j s' hj hs' => ?_, fun j o' hj ho' e he hb => ?_⟩
      · rw [setL_out _ _ _ fun b hb => hx (touch_allM (k5 _ hb).1), q3 x hx]
      · by_cases hxi : x ∈ touch mods i
        · have hik : i < k := by
            rcases Nat.lt_or_ge i k with q | q
            · exact q
            · have := c2 i q hin hxi
              exact absurd rfl ((hUnd.mem_erase_iff).1 this).1
          have e1 := stab (k - (i + 1)) (a := i + 1) (x := x) (by omega) fun j h1 h2 h3 => by
            rcases hne (c1 j (by omega) h3) with q | q
            · omega
            · exact q (rch (ord (by omega) (by omega) hxi h3))
          rw [show i + 1 + (k - (i + 1)) = k by omega] at e1
          rw [e1, mdsOf_take_succ hs, setL_cat]
          exact setL_congr s.md (by rw [setL_len, q2]) (cur x hxi)
        · rw [setL_out _ _ _ fun b hb => hxi (k5 _ hb).1]
          refine q4 x hx k hk (fun j hj hxj => ?_) fun j hj hjn hxj => ((hUnd.mem_erase_iff).1 (c2 j hj hjn hxj)).2
          rcases hne (c1 j hj hxj) with q | q
          · exact absurd (q ▸ hxj) hxi
          · exact q
      · have e1 : (a'.put o.dst v).tmps.getD t undef = a'.tmps.getD t undef := by
          cases hd : o.dst with
          | none => rfl
          | some t' => exact eval_put_ne fun e => ht i o (fun q => absurd rfl ((hUnd.mem_erase_iff).1 q).1) ho (by rw [hd, e])
        rw [e1]
        exact (q7 t fun j o' hj ho' => ht j o' (fun q => hj ((hUnd.mem_erase_iff).1 q).2) ho').move m2 m3
      · by_cases e : j = i
        · subst e
          rw [hs] at hs'
          cases hs'
          rw [ho] at ho'
          cases ho'
          rw [hd']
          have htn : t < a'.tmps.size := by rw [q5, ← hnt]; rw [hd'] at k3; simpa [dstB] using k3
          rw [show (a'.put (some t) v).tmps.getD t undef = v from eval_put_same htn]
          exact m5
        · have e1 : (a'.put o.dst v).tmps.getD t undef = a'.tmps.getD t undef := by
            cases hd : o.dst with
            | none => rfl
            | some t' => exact eval_put_ne fun q => e (uniq j i o' o t ho' ho hd' (by rw [hd, q]))
          rw [e1]
          exact (q8 j s' o' t ((hne hj).resolve_left e) hs' ho' hd').move m2 m3
      · obtain ⟨e1, e2⟩ := (hUnd.mem_erase_iff).1 hj
        obtain ⟨oj, j1, _, _, _, _, j6, _, _, j9, _⟩ := g2 j s' hs'
        intro x hx1 hx2
        have hout : x < s.H.length ∨ s.H.length + s.nw.length ≤ x := by
          rcases Nat.lt_or_ge j i with q | q
          · have := k9 j s' q hs'
            omega
          · have := j9 i s (by omega) hs
            omega
        obtain ⟨f1, f2⟩ := m4 x hout fun b hb => rdy (j6 x hx1 hx2 i (by omega) (k5 _ hb).1) e2
        obtain ⟨f3, f4⟩ := q9 j s' e2 hs' x hx1 hx2
        exact ⟨f1.trans f3, f2.trans f4⟩
      · intro q
        have q := (hUnd.mem_erase_iff).1 q
        rcases hne hj with rfl | hj
        · rw [ho] at ho'
          cases ho'
          exact hwait e he hb q.2
        · exact q10 j o' hj ho' e he hb q.2
  · intro listed a' w' hs hu ⟨E', Hx, q1, q2, q3, q4, q5, q6, q7, q8, q9, q10⟩
    refine wpAny_tail T [] n listed a' w' (Nat.le_refl _) (fun j => by simp [hn]) hs hu ?_
    have hHx : Hx = H' := by
      have e0 : tr.take n = tr := List.take_of_length_le (by omega)
      refine List.ext_getElem? fun x => ?_
      rw [g3]
      by_cases q : x ∈ allM mods
      · rw [q4 x q n (Nat.le_refl _) (fun _ _ _ => by simp) (fun j h1 h2 => by omega), e0]
      · rw [q3 x q, ← e0, setL_out _ _ _ (mdM fun j _ q2 => q (touch_allM q2))]
    subst hHx
    refine hQ fr' Hx E' a' w' hK ⟨q5, q6, fun t => ?_, q1⟩
    by_cases q : ∃ (j : Nat) (oj : Oper), ops[j]? = some oj ∧ oj.dst = some t
    · obtain ⟨j, oj, hj, hd⟩ := q
      obtain ⟨sj, hsj⟩ := hget hj
      show DRep w' E' (fr'.get t) _
      rw [g5 t j sj oj hsj hj hd]
      exact q8 j sj oj t (by simp) hsj hj hd
    · show DRep w' E' (fr'.get t) _
      rw [g4 t fun j o' ho' hd => q ⟨j, o', ho', hd⟩]
      exact q7 t fun j o' _ ho' hd => q ⟨j, o', ho', hd⟩
  · simp only [List.mem_range]
    rcases Nat.lt_or_ge t ops.size with q | q
    · simp [q]; omega
    · simp [show ¬ t < ops.size by omega]; omega
  · obtain ⟨d1, d2⟩ := (hr.wr.ext (nwsOf tr)).drew
    refine ⟨E, Hb, by rw [hHb]; exact d1, rfl, fun _ _ => rfl, fun x hx k hk c1 c2 => ?_, hr.sz, hr.df, fun t _ => (hr.fr t).move d2 (Env.own.refl _), fun j s o t hj hs ho => absurd (List.mem_range.2 (hlt ho)) hj, fun j s hj hs x hx1 _ => ?_, fun j o hj ho => absurd (List.mem_range.2 (hlt ho)) hj⟩
    · rw [setL_out _ _ _ (mdM fun j hj q => ?_)]
      exact absurd (c1 j hj q) (by simp; omega)
    · obtain ⟨_, _, _, _, _, _, _, _, k8, _⟩ := g2 j s hs
      exact hr.wr.out x (by show H.length ≤ x; omega)
end
end Go.Proofs.Ytdhfakajlnidiaa
namespace Go.Proofs.Ytdhfakajlnidiaa
open Go.RowKit

/-! Drawn regions whose loads touch one block in any order: only what writes is ordered. -/
theorem sAppN_x {P : Program} {T : Tab} {H : List Bk} {ρ : Operand → D} {o : Oper} (hT : T.ok P) {t : Nat} {s x : Operand} (ho : o.op = .call ⟨.builtin .append, #[s, x], #[t, t]⟩) (hs : ρ s = .nils) {K : List Bk → D → Prop} (hk : sAppend T H o t .nils (ρ x) K) : ∃ d nw, OpX P H ρ o d nw ∧ K (H ++ nw) d := by
  have hx : ∀ (ev : Operand → Value) (w : World), (execOp ev o).run P w = (do pure (.value (← Builtin.append_ #[t, t] o.type #[ev s, ev x])) : Sem Next).run P w := fun ev w => by
    obtain ⟨cs, h⟩ := execOp_blt (P := P) (ev := ev) ho
    rw [h w]
    simp [builtin]
  unfold sAppend at hk
  split at hk
  · next e sz by_ z n rx m ht hel =>
    split at hk
    · next te hte =>
      split at hk
      · next hc =>
        obtain ⟨hsz, hn0, hzs⟩ := hc
        obtain ⟨ti, d, g1, g2, _, _, _, g6⟩ := TI.of_spec (Tab.get_ok hT ht)
        obtain ⟨ti', d', f1, f2, f3, f4, f5, f6⟩ := TI.of_spec (Tab.get_ok hT hte)
        have hu : P.underlying t = some (.slice e) := by
          cases d with
          | slice e2 => simp only [TK.of, TK.slice.injEq] at g6; rw [g2, g6]
          | _ => simp [TK.of] at g6
        have hisz : ti'.size = n := f4.trans hsz
        simp only at hk
        obtain ⟨⟨hm, hcell, h63, hby⟩, hk⟩ := ReqQ.get hk (fun hb => by
          simp only [Bool.and_eq_true, decide_eq_true_eq] at hb
          obtain ⟨k1, k2, k3⟩ := litsOK_spec hb.1
          exact ⟨k1, k2, by omega, small_bytes (by omega) hb.2⟩)
        refine ⟨_, [.row e n 1 rx], .value fun B Hx w E ev hev hw hcp hfr => ?_, hk⟩
        have hcp0 : Compat H [] Hx := fun y b hb => hcp y b (by rw [List.append_nil] at hb; rw [List.getElem?_append_left (List.getElem?_eq_some_iff.1 hb).1]; exact hb)
        have hxx : Hx[H.length]? = some (.row e n 1 rx) := hcp.of (by simp) (by simp)
        have hvs := hev s
        rw [hs] at hvs
        generalize hvsv : ev s = vs at hvs
        cases hvs
        obtain ⟨a, c, hvx, hcells⟩ := elemsOf_rep hw (hev x) (elemsOf_mono hcp0 hel) hm
        have hlen : H.length < Hx.length := (List.getElem?_eq_some_iff.1 hxx).1
        obtain ⟨hσ, hκ⟩ := hfr H.length (Nat.le_refl _) (by simp)
        have hset : Hx.set H.length (.row e n 1 rx) = Hx := by
          refine List.ext_getElem? fun y => ?_
          by_cases q : H.length = y
          · subst q; rw [List.getElem?_set_self hlen, hxx]
          · rw [List.getElem?_set_ne q]
        have hout : ∀ (c : Option Nat) (k z y : Nat), (y < H.length ∨ H.length + [Bk.row e n 1 rx].length ≤ y) → (E.upd H.length c k z).σ y = E.σ y ∧ (E.upd H.length c k z).κ y = E.κ y := fun c k z y hy => by
          have : y ≠ H.length := by simp at hy; omega
          simp [Env.upd, this]
        by_cases h0 : rx.den = []
        · obtain ⟨r1, r2, r3⟩ := hw.redo (w' := w) (x := H.length) (k := 1) (z := 0) (c := none) (b' := .row e n 1 rx) hlen (by omega) (fun _ _ _ => rfl) (Nat.le_refl _) hw.bel (fun d hd => by cases hd) rfl (fun _ _ d hd => by cases hd) (fun _ => h0)
          rw [hset] at r1
          have h1 : rx.den.length = 0 := by rw [h0]; rfl
          refine ⟨_, w, _, ?_, r1, r2, r3, hout _ _ _, .osln (by simp [Env.upd]) (by simp [Env.upd]) (by rw [BE.mk2_den]; simp [cmpDen, IE.den]; omega) rfl (by omega)⟩
          rw [hx, hvsv, hvx, h1]
          simp [run_append_zero hu f1 (Nat.le_refl 0)]
        · obtain ⟨b, off, rfl, hcl⟩ := hcells h0
          obtain ⟨news, n1, n2, n3, n4⟩ := flat_cells hcl hcell
          have hpos : 0 < rx.den.length := List.length_pos_iff.2 h0
          have hby' : rx.den.length * te.bytes ≤ 140737488355328 := by
            have : ((rx.den.length * te.bytes : Nat) : Int) ≤ 140737488355328 := by rw [Int.natCast_mul, ← hm]; exact hby
            omega
          have hrun := run_append_nil (P := P) (w := w) t o.type e ti' te.zero hu f1 f3 ⟨b, off, none⟩ rx.den.length c news (by rw [hisz]; exact n1) n2 hpos (by omega) (by rw [f5]; omega)
          generalize hcap : grownCap w rx.den.length 0 e = cap at hrun
          have hge : rx.den.length ≤ cap := by rw [← hcap]; exact grownCap_ge _ _ _ _
          have hcm : cap ≤ maxLen := by rw [← hcap]; exact grownCap_le_maxLen _ _ _ _ (by unfold maxLen; omega)
          generalize hcur : news.toArray ++ Builtin.zeroCells te.zero.cells (cap - rx.den.length) = cur at hrun
          have hcs : cur.size = cap * n := by
            rw [← hcur, Array.size_append, size_zeroCells, hzs, List.size_toArray, n1, ← Nat.add_mul]
            congr 1
            omega
          obtain ⟨r1, r2, r3⟩ := hw.redo (w' := w.drew.alloc (.cells cur e)) (x := H.length) (k := 1) (z := cur.size) (c := some w.heap.size) (b' := .row e n 1 rx) hlen (by omega) (fun j hj _ => alloc_heap w.drew _ j hj) (by simp) (hw.bel.drew.alloc hw.bel.size _)
            (fun d hd => by cases hd; exact ⟨.inr (Nat.le_refl _), by simp⟩) rfl (fun hle hown d hd => by
              cases hd
              refine ⟨cur, e, .inr rfl, heap_alloc_last w.drew _, by simp [Env.upd], by rw [hcs]; exact Nat.mul_le_mul_right _ hge, fun k el hk2 => ?_⟩
              obtain ⟨q1, q2⟩ := hcl k el hk2
              refine ⟨q1, fun j d hd => ?_⟩
              obtain ⟨v, q3, q4⟩ := n4 k el hk2 j d hd
              have hlt := (List.getElem?_eq_some_iff.1 q3).1
              exact ⟨v, by rw [← hcur, Array.getElem?_append_left (by simpa using hlt)]; simpa using q3, q4.move hle.data Env.own.data⟩) (fun h => by cases h)
          rw [hset] at r1
          have hd := DRep.oslc (w := w.drew.alloc (.cells cur e)) (E := E.upd H.length (some w.heap.size) 1 cur.size) (n := n) (b := H.length) (ver := 1) (nb := BE.mk2 .eql m (.lit 0)) (lo := .lit 0) (len := m) (c := w.heap.size) (m := rx.den.length) (cap := cap) (by simp [Env.upd]) (by simp [Env.upd]) (by rw [BE.mk2_den]; simp [cmpDen, IE.den]; omega) (Int.le_refl _) hm hge hcm (by simp [IE.den, Env.upd, hcs])
          refine ⟨_, _, _, ?_, r1, r2, r3, hout _ _ _, hd⟩
          rw [hx, hvsv, hvx]
          simp [hrun, IE.den]
      · cases hk
    · cases hk
  · cases hk
def nilApp (fr : Fr) (o : Oper) : Bool := match o.op with
  | .call ⟨.builtin .append, ⟨[s, _]⟩, ⟨[t, t']⟩⟩ => (match fr.ev s with
    | .nils => decide (t = t')
    | _ => false)
  | _ => false
def vopN (cx : Cx) (o : Oper) (fr : Fr) (H : List Bk) (K : Fr → List Bk → Prop) : Prop := match o.op, o.dst with
  | .call ⟨.builtin .append, ⟨[_, x]⟩, ⟨[t, _]⟩⟩, some d0 => if d0 < cx.nt then sAppend cx.T H o t .nils (fr.ev x) fun H' d => K (fr.set d0 d) H' else StuckP o []
  | _, _ => StuckP o []
theorem vopN_trace {P : Program} {cx : Cx} (hT : cx.T.ok P) {o : Oper} {fr : Fr} {H : List Bk} {K : Fr → List Bk → Prop} (hn : nilApp fr o = true) (hk : vopN cx o fr H K) : ∃ t d nw, o.dst = some t ∧ t < cx.nt ∧ OpX P H (res o fr.ev) o d nw ∧ K (fr.set t d) (H ++ nw) := by
  unfold vopN at hk
  split at hk
  · next x' s' x t t' d0 ho hd =>
    split at hk
    · next hlt =>
      unfold nilApp at hn
      rw [ho] at hn
      simp only at hn
      split at hn
      · next hs =>
        have e0 := of_decide_eq_true hn
        subst e0
        have e1 : res o fr.ev s' = .nils := by rw [res_in (by rw [ho]; simp [Op.operands, Call.operands]), hs]
        have e2 : res o fr.ev x = fr.ev x := res_in (by rw [ho]; simp [Op.operands, Call.operands])
        obtain ⟨d, nw, h1, h2⟩ := sAppN_x (ρ := res o fr.ev) hT ho e1 (by rw [e2]; exact hk)
        exact ⟨_, d, nw, hd, hlt, h1, h2⟩
      · cases hn
    · cases hk
  · cases hk
def readB : Op → Bool
  | .load .. => true
  | .fieldAddr .. => true
  | .indexAddr .. => true
  | .nilCheck .. => true
  | _ => false
def vfootW (P : Program) (cx : Cx) (ops : Array Oper) (mods : List (Nat × List Nat)) : Nat → List Oper → Fr → List Bk → (Fr → List Bk → Prop) → Prop
  | _, [], fr, H, K => K fr H
  | i, o :: os, fr, H, K => match o.guard with
    | some _ => StuckP o []
    | none => match touch mods i with
      | [] => if nilApp fr o then vopN cx o fr (maskH (allM mods) [] 0 H) fun fr' Hm => (if freshOK ops mods i H.length Hm.length then vfootW P cx ops mods (i + 1) os fr' (H ++ Hm.drop H.length) K else StuckP o [])
        else vopq P cx (baseB ops o) o fr (maskH (allM mods) [] 0 H) fun fr' Hm => if freshOK ops mods i H.length Hm.length then vfootW P cx ops mods (i + 1) os fr' (H ++ Hm.drop H.length) K else StuckP o []
      | x :: xs => if readB o.op then vopq P cx (baseB ops o) o fr (maskH (allM mods) (x :: xs) 0 H) fun fr' Hm => if freshOK ops mods i H.length Hm.length then vfootW P cx ops mods (i + 1) os fr' (H ++ Hm.drop H.length) K else StuckP o []
        else if dstB cx.nt o.dst then vopm P cx o fr (maskH (allM mods) (x :: xs) 0 H) (x :: xs) fun d md => vfootW P cx ops mods (i + 1) os (fr.put o.dst d) (setL H md) K else StuckP o []
def twr (ops : Array Oper) (mods : List (Nat × List Nat)) (i : Nat) : List Nat := match ops[i]? with
  | some o => if readB o.op then [] else touch mods i
  | none => []
theorem twr_sub {ops : Array Oper} {mods : List (Nat × List Nat)} {i x : Nat} (h : x ∈ twr ops mods i) : x ∈ touch mods i := by
  unfold twr at h
  split at h
  · split at h
    · cases h
    · exact h
  · cases h
theorem twr_of {ops : Array Oper} {mods : List (Nat × List Nat)} {i x : Nat} {o : Oper} (ho : ops[i]? = some o) (hl : readB o.op = false) (h : x ∈ touch mods i) : x ∈ twr ops mods i := by
  unfold twr
  rw [ho]
  simp only [hl]
  exact h
def ordW (ops : Array Oper) (mods : List (Nat × List Nat)) : Bool := (List.range ops.size).all fun i => (List.range ops.size).all fun j => if i < j then (if meets (twr ops mods i) (touch mods j) then reach ops 6 i j else (if meets (touch mods i) (twr ops mods j) then reach ops 6 i j else true)) else true
def footOK2 (ops : Array Oper) (mods : List (Nat × List Nat)) : Bool := tailWB .any ops ops.size && readsF ops && dstF ops && ordW ops mods
inductive YW (P : Program) (cx : Cx) (ops : Array Oper) (mods : List (Nat × List Nat)) : Nat → List Oper → Fr → List Bk → List YS → Fr → List Bk → Prop
  | nil {i fr H} : YW P cx ops mods i [] fr H [] fr H
  | cons {i o os fr H d nw md tr fr' H'} (hg : o.guard = none) (hd : dstB cx.nt o.dst = true) (hop : OpZ P (maskH (allM mods) (touch mods i) 0 H) (res o fr.ev) o d nw md) (hmd : ∀ p ∈ md, readB o.op = false ∧ p.1 ∈ touch mods i ∧ p.1 < H.length)
      (hnw : ∀ x, H.length ≤ x → x < H.length + nw.length → ∀ j, j < ops.size → x ∈ touch mods j → reach ops 6 i j = true) (rest : YW P cx ops mods (i + 1) os (fr.put o.dst d) (setL (H ++ nw) md) tr fr' H') : YW P cx ops mods i (o :: os) fr H (⟨fr, H, d, nw, md⟩ :: tr) fr' H'
section
variable {P : Program} {cx : Cx} {ops : Array Oper} {mods : List (Nat × List Nat)}
theorem vfoot_yw (hT : cx.T.ok P) : ∀ (os : List Oper) {i : Nat} {fr : Fr} {H : List Bk} {K : Fr → List Bk → Prop}, vfootW P cx ops mods i os fr H K → ∃ tr fr' H', YW P cx ops mods i os fr H tr fr' H' ∧ K fr' H'
  | [], i, fr, H, K, hk => ⟨[], fr, H, .nil, hk⟩
  | o :: os, i, fr, H, K, hk => by
    unfold vfootW at hk
    split at hk
    · cases hk
    · next hg =>
      split at hk
      · next ht =>
        have hk2 : ∃ t d nw, o.dst = some t ∧ t < cx.nt ∧ OpX P (maskH (allM mods) [] 0 H) (res o fr.ev) o d nw ∧ (if freshOK ops mods i H.length (maskH (allM mods) [] 0 H ++ nw).length then vfootW P cx ops mods (i + 1) os (fr.set t d) (H ++ (maskH (allM mods) [] 0 H ++ nw).drop H.length) K else StuckP o []) := by
          split at hk
          · next hn => exact vopN_trace hT hn hk
          · exact vopq_trace hT hk
        obtain ⟨t, d, nw, h1, h2, h3, h4⟩ := hk2
        simp only [List.length_append, maskH_len] at h4
        split at h4
        · next hf =>
          rw [← maskH_len (allM mods) [] 0 H, List.drop_left] at h4
          obtain ⟨tr, fr', H', h5, h6⟩ := vfoot_yw hT os h4
          refine ⟨_, fr', H', .cons hg (by rw [h1]; simpa [dstB] using h2) (by rw [ht]; exact h3.z) (fun p hp => by cases hp) (fun x hx1 hx2 j hj hxj => ?_) (by rw [h1]; exact h5), h6⟩
          unfold freshOK at hf
          have := List.all_eq_true.1 hf j (List.mem_range.2 hj)
          rwa [if_pos (within_spec hxj hx1 hx2)] at this
        · cases h4
      · next x xs ht =>
        split at hk
        · obtain ⟨t, d, nw, h1, h2, h3, h4⟩ := vopq_trace hT hk
          simp only [List.length_append, maskH_len] at h4
          split at h4
          · next hf =>
            rw [← maskH_len (allM mods) (x :: xs) 0 H, List.drop_left] at h4
            obtain ⟨tr, fr', H', h5, h6⟩ := vfoot_yw hT os h4
            refine ⟨_, fr', H', .cons hg (by rw [h1]; simpa [dstB] using h2) (by rw [ht]; exact h3.z) (fun p hp => by cases hp) (fun x hx1 hx2 j hj hxj => ?_) (by rw [h1]; exact h5), h6⟩
            unfold freshOK at hf
            have := List.all_eq_true.1 hf j (List.mem_range.2 hj)
            rwa [if_pos (within_spec hxj hx1 hx2)] at this
          · cases h4
        next hld =>
        split at hk
        · next hd =>
          obtain ⟨d, md, h1, h2, h3⟩ := vopm_z hT hk
          obtain ⟨tr, fr', H', h5, h6⟩ := vfoot_yw hT os h3
          refine ⟨_, fr', H', .cons (nw := []) hg hd (by rw [ht]; exact h1) (fun p hp => by have := h2 p hp; rw [maskH_len] at this; rw [ht]; exact ⟨by simpa using hld, this⟩) (fun x hx1 hx2 => by simp at hx2; omega) (by rw [List.append_nil]; exact h5), h6⟩
        · cases hk
theorem YW.get {i0 : Nat} {os : List Oper} {fr fr' : Fr} {H H' : List Bk} {tr : List YS} (h : YW P cx ops mods i0 os fr H tr fr' H') : (∀ (a b : Nat) oa ob t, os[a]? = some oa → os[b]? = some ob → oa.dst = some t → ob.dst = some t → a = b) →
    tr.length = os.length ∧
    (∀ (k : Nat) s, tr[k]? = some s → ∃ o, os[k]? = some o ∧ o.guard = none ∧ dstB cx.nt o.dst = true ∧ OpZ P (maskH (allM mods) (touch mods (i0 + k)) 0 s.H) (res o s.fr.ev) o s.d s.nw s.md ∧ (∀ p ∈ s.md, readB o.op = false ∧ p.1 ∈ touch mods (i0 + k) ∧ p.1 < s.H.length) ∧
      (∀ x, s.H.length ≤ x → x < s.H.length + s.nw.length → ∀ j, j < ops.size → x ∈ touch mods j → reach ops 6 (i0 + k) j = true) ∧ (∃ p, setL (H ++ nwsOf tr) (mdsOf (tr.take k)) = s.H ++ s.nw ++ p) ∧ (H.length ≤ s.H.length) ∧
      (∀ (j : Nat) s', j < k → tr[j]? = some s' → s'.H.length + s'.nw.length ≤ s.H.length) ∧
      (∀ t, (∀ (j : Nat) o', j < k → os[j]? = some o' → o'.dst ≠ some t) → s.fr.get t = fr.get t) ∧ (∀ t (j : Nat) s' o', j < k → tr[j]? = some s' → os[j]? = some o' → o'.dst = some t → s.fr.get t = s'.d)) ∧
    H' = setL (H ++ nwsOf tr) (mdsOf tr) ∧ (∀ t, (∀ (j : Nat) o', os[j]? = some o' → o'.dst ≠ some t) → fr'.get t = fr.get t) ∧ (∀ t (j : Nat) s' o', tr[j]? = some s' → os[j]? = some o' → o'.dst = some t → fr'.get t = s'.d) := by
  induction h with
  | nil => exact fun _ => ⟨rfl, fun k s hs => by simp at hs, by simp [nwsOf, mdsOf, setL], fun _ _ => rfl, fun t j s' o' hs => by simp at hs⟩
  | @cons i o os fr H d nw md tr fr' H' hg hd hop hmd hnw rest ih =>
    intro hu
    obtain ⟨h1, h2, h3, h4, h5⟩ := ih fun a b oa ob t q1 q2 q3 q4 => by
      have := hu (a + 1) (b + 1) oa ob t (by simpa using q1) (by simpa using q2) q3 q4
      omega
    have hput : ∀ t, o.dst ≠ some t → (fr.put o.dst d).get t = fr.get t := fun t ht => by
      unfold Fr.put
      split
      · next t' e => rw [Fr.get_set, if_neg fun q => ht (by rw [e, q])]
      · rfl
    have hput2 : ∀ t, o.dst = some t → (fr.put o.dst d).get t = d := fun t ht => by
      rw [ht]; simp [Fr.put, Fr.get_set]
    have hbase : setL (H ++ nwsOf (⟨fr, H, d, nw, md⟩ :: tr)) md = setL (H ++ nw) md ++ nwsOf tr := by
      rw [← setL_app md fun p hp => by have := (hmd p hp).2.2; simp; omega]
      simp [nwsOf]
    have hnot : ∀ t, o.dst = some t → ∀ (j : Nat) o', os[j]? = some o' → o'.dst ≠ some t := fun t ht j o' ho' e => by
      have := hu 0 (j + 1) o o' t rfl (by simpa using ho') ht e
      omega
    refine ⟨by simp [h1], fun k s hs => ?_, ?_, fun t ht => ?_, fun t j s' o' hs ho' hd' => ?_⟩
    · cases k with
      | zero =>
        simp only [List.getElem?_cons_zero, Option.some.injEq] at hs
        subst hs
        exact ⟨o, rfl, hg, hd, hop, hmd, hnw, ⟨nwsOf tr, by simp [mdsOf, setL, nwsOf]⟩, Nat.le_refl _, fun j s' hj => by omega, fun t _ => rfl, fun t j s' o' hj => by omega⟩
      | succ k =>
        simp only [List.getElem?_cons_succ] at hs
        obtain ⟨o1, g1, g2, g3, g4, g5, g6, ⟨p, g7⟩, g8, g9, g10, g11⟩ := h2 k s hs
        have e0 : i + 1 + k = i + (k + 1) := by omega
        rw [setL_len, List.length_append] at g8
        refine ⟨o1, by simpa using g1, g2, g3, by rw [← e0]; exact g4, by rw [← e0]; exact g5, by rw [← e0]; exact g6, ⟨p, ?_⟩, by omega, fun j s' hj hs' => ?_, fun t ht => ?_, fun t j s' o' hj hs' ho' hd' => ?_⟩
        · rw [← g7]
          simp only [List.take_succ_cons, mdsOf, List.map_cons, List.flatten_cons, setL_cat]
          rw [hbase]
        · cases j with
          | zero =>
            simp only [List.getElem?_cons_zero, Option.some.injEq] at hs'
            subst hs'
            exact g8
          | succ j => exact g9 j s' (by omega) (by simpa using hs')
        · rw [g10 t fun j o' hj ho' => ht (j + 1) o' (by omega) (by simpa using ho')]
          exact hput t (ht 0 o (by omega) rfl)
        · cases j with
          | zero =>
            simp only [List.getElem?_cons_zero, Option.some.injEq] at hs' ho'
            subst hs' ho'
            rw [g10 t fun j o' _ ho' => hnot t hd' j o' ho']
            exact hput2 t hd'
          | succ j => exact g11 t j s' o' (by omega) (by simpa using hs') (by simpa using ho') hd'
    · rw [h3]
      simp only [mdsOf, List.map_cons, List.flatten_cons, setL_cat]
      rw [hbase]
    · rw [h4 t fun j o' ho' => ht (j + 1) o' (by simpa using ho')]
      exact hput t (ht 0 o rfl)
    · cases j with
      | zero =>
        simp only [List.getElem?_cons_zero, Option.some.injEq] at hs ho'
        subst hs ho'
        rw [h4 t fun j o' ho' => hnot t hd' j o' ho']
        exact hput2 t hd'
      | succ j => exact h5 t j s' o' (by simpa using hs) (by simpa using ho') hd'
theorem FootP.intro2 {fr : Fr} {H : List Bk} {K : Fr → List Bk → Prop} (hT : cx.T.ok P) (hm : P.follows .mixedOrders = true) (mods : List (Nat × List Nat)) (hok : footOK2 ops mods = true) (h : vfootW P cx ops mods 0 ops.toList fr H K) : FootP P cx ops fr H K := by
  refine ⟨fun B E a w hnt hh0 hr Q hQ id => ?_⟩
  obtain ⟨tr, fr', H', ht, hK⟩ := vfoot_yw hT _ h
  unfold footOK2 at hok
  simp only [Bool.and_eq_true] at hok
  obtain ⟨⟨⟨ok1, ok2⟩, ok3⟩, ok4⟩ := hok
  have T := tailWB_spec ok1
  obtain ⟨n, hn⟩ : ∃ n, n = ops.size := ⟨_, rfl⟩
  have hlt : ∀ {j : Nat} {o : Oper}, ops[j]? = some o → j < n := fun ho => by rw [hn]; exact (Array.getElem?_eq_some_iff.1 ho).1
  have uniq : ∀ (a b : Nat) oa ob t, ops[a]? = some oa → ops[b]? = some ob → oa.dst = some t → ob.dst = some t → a = b := fun a b oa ob t q1 q2 q3 q4 => by
    unfold dstF at ok3
    have k1 := List.all_eq_true.1 (List.all_eq_true.1 ok3 a (List.mem_range.2 (by rw [← hn]; exact hlt q1))) b (List.mem_range.2 (by rw [← hn]; exact hlt q2))
    by_cases e : a = b
    · exact e
    · rw [if_neg e, q1, q2] at k1
      simp only [Option.bind_some, q3, q4, if_true] at k1
      cases k1
  have reads : ∀ {i j : Nat} {o oj : Oper} {t : Nat}, ops[i]? = some o → ops[j]? = some oj → oj.dst = some t →   .tmp t ∈ o.op.operands → reach ops 6 j i = true ∨ reach ops 6 i j = true := fun {i j o oj t} q1 q2 q3 q4 => by
    unfold readsF at ok2
    have k1 := List.all_eq_true.1 ok2 i (List.mem_range.2 (by rw [← hn]; exact hlt q1))
    rw [q1] at k1
    have k2 := List.all_eq_true.1 k1 j (List.mem_range.2 (by rw [← hn]; exact hlt q2))
    rw [q2] at k2
    simp only [Option.bind_some, q3] at k2
    rw [if_pos (Array.any_eq_true'.2 ⟨.tmp t, q4, by simp [isT]⟩)] at k2
    split at k2
    · next h => exact .inl h
    · exact .inr k2
  have ord : ∀ {i j x : Nat}, i < j → j < n → x ∈ twr ops mods i → x ∈ touch mods j → reach ops 6 i j = true := fun {i j x} q1 q2 q3 q4 => by
    unfold ordW at ok4
    have k1 := List.all_eq_true.1 (List.all_eq_true.1 ok4 i (List.mem_range.2 (by omega))) j (List.mem_range.2 (by omega))
    rwa [if_pos q1, if_pos (meets_spec q3 q4)] at k1
  have ord' : ∀ {i j x : Nat}, i < j → j < n → x ∈ touch mods i → x ∈ twr ops mods j → reach ops 6 i j = true := fun {i j x} q1 q2 q3 q4 => by
    unfold ordW at ok4
    have k1 := List.all_eq_true.1 (List.all_eq_true.1 ok4 i (List.mem_range.2 (by omega))) j (List.mem_range.2 (by omega))
    rw [if_pos q1] at k1
    split at k1
    · exact k1
    · rwa [if_pos (meets_spec q3 q4)] at k1
  obtain ⟨g1, g2, g3, g4, g5⟩ := ht.get fun a b oa ob t q1 q2 => uniq a b oa ob t (by simpa using q1) (by simpa using q2)
  simp only [Nat.zero_add, Array.getElem?_toList] at g2 g4 g5
  replace g2 := fun (k : Nat) (s : YS) (hs : tr[k]? = some s) => (g2 k s hs).imp fun o ⟨a1, a2, a3, a4, a5, a6⟩ => (⟨a1, a2, a3, a4, fun p hp => ⟨twr_of a1 (a5 p hp).1 (a5 p hp).2.1, (a5 p hp).2.2⟩, a6⟩ : _ ∧ _ ∧ _ ∧ _ ∧ (∀ p ∈ s.md, p.1 ∈ twr ops mods k ∧ p.1 < s.H.length) ∧ _)
  have htl : tr.length = n := by rw [g1, hn]; simp
  obtain ⟨Hb, hHb⟩ : ∃ Hb, Hb = H ++ nwsOf tr := ⟨_, rfl⟩
  rw [← hHb] at g2 g3
  have hget : ∀ {i : Nat} {o : Oper}, ops[i]? = some o → ∃ s, tr[i]? = some s := fun ho => ⟨_, List.getElem?_eq_getElem (by rw [htl]; exact hlt ho)⟩
  -- what the blocks hold behind k operations, in the order of the text
  have mdM : ∀ {k : Nat} {x : Nat}, (∀ j, j < k → x ∉ twr ops mods j) → ∀ b, (x, b) ∉ mdsOf (tr.take k) := fun {k x} hx b hb => by
    unfold mdsOf at hb
    simp only [List.mem_flatten, List.mem_map] at hb
    obtain ⟨_, ⟨s, hs, rfl⟩, hb⟩ := hb
    obtain ⟨j, hj⟩ := List.getElem?_of_mem hs
    have hjk : j < k := by have := (List.getElem?_eq_some_iff.1 hj).1; simp at this; omega
    rw [List.getElem?_take, if_pos hjk] at hj
    obtain ⟨_, _, _, _, _, k5, _⟩ := g2 j s hj
    exact hx j hjk (k5 _ hb).1
  have stab : ∀ (d : Nat) {a x : Nat}, a + d ≤ n → (∀ j, a ≤ j → j < a + d → x ∉ twr ops mods j) → (setL Hb (mdsOf (tr.take (a + d))))[x]? = (setL Hb (mdsOf (tr.take a)))[x]? := by
    intro d
    induction d with
    | zero => exact fun _ _ => rfl
    | succ d ih =>
      intro a x had hx
      obtain ⟨s, hs⟩ : ∃ s, tr[a + d]? = some s := ⟨_, List.getElem?_eq_getElem (by omega)⟩
      rw [show a + (d + 1) = (a + d) + 1 by omega, mdsOf_take_succ hs, setL_cat, setL_out _ _ _ fun b hb => ?_]
      · exact ih (by omega) fun j h1 h2 => hx j h1 (by omega)
      · obtain ⟨_, _, _, _, _, k5, _⟩ := g2 _ s hs
        exact hx (a + d) (by omega) (by omega) (k5 _ hb).1
  let J : List Nat → Act → World → Prop := fun U a' w' => ∃ E' Hx, WRel B Hx E' w' ∧ Hx.length = Hb.length ∧ (∀ x, x ∉ allM mods → Hx[x]? = Hb[x]?) ∧
    (∀ x, x ∈ allM mods → ∀ k, k ≤ n → (∀ j, j < k → x ∈ twr ops mods j → j ∉ U) → (∀ j, k ≤ j → j < n → x ∈ twr ops mods j → j ∈ U) → Hx[x]? = (setL Hb (mdsOf (tr.take k)))[x]?) ∧ a'.tmps.size = B.nt ∧ a'.defers = B.df ∧
    (∀ t, (∀ (j : Nat) (o : Oper), j ∉ U → ops[j]? = some o → o.dst ≠ some t) → DRep w' E' (fr.get t) (a'.tmps.getD t undef)) ∧ (∀ (j : Nat) (s : YS) (o : Oper) (t : Nat), j ∉ U → tr[j]? = some s → ops[j]? = some o → o.dst = some t → DRep w' E' s.d (a'.tmps.getD t undef)) ∧
    (∀ (j : Nat) (s : YS), j ∈ U → tr[j]? = some s → Fresh E' s.H.length (s.H.length + s.nw.length)) ∧ (∀ (j : Nat) (o : Oper), j ∉ U → ops[j]? = some o → ∀ e ∈ o.after, Region.binds .any e = true → e.on ∉ U)
  refine wp_region_any hm ?_
  rw [show wpAny P .any ops Q ops.size = wpAny P .any ops Q (n + 0) by rw [hn]; rfl]
  rw [← hn] at T
  refine wpAny_joint T J ?_ ?_ n (List.range n) _ a w.drew (by simp) List.nodup_range (by simp) (fun t => ?_) (fun t ht => by simpa using ht) (fun j o' hj hjn => absurd (List.mem_range.2 hj) hjn) ?_
  · intro U i o hUnd hiU hin ho hwait a' w' ⟨E', Hx, q1, q2, q3, q4, q5, q6, q7, q8, q9, q10⟩
    obtain ⟨s, hs⟩ := hget ho
    obtain ⟨o1, k1, k2, k3, k4, k5, k6, ⟨p, k7⟩, k8, k9, k10, k11⟩ := g2 i s hs
    rw [ho] at k1
    cases k1
    have hS : ∀ (j : Nat) (o : Oper), (j ∉ U) → ops[j]? = some o → ∀ e ∈ o.after, Region.binds .any e = true → e.on ∉ U := q10
    have rdy : ∀ {j}, reach ops 6 j i = true → j ∉ U := fun hr => reach_ready (S := fun j => j ∉ U) hS hr ho hwait
    have rch : ∀ {j}, reach ops 6 i j = true → j ∈ U := fun {j} hr => Classical.byContradiction fun q => reach_spec (S := fun j => j ∉ U) hS 6 i j hr q hiU
    have rlt : ∀ {f i j}, reach ops f i j = true → i < j := fun {f i j} hr => reach_lt (by rw [← hn]; exact T) f i j hr
    have cur : ∀ x, x ∈ touch mods i → Hx[x]? = (setL Hb (mdsOf (tr.take i)))[x]? := fun x hx => q4 x (touch_allM hx) i (by omega) (fun j hj hxj => rdy (ord hj hin hxj hx)) (fun j hj hjn hxj => by
      rcases Nat.lt_or_ge i j with q | q
      · exact rch (ord' q hjn hx hxj)
      · rw [show j = i by omega]; exact hiU)
    have free : ∀ x, x ∉ allM mods → Hx[x]? = (setL Hb (mdsOf (tr.take i)))[x]? := fun x hx => by
      rw [q3 x hx, setL_out _ _ _ (mdM fun j _ q => hx (touch_allM (twr_sub q)))]
    have hbl : (s.H ++ s.nw).length ≤ Hx.length := by
      have := congrArg List.length k7
      rw [setL_len] at this
      simp at this ⊢
      omega
    unfold wpOp
    rw [ho]
    simp only
    rw [show Region.wanted o (yielded ops a'.tmps) = true by unfold Region.wanted; rw [k2], if_pos rfl]
    refine .inl (k4 B Hx w' E' a' (fun x => ?_) q1 (by rw [List.length_append, maskH_len, ← List.length_append]; exact hbl) (fun x b hx => ?_) (by rw [maskH_len]; exact q9 i s hiU hs) _ Q fun v w2 E2 m1 m2 m3 m4 m5 => ?_)
    · unfold res
      split
      · next hx =>
        cases x with
        | tmp t =>
          show DRep w' E' (s.fr.get t) (a'.tmps.getD t undef)
          by_cases q : ∃ (j : Nat) (oj : Oper), ops[j]? = some oj ∧ oj.dst = some t
          · obtain ⟨j, oj, hj, hd⟩ := q
            obtain ⟨sj, hsj⟩ := hget hj
            rcases reads ho hj hd hx with hrj | hrj
            · rw [k11 t j sj oj (rlt hrj) hsj hj hd]
              exact q8 j sj oj t (rdy hrj) hsj hj hd
            · have hij := rlt hrj
              rw [k10 t fun j' o' hj' ho' hd' => by
                have := uniq j' j o' oj t ho' hj hd' hd
                omega]
              exact q7 t fun j' o' hj' ho' hd' => hj' (by rw [uniq j' j o' oj t ho' hj hd' hd]; exact rch hrj)
          · rw [k10 t fun j o' _ ho' hd => q ⟨j, o', ho', hd⟩]
            exact q7 t fun j o' _ ho' hd => q ⟨j, o', ho', hd⟩
        | const v => exact D.ofV_rep v
        | global g => exact (q1.laid.get _).undata q1.wf
        | func f => exact .fn rfl rfl (fun i d v h => by simp at h) (fun i d v h => by simp at h)
      · exact .junk
    · rcases Nat.lt_or_ge x s.H.length with q | q
      · rw [List.getElem?_append_left (by rw [maskH_len]; exact q)] at hx
        rcases maskH_get hx with hx | ⟨hx, hM⟩
        · exact .inl hx
        · refine .inr ?_
          rw [Nat.zero_add] at hM
          have e1 : (setL Hb (mdsOf (tr.take i)))[x]? = some b := by rw [k7, List.append_assoc, List.getElem?_append_left q, hx]
          by_cases q2 : x ∈ allM mods
          · rw [cur x (hM q2), e1]
          · rw [free x q2, e1]
      · rw [List.getElem?_append_right (by rw [maskH_len]; exact q), maskH_len] at hx
        have hlt2 : x - s.H.length < s.nw.length := (List.getElem?_eq_some_iff.1 hx).1
        have e1 : (setL Hb (mdsOf (tr.take i)))[x]? = some b := by rw [k7, List.append_assoc, List.getElem?_append_right q, List.getElem?_append_left hlt2, hx]
        refine .inr ?_
        rw [← e1]
        by_cases q2 : x ∈ allM mods
        · refine q4 x q2 i (by omega) (fun j hj hxj => ?_) fun j hj hjn hxj => ?_
          · have := rlt (k6 x q (by omega) j (by omega) (twr_sub hxj))
            omega
          · exact rch (k6 x q (by omega) j (by omega) (twr_sub hxj))
        · exact free x q2
    · rw [maskH_len] at m4
      have hne : ∀ {j}, j ∉ U.erase i → j = i ∨ j ∉ U := fun {j} hj => by
        by_cases e : j = i
        · exact .inl e
        · exact .inr fun q => hj ((hUnd.mem_erase_iff).2 ⟨e, q⟩)
      refine ⟨E2, setL Hx s.md, m1, by rw [setL_len, q2], fun x hx => ?_, fun x hx k hk c1 c2 => ?_, put_size.trans q5, put_defers'.trans q6, fun t ht => ?_, fun j s' o' t hj hs' ho' hd' => ?_, fun j s' hj hs' => ?_, fun j o' hj ho' e he hb => ?_⟩
      · rw [setL_out _ _ _ fun b hb => hx (touch_allM (twr_sub (k5 _ hb).1)), q3 x hx]
      · by_cases hxi : x ∈ twr ops mods i
        · have hik : i < k := by
            rcases Nat.lt_or_ge i k with q | q
            · exact q
            · have := c2 i q hin hxi
              exact absurd rfl ((hUnd.mem_erase_iff).1 this).1
          have e1 := stab (k - (i + 1)) (a := i + 1) (x := x) (by omega) fun j h1 h2 h3 => by
            rcases hne (c1 j (by omega) h3) with q | q
            · omega
            · exact q (rch (ord (by omega) (by omega) hxi (twr_sub h3)))
          rw [show i + 1 + (k - (i + 1)) = k by omega] at e1
          rw [e1, mdsOf_take_succ hs, setL_cat]
          exact setL_congr s.md (by rw [setL_len, q2]) (cur x (twr_sub hxi))
        · rw [setL_out _ _ _ fun b hb => hxi (k5 _ hb).1]
          refine q4 x hx k hk (fun j hj hxj => ?_) fun j hj hjn hxj => ((hUnd.mem_erase_iff).1 (c2 j hj hjn hxj)).2
          rcases hne (c1 j hj hxj) with q | q
          · exact absurd (q ▸ hxj) hxi
          · exact q
      · have e1 : (a'.put o.dst v).tmps.getD t undef = a'.tmps.getD t undef := by
          cases hd : o.dst with
          | none => rfl
          | some t' => exact eval_put_ne fun e => ht i o (fun q => absurd rfl ((hUnd.mem_erase_iff).1 q).1) ho (by rw [hd, e])
        rw [e1]
        exact (q7 t fun j o' hj ho' => ht j o' (fun q => hj ((hUnd.mem_erase_iff).1 q).2) ho').move m2 m3
      · by_cases e : j = i
        · subst e
          rw [hs] at hs'
          cases hs'
          rw [ho] at ho'
          cases ho'
          rw [hd']
          have htn : t < a'.tmps.size := by rw [q5, ← hnt]; rw [hd'] at k3; simpa [dstB] using k3
          rw [show (a'.put (some t) v).tmps.getD t undef = v from eval_put_same htn]
          exact m5
        · have e1 : (a'.put o.dst v).tmps.getD t undef = a'.tmps.getD t undef := by
            cases hd : o.dst with
            | none => rfl
            | some t' => exact eval_put_ne fun q => e (uniq j i o' o t ho' ho hd' (by rw [hd, q]))
          rw [e1]
          exact (q8 j s' o' t ((hne hj).resolve_left e) hs' ho' hd').move m2 m3
      · obtain ⟨e1, e2⟩ := (hUnd.mem_erase_iff).1 hj
        obtain ⟨oj, j1, _, _, _, _, j6, _, _, j9, _⟩ := g2 j s' hs'
        intro x hx1 hx2
        have hout : x < s.H.length ∨ s.H.length + s.nw.length ≤ x := by
          rcases Nat.lt_or_ge j i with q | q
          · have := k9 j s' q hs'
            omega
          · have := j9 i s (by omega) hs
            omega
        obtain ⟨f1, f2⟩ := m4 x hout fun b hb => rdy (j6 x hx1 hx2 i (by omega) (twr_sub (k5 _ hb).1)) e2
        obtain ⟨f3, f4⟩ := q9 j s' e2 hs' x hx1 hx2
        exact ⟨f1.trans f3, f2.trans f4⟩
      · intro q
        have q := (hUnd.mem_erase_iff).1 q
        rcases hne hj with rfl | hj
        · rw [ho] at ho'
          cases ho'
          exact hwait e he hb q.2
        · exact q10 j o' hj ho' e he hb q.2
  · intro listed a' w' hs hu ⟨E', Hx, q1, q2, q3, q4, q5, q6, q7, q8, q9, q10⟩
    refine wpAny_tail T [] n listed a' w' (Nat.le_refl _) (fun j => by simp [hn]) hs hu ?_
    have hHx : Hx = H' := by
      have e0 : tr.take n = tr := List.take_of_length_le (by omega)
      refine List.ext_getElem? fun x => ?_
      rw [g3]
      by_cases q : x ∈ allM mods
      · rw [q4 x q n (Nat.le_refl _) (fun _ _ _ => by simp) (fun j h1 h2 => by omega), e0]
      · rw [q3 x q, ← e0, setL_out _ _ _ (mdM fun j _ q2 => q (touch_allM (twr_sub q2)))]
    subst hHx
    refine hQ fr' Hx E' a' w' hK ⟨q5, q6, fun t => ?_, q1⟩
    by_cases q : ∃ (j : Nat) (oj : Oper), ops[j]? = some oj ∧ oj.dst = some t
    · obtain ⟨j, oj, hj, hd⟩ := q
      obtain ⟨sj, hsj⟩ := hget hj
      show DRep w' E' (fr'.get t) _
      rw [g5 t j sj oj hsj hj hd]
      exact q8 j sj oj t (by simp) hsj hj hd
    · show DRep w' E' (fr'.get t) _
      rw [g4 t fun j o' ho' hd => q ⟨j, o', ho', hd⟩]
      exact q7 t fun j o' _ ho' hd => q ⟨j, o', ho', hd⟩
  · simp only [List.mem_range]
    rcases Nat.lt_or_ge t ops.size with q | q
    · simp [q]; omega
    · simp [show ¬ t < ops.size by omega]; omega
  · obtain ⟨d1, d2⟩ := (hr.wr.ext (nwsOf tr)).drew
    refine ⟨E, Hb, by rw [hHb]; exact d1, rfl, fun _ _ => rfl, fun x hx k hk c1 c2 => ?_, hr.sz, hr.df, fun t _ => (hr.fr t).move d2 (Env.own.refl _), fun j s o t hj hs ho => absurd (List.mem_range.2 (hlt ho)) hj, fun j s hj hs x hx1 _ => ?_, fun j o hj ho => absurd (List.mem_range.2 (hlt ho)) hj⟩
    · rw [setL_out _ _ _ (mdM fun j hj q => ?_)]
      exact absurd (c1 j hj q) (by simp; omega)
    · obtain ⟨_, _, _, _, _, _, _, _, k8, _⟩ := g2 j s hs
      exact hr.wr.out x (by show H.length ≤ x; omega)
end
theorem CodeP.foot {P : Program} {cx : Cx} {id : Nat} {ops : Array Oper} {fr : Fr} {H : List Bk} {K : Exit → Fr → List Bk → Prop} (h : FootP P cx ops fr H (K .normal)) : CodeP P cx (.region id ops true) fr H K :=
  ⟨fun B E a w hnt hr => h.run B E a w hnt.1 hnt.2 hr _ (fun fr' H' E' _ _ hk hr' => ⟨fr', H', E', hk, hr'⟩) id⟩
theorem CodeP.condE {P : Program} {cx : Cx} {x : Operand} {c d : Code} {fr : Fr} {H : List Bk} {K : Exit → Fr → List Bk → Prop} (e : BE) (he : fr.ev x = .bool e) (h1 : e.den = true → CodeP P cx c fr H K) (h2 : e.den = false → CodeP P cx d fr H K) : CodeP P cx (.cond x c d) fr H K := by
  refine ⟨fun B E a w hnt h => ?_⟩
  have hx := h.ev x
  rw [he] at hx
  generalize hv : a.eval x = v at hx
  cases hx
  exact wp_cond_split hv (fun q => (h1 q).run B E a w hnt h) (fun q => (h2 q).run B E a w hnt h)
theorem CodeP.to {P : Program} {cx : Cx} {c : Code} {fr : Fr} {H : List Bk} {K : Exit → Fr → List Bk → Prop} (fr1 : Fr) (H1 : List Bk) (he : EntP fr H fr1 H1) (hh : cx.h0 ≤ H1.length) (h : CodeP P cx c fr1 H1 K) : CodeP P cx c fr H K :=
  ⟨fun B E a w hnt hr => h.run B _ a w hnt (EntP.rel (Nat.le_trans hnt.2 hh) he hr)⟩
end Go.Proofs.Ytdhfakajlnidiaa
namespace Go.Proofs.Ytdhfakajlnidiaa
open Go.ChangeShapes Go.WideShapes Go.ChangeAt Go.RowKit

/-! From the form's reading of the arguments to data. -/
def allE (w : World) : Env := Env.of fun b => b < w.heap.size
/-- every reading of type t by the form gives data -/
def OpD (P : Program) (t : TypeId) {α : Type} (c : α → List D) (ok : α → Prop) : Prop :=
  ∀ {H : Type} (enc : TypeId × Value → H) (w : World) (spare : Nat → Bool) (held : Bool) (fuel : Nat) (cs : List Value) (x : DataW H × List MemPlace),
    DataW.trod enc P w 0 spare held fuel t cs = some x → ∃ a, ok a ∧ cs.length = (c a).length ∧ ∀ (i : Nat) d v, (c a)[i]? = some d → cs[i]? = some v → DRep w (allE w) d v
theorem InR.of_wf {k : IntKind} {z : Int} (h : (Lit.int k z).wf = true) : InR k z := by
  simpa [Lit.wf, InR] using h
theorem opd_int {P : Program} {t : TypeId} (ht : P.underlying t = some (.int .i64)) : OpD P t (fun x : Int => [.int .i64 (.var x)]) (fun _ => True) := fun enc w spare held fuel cs x h => by
  obtain ⟨z, rfl, _, h2⟩ := DataW.trod_int ht h
  refine ⟨z, trivial, rfl, fun i d v hd hv => ?_⟩
  match i, hd, hv with
  | 0, hd, hv => cases hd; cases hv; exact .int (e := .var z) (InR.of_wf h2)
theorem opd_u8 {P : Program} {t : TypeId} (ht : P.underlying t = some (.int .u8)) : OpD P t (fun b : BitVec 8 => [.int .u8 (.u8 b)]) (fun _ => True) := fun enc w spare held fuel cs x h => by
  obtain ⟨z, rfl, _, h2⟩ := DataW.trod_int ht h
  have hz := InR.of_wf h2
  have hz2 : 0 ≤ z ∧ z ≤ 255 := by unfold InR IntKind.min IntKind.max at hz; simpa [IntKind.signed, IntKind.bits] using hz
  have e : (IE.u8 (BitVec.ofInt 8 z)).den = z := by
    simp only [IE.den, BitVec.toNat_ofInt]
    omega
  refine ⟨BitVec.ofInt 8 z, trivial, rfl, fun i d v hd hv => ?_⟩
  match i, hd, hv with
  | 0, hd, hv =>
    cases hd; cases hv
    have := DRep.int (w := w) (E := allE w) (k := .u8) (e := .u8 (BitVec.ofInt 8 z)) (by rw [e]; exact hz)
    rwa [e] at this
theorem opd_bool {P : Program} {t : TypeId} (ht : P.underlying t = some .bool) : OpD P t (fun b : Bool => [.bool (.var b)]) (fun _ => True) := fun enc w spare held fuel cs x h => by
  obtain ⟨z, rfl, _⟩ := DataW.trod_bool ht h
  refine ⟨z, trivial, rfl, fun i d v hd hv => ?_⟩
  match i, hd, hv with
  | 0, hd, hv => cases hd; cases hv; exact .bool (e := .var z)
abbrev slC {α : Type} (n : Nat) (c : α → List D) (p : Bool × List α) : List D := [.slm n (some (.var p.1)) c p.2]
theorem opd_slice {α : Type} {P : Program} {t e : TypeId} {n : Nat} {c : α → List D} {ok : α → Prop} (ht : P.underlying t = some (.slice e)) (hn : P.cellsOf e = n) (hpos : 0 < n) (hR : OpD P e c ok) (hc : ∀ a, (c a).length = n) :
    OpD P t (slC n c) (fun p => (p.1 = true → p.2 = []) ∧ (∀ x ∈ p.2, ok x) ∧ p.2.length ≤ maxLen) := fun enc w spare held fuel cs x h => by
  rcases Go.Deep.open_slice ht h with ⟨rfl, _⟩ | ⟨a, len, cap, m, k, D, Pl, rfl, _, hl, hm, hmm, _, hx⟩
  · refine ⟨(true, []), ⟨fun _ => rfl, fun x h => by simp at h, by simp⟩, rfl, fun i d v hd hv => ?_⟩
    match i, hd, hv with
    | 0, hd, hv =>
      cases hd; cases hv
      exact DRep.slm (a := none) (fun _ _ => undef) (fun e he => by cases he; rfl) (Nat.le_refl _) (Nat.zero_le _) (fun x hx => by simp at hx) (fun h => absurd rfl h) (fun i x j d h => by simp at h)
  · have hlm : len ≤ m := by rw [hmm]; split <;> omega
    have e0 : ∀ i, i < m → ∃ z : α, ∃ es, (ok z ∧ es.length = (c z).length ∧ ∀ (i : Nat) d v, (c z)[i]? = some d → es[i]? = some v → DRep w (allE w) d v) ∧ w.cells? 0 (a.add (i * n)) n = some es := fun i hi => by
      obtain ⟨es, h2, h3⟩ := hx i hi
      rw [hn] at h2
      obtain ⟨z, hz⟩ := hR enc w spare held k es _ h3
      exact ⟨z, es, hz, h2⟩
    by_cases h0 : len = 0
    · subst h0
      refine ⟨(false, []), ⟨fun h => by simp at h, fun x h => by simp at h, by simp⟩, rfl, fun i d v hd hv => ?_⟩
      match i, hd, hv with
      | 0, hd, hv =>
        cases hd; cases hv
        exact DRep.slm (a := some a) (fun _ _ => undef) (fun e he => by cases he; rfl) (Nat.zero_le _) hm (fun x hx => by simp at hx) (fun h => absurd rfl h) (fun i x j d h => by simp at h)
    · obtain ⟨z0, _⟩ := e0 0 (by omega)
      have : Inhabited α := ⟨z0⟩
      obtain ⟨z, hz⟩ := Go.Deep.choose_lt e0
      obtain ⟨b, off, spot⟩ := a
      have hspot : spot = none := by
        obtain ⟨es0, _, hc0⟩ := hz 0 (by omega)
        obtain ⟨_, hlen0, hcell0⟩ := World.cells?_some hc0
        have this := hcell0 0 hpos
        rw [List.getElem?_eq_getElem (by omega)] at this
        have h9 := World.cell?_spot this
        simpa [Addr.add] using h9
      subst hspot
      have cell : ∀ i, i < len → ∃ es : List Value, (∀ j, j < n → w.cell? ⟨b, off + i * n + j, none⟩ = es[j]?) ∧ es.length = n ∧ (ok (z i) ∧ es.length = (c (z i)).length ∧ ∀ (j : Nat) d v, (c (z i))[j]? = some d → es[j]? = some v → DRep w (allE w) d v) := fun i hi => by
        obtain ⟨es, hr, hcc⟩ := hz i (by omega)
        obtain ⟨_, hlen, hcell⟩ := World.cells?_some hcc
        refine ⟨es, fun j hj => ?_, hlen, hr⟩
        have := hcell j hj
        rw [add_none, add_none] at this
        exact this
      have hbl : b < w.heap.size := by
        obtain ⟨es, h1, h2, _⟩ := cell 0 (by omega)
        have := h1 0 hpos
        rw [List.getElem?_eq_getElem (by omega)] at this
        exact World.block_lt_of_cell? w ⟨b, _, none⟩ this
      refine ⟨(false, (List.range len).map z), ⟨fun h => by simp at h, fun x hx => ?_, by simp; omega⟩, rfl, fun i d v hd hv => ?_⟩
      · simp only [List.mem_map, List.mem_range] at hx
        obtain ⟨i, hi, rfl⟩ := hx
        obtain ⟨_, _, _, h3, _⟩ := cell i hi
        exact h3
      · match i, hd, hv with
        | 0, hd, hv =>
          cases hd; cases hv
          have hl2 : ((List.range len).map z).length = len := by simp
          have key := DRep.slm (w := w) (E := allE w) (n := n) (nb := some (.var false)) (c := c) (l := (List.range len).map z) (a := some ⟨b, off, none⟩) (cap := cap) (fun i j => (w.cell? ⟨b, off + i * n + j, none⟩).getD undef) (fun e he => by cases he; rfl) (by omega) hm (fun x hx => hc x) (fun _ => ⟨b, off, rfl, hbl, fun i j hi hj => ?_⟩) fun i x j d hx hd => ?_
          · rwa [hl2] at key
          · obtain ⟨es, h1, h2, _⟩ := cell i (by omega)
            rw [h1 j hj, List.getElem?_eq_getElem (by omega)]
            rfl
          · simp only [List.getElem?_map, Option.map_eq_some_iff] at hx
            obtain ⟨i', hi', rfl⟩ := hx
            obtain ⟨hlt, rfl⟩ := List.getElem?_eq_some_iff.1 hi'
            simp only [List.getElem_range] at hd ⊢
            obtain ⟨es, h1, h2, _, h3, h4⟩ := cell i (by simpa using hlt)
            have hj := (List.getElem?_eq_some_iff.1 hd).1
            rw [h1 j (by omega), List.getElem?_eq_getElem (by omega)]
            exact h4 j d _ hd (List.getElem?_eq_getElem (by omega))
section
variable {H : Type} {enc : TypeId × Value → H} {P : Program} {w : World} {spare : Nat → Bool} {held : Bool} {v : Value} {d : DataW H} {p : List MemPlace} {r : Reach} {b0 : Nat} {t : TypeId} {α : Type}
theorem open_sl {e : TypeId} {n : Nat} {c : α → List D} {ok : Bool × List α → Prop} (ht : P.underlying t = some (.slice e)) (ho : OpD P t (slC n c) ok) (hv : Value.okWide P w r b0 t v) (h : DataW.Trod enc P w 0 spare held t v d p) : ∃ p, ok p ∧ DRep w (allE w) (.slm n (some (.var p.1)) c p.2) v := by
  obtain ⟨a, m, k, rfl⟩ := okWide_slice ht hv
  obtain ⟨fuel, hf⟩ := h
  obtain ⟨p, h1, h2, h3⟩ := ho enc w spare held fuel _ _ hf
  exact ⟨p, h1, h3 0 _ _ rfl rfl⟩
theorem open_st {fs : Array Field} {c : α → List D} {ok : α → Prop} (ht : P.underlying t = some (.struct fs)) (ho : OpD P t c ok) (hv : Value.okWide P w r b0 t v) (h : DataW.Trod enc P w 0 spare held t v d p) : ∃ a, ok a ∧ DRep w (allE w) (.agg (c a)) v := by
  obtain ⟨cs, rfl, _⟩ := okWide_struct ht hv
  obtain ⟨fuel, hf⟩ := h
  obtain ⟨a, h1, h2, h3⟩ := ho enc w spare held fuel cs.toList _ hf
  exact ⟨a, h1, .agg (by rw [← h2]; simp) fun i d v hd hv => h3 i d v hd (by simpa using hv)⟩
theorem open_i (ht : P.underlying t = some (.int .i64)) (hv : Value.okWide P w r b0 t v) (h : DataW.Trod enc P w 0 spare held t v d p) : ∃ z, InR .i64 z ∧ DRep w (allE w) (.int .i64 (.var z)) v := by
  obtain ⟨z, rfl, rfl, rfl, wf⟩ := open_int ht hv h
  exact ⟨z, InR.of_wf wf, .int (e := .var z) (InR.of_wf wf)⟩
end
theorem LRep.nil {w : World} {E : Env} : LRep w E [] #[] := ⟨rfl, fun i d v h => by simp at h⟩
theorem lrep_cons {w : World} {E : Env} {d : D} {l : List D} {v : Value} {vs : List Value} (h : DRep w E d v) (r : LRep w E l ⟨vs⟩) : LRep w E (d :: l) ⟨v :: vs⟩ := by
  refine ⟨by have := r.1; simp at this ⊢; omega, fun i d' v' hd hv => ?_⟩
  cases i with
  | zero => simp at hd hv; subst hd hv; exact h
  | succ i => exact r.2 i d' v' (by simpa using hd) (by simpa using hv)
theorem Pure.law {P : Program} {f : Nat} {args : List D} {w : World} {vs : List Value} (h : Pure P f args (.bool (.var true))) (hL : Laid w (allE w).G) (hr : LRep w (allE w) args ⟨vs⟩) : Calls P f ⟨vs⟩ w fun e w' => e = .returned (.bool true) ∧ Below w.heap.size w w' := by
  refine (h.2 w _ _ hL (fun _ hb => hb) hr).mono ?_
  rintro e w' ⟨v, G', rfl, h2, _, _, _, h6⟩
  cases h6
  exact ⟨rfl, h2⟩
theorem open_u8 {H : Type} {enc : TypeId × Value → H} {P : Program} {w : World} {spare : Nat → Bool} {held : Bool} {v : Value} {d : DataW H} {p : List MemPlace} {r : Reach} {b0 : Nat} {t : TypeId} (ht : P.underlying t = some (.int .u8)) (hv : Value.okWide P w r b0 t v) (h : DataW.Trod enc P w 0 spare held t v d p) : ∃ b : BitVec 8, DRep w (allE w) (.int .u8 (.u8 b)) v := by
  obtain ⟨z, rfl, _, _, _⟩ := open_int ht hv h
  obtain ⟨fuel, hf⟩ := h
  obtain ⟨b, _, _, h3⟩ := opd_u8 ht enc w spare held fuel _ _ hf
  exact ⟨b, h3 0 _ _ rfl rfl⟩
end Go.Proofs.Ytdhfakajlnidiaa
namespace Go.Proofs.Ytdhfakajlnidiaa
open Go.RowKit

/-! The types of the program, and its data as lists and numbers. -/
def TL : TabL :=
  [(3, ⟨.int .i64, 1, 8, .int .i64 0⟩),
   (4, ⟨.bool, 1, 1, .bool false⟩),
   (32, ⟨.slice 3, 1, 24, .slice none 0 0⟩),
   (29, ⟨.struct [(0, 1, false), (1, 1, false), (2, 1, false), (3, 1, false), (4, 1, false), (5, 1, false)], 6, 144, .agg #[.slice none 0 0, .slice none 0 0, .slice none 0 0, .slice none 0 0, .slice none 0 0, .slice none 0 0]⟩),
   (33, ⟨.int .i64, 1, 8, .int .i64 0⟩),
   (79, ⟨.struct [(0, 1, false), (1, 1, false), (2, 1, false), (3, 1, false), (4, 1, false), (5, 1, false)], 6, 72, .agg #[.int .i64 0, .int .i64 0, .int .i64 0, .string ⟨#[]⟩, .int .i64 0, .slice none 0 0]⟩),
   (24, ⟨.slice 77, 1, 24, .slice none 0 0⟩),
   (25, ⟨.slice 50, 1, 24, .slice none 0 0⟩),
   (53, ⟨.struct [(0, 1, false), (1, 1, false)], 2, 16, .agg #[.int .i64 0, .map none]⟩),
   (50, ⟨.struct [(0, 1, false), (1, 1, false), (2, 1, false), (3, 1, false), (4, 1, false)], 5, 96, .agg #[.string ⟨#[]⟩, .int .i64 0, .slice none 0 0, .slice none 0 0, .slice none 0 0]⟩),
   (92, ⟨.struct [(0, 6, true)], 6, 144, .agg #[.slice none 0 0, .slice none 0 0, .slice none 0 0, .slice none 0 0, .slice none 0 0, .slice none 0 0]⟩),
   (46, ⟨.slice 73, 1, 24, .slice none 0 0⟩),
   (22, ⟨.slice 9, 1, 24, .slice none 0 0⟩),
   (94, ⟨.struct [(0, 6, true), (6, 5, true)], 11, 240, .agg #[.slice none 0 0, .slice none 0 0, .slice none 0 0, .slice none 0 0, .slice none 0 0, .slice none 0 0, .string ⟨#[]⟩, .int .i64 0, .slice none 0 0, .slice none 0 0, .slice none 0 0]⟩),
   (40, ⟨.map 3 4, 1, 8, .map none⟩),
   (56, ⟨.slice 32, 1, 24, .slice none 0 0⟩),
   (71, ⟨.struct [(0, 1, false), (1, 1, false), (2, 1, false), (3, 1, false), (4, 1, false)], 5, 56, .agg #[.string ⟨#[]⟩, .string ⟨#[]⟩, .int .i64 0, .int .i64 0, .int .i64 0]⟩),
   (108, ⟨.slice 3, 1, 24, .slice none 0 0⟩),
   (162, ⟨.int .u64, 1, 8, .int .u64 0⟩),
   (73, ⟨.struct [(0, 1, false), (1, 1, false), (2, 1, false), (3, 5, true)], 8, 96, .agg #[.string ⟨#[]⟩, .string ⟨#[]⟩, .int .i64 0, .string ⟨#[]⟩, .string ⟨#[]⟩, .int .i64 0, .int .i64 0, .int .i64 0]⟩),
   (23, ⟨.slice 98, 1, 24, .slice none 0 0⟩),
   (77, ⟨.struct [(0, 1, false), (1, 1, false), (2, 1, false), (3, 1, false), (4, 1, false), (5, 1, false)], 6, 96, .agg #[.string ⟨#[]⟩, .string ⟨#[]⟩, .int .i64 0, .int .i64 0, .slice none 0 0, .slice none 0 0]⟩),
   (74, ⟨.slice 82, 1, 24, .slice none 0 0⟩),
   (160, ⟨.int .u64, 1, 8, .int .u64 0⟩),
   (59, ⟨.map 3 3, 1, 8, .map none⟩),
   (51, ⟨.map 3 40, 1, 8, .map none⟩),
   (128, ⟨.int .u64, 1, 8, .int .u64 0⟩),
   (27, ⟨.slice 90, 1, 24, .slice none 0 0⟩),
   (107, ⟨.ptr 110, 1, 8, .pointer none⟩),
   (130, ⟨.other, 1, 16, .nilIface⟩),
   (158, ⟨.int .u32, 1, 4, .int .u32 0⟩),
   (98, ⟨.struct [(0, 1, false), (1, 1, false), (2, 1, false), (3, 1, false), (4, 1, false)], 5, 56, .agg #[.string ⟨#[]⟩, .string ⟨#[]⟩, .int .i64 0, .int .i64 0, .int .i64 0]⟩),
   (138, ⟨.slice 79, 1, 24, .slice none 0 0⟩),
   (115, ⟨.struct [(0, 1, false), (1, 5, true), (6, 5, true)], 11, 120, .agg #[.int .i64 0, .string ⟨#[]⟩, .string ⟨#[]⟩, .int .i64 0, .int .i64 0, .int .i64 0, .string ⟨#[]⟩, .string ⟨#[]⟩, .int .i64 0, .int .i64 0, .int .i64 0]⟩),
   (63, ⟨.func, 1, 8, .nilFunc⟩),
   (90, ⟨.struct [(0, 1, false), (1, 1, false), (2, 1, false)], 3, 48, .agg #[.string ⟨#[]⟩, .slice none 0 0, .int .i64 0]⟩),
   (9, ⟨.str, 1, 16, .string ⟨#[]⟩⟩),
   (110, ⟨.struct [(0, 1, false)], 1, 24, .agg #[.slice none 0 0]⟩),
   (20, ⟨.other, 1, 16, .nilIface⟩),
   (150, ⟨.int .i64, 1, 8, .int .i64 0⟩),
   (68, ⟨.slice 4, 1, 24, .slice none 0 0⟩),
   (75, ⟨.slice 84, 1, 24, .slice none 0 0⟩),
   (82, ⟨.struct [(0, 1, false), (1, 6, true), (7, 4, true)], 11, 120, .agg #[.string ⟨#[]⟩, .int .i64 0, .int .i64 0, .int .i64 0, .string ⟨#[]⟩, .int .i64 0, .slice none 0 0, .int .i64 0, .int .i64 0, .int .i64 0, .int .i64 0]⟩),
   (95, ⟨.func, 1, 8, .nilFunc⟩),
   (118, ⟨.struct [(0, 1, false), (1, 1, false), (2, 5, true)], 7, 80, .agg #[.string ⟨#[]⟩, .int .i64 0, .string ⟨#[]⟩, .string ⟨#[]⟩, .int .i64 0, .int .i64 0, .int .i64 0]⟩),
   (5, ⟨.int .u8, 1, 1, .int .u8 0⟩),
   (47, ⟨.slice 115, 1, 24, .slice none 0 0⟩),
   (48, ⟨.slice 118, 1, 24, .slice none 0 0⟩),
   (26, ⟨.slice 87, 1, 24, .slice none 0 0⟩),
   (88, ⟨.slice 125, 1, 24, .slice none 0 0⟩),
   (99, ⟨.func, 1, 8, .nilFunc⟩),
   (101, ⟨.func, 1, 8, .nilFunc⟩),
   (104, ⟨.func, 1, 8, .nilFunc⟩),
   (168, ⟨.map 9 4, 1, 8, .map none⟩),
   (169, ⟨.ptr 162, 1, 8, .pointer none⟩),
   (125, ⟨.struct [(0, 1, false), (1, 1, false), (2, 1, false), (3, 1, false)], 4, 48, .agg #[.string ⟨#[]⟩, .string ⟨#[]⟩, .int .i64 0, .int .i64 0]⟩),
   (146, ⟨.arr 5 145, 5, 40, .agg #[.nilFunc, .nilFunc, .nilFunc, .nilFunc, .nilFunc]⟩),
   (42, ⟨.func, 1, 8, .nilFunc⟩),
   (166, ⟨.ptr 3, 1, 8, .pointer none⟩),
   (62, ⟨.func, 1, 8, .nilFunc⟩),
   (80, ⟨.arr 4 3, 4, 32, .agg #[.int .i64 0, .int .i64 0, .int .i64 0, .int .i64 0]⟩),
   (66, ⟨.func, 1, 8, .nilFunc⟩),
   (139, ⟨.slice 71, 1, 24, .slice none 0 0⟩),
   (85, ⟨.slice 187, 1, 24, .slice none 0 0⟩),
   (84, ⟨.struct [(0, 1, false), (1, 1, false), (2, 1, false), (3, 1, false)], 4, 72, .agg #[.slice none 0 0, .string ⟨#[]⟩, .slice none 0 0, .int .i64 0]⟩),
   (87, ⟨.struct [(0, 1, false), (1, 1, false), (2, 1, false), (3, 1, false), (4, 1, false)], 5, 72, .agg #[.string ⟨#[]⟩, .string ⟨#[]⟩, .int .i64 0, .int .i64 0, .slice none 0 0]⟩),
   (6, ⟨.int .u8, 1, 1, .int .u8 0⟩),
   (145, ⟨.func, 1, 8, .nilFunc⟩)]
def T : Tab := fun t => TL.get t
theorem T_ok : T.ok Try.prog := by
  refine TabL.ok (L := TL) ?_
  intro p hp
  simp only [TL, List.mem_cons, List.not_mem_nil, or_false] at hp
  rcases hp with rfl | rfl | rfl | rfl | rfl | rfl | rfl | rfl | rfl | rfl | rfl | rfl | rfl | rfl | rfl | rfl | rfl | rfl | rfl | rfl | rfl | rfl | rfl | rfl | rfl | rfl | rfl | rfl | rfl | rfl | rfl | rfl | rfl | rfl | rfl | rfl | rfl | rfl | rfl | rfl | rfl | rfl | rfl | rfl | rfl | rfl | rfl | rfl | rfl | rfl | rfl | rfl | rfl | rfl | rfl | rfl | rfl | rfl | rfl | rfl | rfl | rfl | rfl | rfl | rfl | rfl | rfl | rfl <;> kernel_rfl
theorem follows : Try.prog.follows .mixedOrders = true := by kernel_rfl
abbrev intC (x : Int) : List D := [.int .i64 (.var x)]
abbrev natC (n : Nat) : List D := [.int .i64 (.nat n)]
abbrev strC (s : ByteArray) : List D := [.str s]
structure UnitD where
  name : ByteArray
  of : ByteArray
  factor : Int
  base : Int
  scale : Int
abbrev UnitD.c (x : UnitD) : List D := [.str x.name, .str x.of, .int .i64 (.var x.factor), .int .i64 (.var x.base), .int .i64 (.var x.scale)]
structure TypeD where
  kind : Int
  lo : Int
  hi : Int
  of : ByteArray
  unit : Int
  nnames : Bool
  names : List ByteArray
abbrev TypeD.c (x : TypeD) : List D := [.int .i64 (.var x.kind), .int .i64 (.var x.lo), .int .i64 (.var x.hi), .str x.of, .int .i64 (.var x.unit), .slm 1 (some (.var x.nnames)) strC x.names]
structure FieldD where
  name : ByteArray
  type : TypeD
  w0 : Int
  w1 : Int
  w2 : Int
  w3 : Int
abbrev FieldD.c (x : FieldD) : List D := [.str x.name] ++ x.type.c ++ [.int .i64 (.var x.w0), .int .i64 (.var x.w1), .int .i64 (.var x.w2), .int .i64 (.var x.w3)]
structure DependD where
  nnames : Bool
  names : List ByteArray
  name : ByteArray
  nfrom_ : Bool
  from_ : List Int
  to : Int
abbrev DependD.c (x : DependD) : List D := [.slm 1 (some (.var x.nnames)) strC x.names, .str x.name, .slm 1 (some (.var x.nfrom_)) intC x.from_, .int .i64 (.var x.to)]
structure SchemaD where
  name : ByteArray
  by_ : ByteArray
  issuer : Int
  version : Int
  nfields : Bool
  fields : List FieldD
  ndepends : Bool
  depends : List DependD
abbrev SchemaD.c (x : SchemaD) : List D := [.str x.name, .str x.by_, .int .i64 (.var x.issuer), .int .i64 (.var x.version), .slm 11 (some (.var x.nfields)) FieldD.c x.fields, .slm 4 (some (.var x.ndepends)) DependD.c x.depends]
structure TermD where
  name : ByteArray
  path : ByteArray
  vr : Int
  field : Int
  n : Int
abbrev TermD.c (x : TermD) : List D := [.str x.name, .str x.path, .int .i64 (.var x.vr), .int .i64 (.var x.field), .int .i64 (.var x.n)]
structure AtomD where
  op : Int
  a : TermD
  b : TermD
abbrev AtomD.c (x : AtomD) : List D := [.int .i64 (.var x.op)] ++ x.a.c ++ x.b.c
structure FromD where
  name : ByteArray
  kind : ByteArray
  schema : Int
  of : TermD
abbrev FromD.c (x : FromD) : List D := [.str x.name, .str x.kind, .int .i64 (.var x.schema)] ++ x.of.c
structure SetD where
  path : ByteArray
  field : Int
  term : TermD
abbrev SetD.c (x : SetD) : List D := [.str x.path, .int .i64 (.var x.field)] ++ x.term.c
structure RuleD where
  head : ByteArray
  schema : Int
  nfroms : Bool
  froms : List FromD
  nwhere_ : Bool
  where_ : List AtomD
  nsets : Bool
  sets : List SetD
abbrev RuleD.c (x : RuleD) : List D := [.str x.head, .int .i64 (.var x.schema), .slm 8 (some (.var x.nfroms)) FromD.c x.froms, .slm 11 (some (.var x.nwhere_)) AtomD.c x.where_, .slm 7 (some (.var x.nsets)) SetD.c x.sets]
structure MoveD where
  to : ByteArray
  from_ : ByteArray
  b : Int
  a : Int
  shift : Int
abbrev MoveD.c (x : MoveD) : List D := [.str x.to, .str x.from_, .int .i64 (.var x.b), .int .i64 (.var x.a), .int .i64 (.var x.shift)]
structure ConvertD where
  from_ : ByteArray
  to : ByteArray
  a : Int
  b : Int
  nmoves : Bool
  moves : List MoveD
abbrev ConvertD.c (x : ConvertD) : List D := [.str x.from_, .str x.to, .int .i64 (.var x.a), .int .i64 (.var x.b), .slm 5 (some (.var x.nmoves)) MoveD.c x.moves]
structure RefD where
  name : ByteArray
  path : ByteArray
  schema : Int
  field : Int
abbrev RefD.c (x : RefD) : List D := [.str x.name, .str x.path, .int .i64 (.var x.schema), .int .i64 (.var x.field)]
structure PurposeD where
  name : ByteArray
  nmay : Bool
  may : List RefD
  most : Int
abbrev PurposeD.c (x : PurposeD) : List D := [.str x.name, .slm 4 (some (.var x.nmay)) RefD.c x.may, .int .i64 (.var x.most)]
structure SourceD where
  nissuers : Bool
  issuers : List ByteArray
  nunits : Bool
  units : List UnitD
  nschemas : Bool
  schemas : List SchemaD
  nrules : Bool
  rules : List RuleD
  nconverts : Bool
  converts : List ConvertD
  npurposes : Bool
  purposes : List PurposeD
abbrev SourceD.c (x : SourceD) : List D := [.slm 1 (some (.var x.nissuers)) strC x.issuers, .slm 5 (some (.var x.nunits)) UnitD.c x.units, .slm 6 (some (.var x.nschemas)) SchemaD.c x.schemas, .slm 5 (some (.var x.nrules)) RuleD.c x.rules, .slm 5 (some (.var x.nconverts)) ConvertD.c x.converts, .slm 3 (some (.var x.npurposes)) PurposeD.c x.purposes]
abbrev i64 (x : Int) : D := .int .i64 (.var x)
abbrev boolD (b : Bool) : D := .bool (.var b)
theorem ncast (n : Nat) : @NatCast.natCast Int instNatCastInt n = (n : Int) := rfl
theorem drop_cons {α : Type} {l : List α} {k : Nat} {x : α} (h : l[k]? = some x) : l.drop k = x :: l.drop (k + 1) := by
  obtain ⟨h1, h2⟩ := List.getElem?_eq_some_iff.1 h
  rw [List.drop_eq_getElem_cons h1, h2]
theorem w64 {x : Int} (h1 : -9223372036854775808 ≤ x) (h2 : x ≤ 9223372036854775807) : IntKind.i64.wrap x = x := by
  rw [IntKind.wrap_i64]; omega
theorem add64 {a b : Int} (h1 : -9223372036854775808 ≤ a + b) (h2 : a + b ≤ 9223372036854775807) : binDen .add .i64 a b = a + b := w64 h1 h2
theorem sub64 {a b : Int} (h1 : -9223372036854775808 ≤ a - b) (h2 : a - b ≤ 9223372036854775807) : binDen .sub .i64 a b = a - b := w64 h1 h2
end Go.Proofs.Ytdhfakajlnidiaa
