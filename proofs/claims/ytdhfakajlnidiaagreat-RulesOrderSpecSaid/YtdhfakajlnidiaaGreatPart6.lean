/- Part 6 of the walks and laws that these claims rest on. No condition. -/
import Derived.LoopN
import Derived.Test.YtdhfakajlnidiaaGreatPart5
set_option linter.all false
set_option linter.unusedSimpArgs false
set_option linter.unusedVariables false
set_option linter.unnecessarySimpa false
namespace Go.Proofs.YtdhfakajlnidiaaGreat
open Go.RowKit

/-! A slice that is nil becomes a row of the call's own, with nothing in it. -/
theorem WRel.virtr {B : Base} {H : List Bk} {E : Env} {w : World} (hw : WRel B H E w) (e n : Nat) : WRel B (H ++ [.row e n 1 (.lits [])]) (E.upd H.length none 1 0) w ∧ E.le w w (E.upd H.length none 1 0) ∧ E.own (E.upd H.length none 1 0) := by
  have hκ := (hw.out H.length (Nat.le_refl _)).2
  obtain ⟨r1, r2, r3⟩ := (hw.ext [.dead]).redo (w' := w) (x := H.length) (k := 1) (z := 0) (c := none) (b' := .row e n 1 (.lits [])) (by simp) (by omega) (fun _ _ _ => rfl) (Nat.le_refl _) hw.bel (fun d hd => by cases hd) rfl (fun _ _ d hd => by cases hd) (fun _ => rfl)
  have hset : (H ++ [Bk.dead]).set H.length (.row e n 1 (.lits [])) = H ++ [.row e n 1 (.lits [])] := by
    rw [List.set_append_right _ _ (Nat.le_refl _)]; simp
  rw [hset] at r1
  exact ⟨r1, r2, r3⟩
theorem osl_virt {H : List Bk} {E : Env} {w : World} {n : Nat} {v : Value} (h : DRep w E .nils v) : DRep w (E.upd H.length none 1 0) (.osl n H.length 1 (.lit true) (.lit 0) (.lit 0)) v := by
  cases h
  exact .osln (by simp [Env.upd]) (by simp [Env.upd]) rfl rfl rfl
theorem CodeP.virt {P : Program} {cx : Cx} {c : Code} {fr : Fr} {H : List Bk} {K : Exit → Fr → List Bk → Prop} (t e n : Nat) (ht : fr.get t = .nils) (h : CodeP P cx c (fr.set t (.osl n H.length 1 (.lit true) (.lit 0) (.lit 0))) (H ++ [.row e n 1 (.lits [])]) K) : CodeP P cx c fr H K := by
  refine ⟨fun B E a w hnt hr => ?_⟩
  obtain ⟨r1, r2, r3⟩ := hr.wr.virtr e n
  refine h.run B _ a w hnt ⟨hr.sz, hr.df, fun k => ?_, r1⟩
  show DRep w _ (Fr.get (Fr.set fr t _) k) _
  rw [Fr.get_set]
  have hk := hr.fr k
  by_cases q : t = k
  · subst q
    rw [if_pos rfl]
    simp only [ht] at hk
    exact osl_virt hk
  · rw [if_neg q]
    exact hk.move r2 r3
theorem CodeP.virtc {P : Program} {cx : Cx} {c : Code} {fr : Fr} {H : List Bk} {K : Exit → Fr → List Bk → Prop} (b i e n : Nat) (l : List D) (hb : H[b]? = some (.cells l)) (hi : l[i]? = some .nils)
    (h : CodeP P cx c fr (H.set b (.cells (l.set i (.osl n H.length 1 (.lit true) (.lit 0) (.lit 0)))) ++ [.row e n 1 (.lits [])]) K) : CodeP P cx c fr H K := by
  refine ⟨fun B E a w hnt hr => ?_⟩
  obtain ⟨r1, r2, r3⟩ := hr.wr.virtr e n
  have hlt : b < H.length := (List.getElem?_eq_some_iff.1 hb).1
  refine h.run B _ a w hnt ⟨hr.sz, hr.df, fun k => (hr.fr k).move r2 r3, ⟨r1.inj, r1.own, r1.wf, fun x bk hx => ?_, fun x hx => r1.out x (by simpa using hx), r1.good, r1.g0, r1.gn, r1.bel, r1.phi⟩⟩
  by_cases q : x = b
  · subst q
    rw [List.getElem?_append_left (by simpa using hlt), List.getElem?_set_self hlt] at hx
    cases hx
    rcases r1.heap x (.cells l) (by rw [List.getElem?_append_left hlt]; exact hb) with q | ⟨q1, q2, q3⟩
    · exact .inl q
    · refine .inr ⟨q1, fun c' hc' => ?_, fun hn => (q3 hn).elim⟩
      obtain ⟨cs, t, g1, g2, gz, g3⟩ := q2 c' hc'
      have hne : ¬ x = H.length := by omega
      have hs0 : E.σ x = some c' := by simpa [Env.upd, hne] using hc'
      refine ⟨cs, t, g1, by simpa using g2, by simpa using gz, fun j d hd => ?_⟩
      rw [List.getElem?_set] at hd
      by_cases hj : i = j
      · subst hj
        simp only [if_true] at hd
        split at hd
        · cases hd
          rcases hr.wr.heap x (.cells l) hb with z | ⟨_, z, _⟩
          · rw [z.2] at hs0; cases hs0
          · obtain ⟨cs2, t2, k1, _, _, k3⟩ := z c' hs0
            obtain ⟨v, k4, k5⟩ := k3 i _ hi
            rw [g1] at k1
            cases k1
            exact ⟨v, k4, osl_virt k5⟩
        · cases hd
      · rw [if_neg hj] at hd
        exact g3 j d hd
  · refine r1.heap x bk ?_
    rcases Nat.lt_or_ge x H.length with z | z
    · rw [List.getElem?_append_left (by simpa using z), List.getElem?_set_ne (fun e => q e.symm)] at hx
      rw [List.getElem?_append_left z]
      exact hx
    · rw [List.getElem?_append_right (by simpa using z)] at hx
      rw [List.getElem?_append_right z]
      simpa using hx
/-! Conveniences: a loop whose head keeps what its body does not write; what the VCs say in plain numbers. -/
def writesL : List Oper → List Nat
  | [] => []
  | o :: os => match o.dst with | some t => t :: writesL os | none => writesL os
def writesC : Code → List Nat
  | .region _ ops _ => writesL ops.toList
  | .seq a b => writesC a ++ writesC b
  | .cond _ a b => writesC a ++ writesC b
  | .block _ c | .loop c | .scope c => writesC c
  | _ => []
def hasN : List Nat → Nat → Bool
  | [], _ => false
  | a :: l, n => if a = n then true else hasN l n
def keep (ws : List Nat) : Fr → Fr
  | [] => []
  | (t, d) :: r => if hasN ws t then keep ws r else (t, d) :: keep ws r
theorem CodeP.loopm {P : Program} {cx : Cx} (hT : cx.T.ok P) (hm : P.follows .mixedOrders = true) {c : Code} {fr : Fr} {H : List Bk} {K : Exit → Fr → List Bk → Prop} {X : Type} (mods : X → Fr) (heap : X → List Bk) (I : X → Prop) (μ : X → Nat) (x0 : X) (hI : I x0) (hh : ∀ x, cx.h0 ≤ (heap x).length)
    (he : EntP fr H (mods x0 ++ keep (writesC c) fr) (heap x0)) (round : ∀ x, I x → vc P cx c (mods x ++ keep (writesC c) fr) (heap x) (loopK (fun x => mods x ++ keep (writesC c) fr) heap I μ x K)) : CodeP P cx (.loop c) fr H K :=
  CodeP.loop hT hm _ heap I μ x0 hI hh he round
/-- the blocks stay as they are -/
theorem CodeP.loopc {P : Program} {cx : Cx} (hT : cx.T.ok P) (hm : P.follows .mixedOrders = true) {c : Code} {fr : Fr} {H : List Bk} {K : Exit → Fr → List Bk → Prop} {X : Type} (mods : X → Fr) (I : X → Prop) (μ : X → Nat) (x0 : X) (hI : I x0) (hh : cx.h0 ≤ H.length)
    (he : FrEnt H H fr (mods x0 ++ keep (writesC c) fr)) (hb : belowAll (mods x0 ++ keep (writesC c) fr) H = true) (round : ∀ x, I x → vc P cx c (mods x ++ keep (writesC c) fr) H (loopK (fun x => mods x ++ keep (writesC c) fr) (fun _ => H) I μ x K)) : CodeP P cx (.loop c) fr H K :=
  CodeP.loop hT hm _ (fun _ => H) I μ x0 hI (fun _ => hh) ⟨he, HEnt.refl H, hb⟩ round
theorem BackP.intro {X : Type} {fr : X → Fr} {H : X → List Bk} {I : X → Prop} {μ : X → Nat} {x : X} {fr2 : Fr} {H2 : List Bk} (y : X) (hy : I y) (hm : μ y < μ x) (he : EntP fr2 H2 (fr y) (H y)) : BackP fr H I μ x fr2 H2 := ⟨⟨y, hy, hm, he⟩⟩
/-- a loop that is walked round by round: for states without letters -/
def vcR (P : Program) (cx : Cx) (c : Code) : Nat → Fr → List Bk → (Exit → Fr → List Bk → Prop) → Prop
  | 0, _, _, _ => StuckC .skip
  | n + 1, fr, H, K => vc P cx c fr H fun e fr H => match e with
    | .normal => vcR P cx c n fr H K
    | e => K e fr H
theorem CodeP.rounds {P : Program} {cx : Cx} (hT : cx.T.ok P) (hm : P.follows .mixedOrders = true) {c : Code} : ∀ (n : Nat) {fr : Fr} {H : List Bk} {K : Exit → Fr → List Bk → Prop}, vcR P cx c n fr H K → CodeP P cx (.loop c) fr H K := by
  have key : ∀ (n : Nat) {fr : Fr} {H : List Bk} {K : Exit → Fr → List Bk → Prop}, vcR P cx c n fr H K → ∀ (B : Base) (E : Env) (a : Act) (w : World), cx.nt = B.nt ∧ B.h0 ≤ cx.h0 → Rel B ⟨fr, H⟩ E a w →
      Code.rounds P c (fun e a' w' => ∃ fr' H' E', K e fr' H' ∧ Rel B ⟨fr', H'⟩ E' a' w') n a w := by
    intro n
    induction n with
    | zero => intro fr H K h; cases h
    | succ n ih =>
      intro fr H K h B E a w hnt hr
      refine Code.wp_mono (fun e a' w' ⟨fr2, H2, E2, q1, q2⟩ => ?_) ((vc_sound hT hm c h).run B E a w hnt hr)
      cases e <;> first | exact ih q1 B E2 a' w' hnt q2 | exact ⟨fr2, H2, E2, q1, q2⟩
  exact fun n {fr H K} h => ⟨fun B E a w hnt hr => wp_loop_rounds n (key n h B E a w hnt hr)⟩
/-- the same function at arguments that say more, and what it gives in other words -/
theorem Pure.args {P : Program} {f : Nat} {args args' : List D} {d : D} (hs : DsEq args args') (h : Pure P f args' d) : Pure P f args d := by
  refine ⟨h.1, fun w G vs hL hG hv => h.2 w G vs hL hG ?_⟩
  obtain ⟨h1, h2⟩ := hs.get
  refine ⟨by rw [← h1]; exact hv.1, fun i d v hd hv' => ?_⟩
  have hlt := (List.getElem?_eq_some_iff.1 hd).1
  have h3 : args[i]? = some (args[i]'(by omega)) := List.getElem?_eq_getElem (by omega)
  exact (h2 i _ d h3 hd).rep (hv.2 i _ v h3 hv')
theorem Pure.res {P : Program} {f : Nat} {args : List D} {d d' : D} (h : Pure P f args d) (he : DEq d d') : Pure P f args d' := by
  refine ⟨h.1, fun w G vs hL hG hv => (h.2 w G vs hL hG hv).mono ?_⟩
  rintro e w' ⟨v, G', q1, q2, q3, q4, q5, q6⟩
  exact ⟨v, G', q1, q2, q3, q4, q5, he.rep q6⟩
theorem wrap_add1 {k : Nat} (h : k < 9223372036854775807) : IntKind.i64.wrap ((k : Int) + 1) = ((k + 1 : Nat) : Int) := by
  rw [IntKind.wrap_i64]; omega
theorem DEq.inc {k : Nat} (h : k < 9223372036854775807) : DEq (.int .i64 (.bin .add .i64 (.nat k) (.lit 1))) (.int .i64 (.nat (k + 1))) := .int (wrap_add1 h)
theorem SnD.refl {H H' : List Bk} (d : D) : SnD H H' d d := .eq (.refl d)
theorem SnD.nat0 {H H' : List Bk} : SnD H H' (.int .i64 (.lit 0)) (.int .i64 (.nat 0)) := .eq (.int rfl)
theorem SnD.inc {H H' : List Bk} {k : Nat} (h : k < 9223372036854775807) : SnD H H' (.int .i64 (.bin .add .i64 (.nat k) (.lit 1))) (.int .i64 (.nat (k + 1))) := .eq (DEq.inc h)
theorem DEq.nat0 : DEq (.int .i64 (.lit 0)) (.int .i64 (.nat 0)) := .int rfl
section
variable {a b : IE} {c d : BE}
theorem BE.lss_t : ((BE.cmp .lss a b).den = true) = (a.den < b.den) := by simp [BE.den, cmpDen]
theorem BE.lss_f : ((BE.cmp .lss a b).den = false) = (b.den ≤ a.den) := by simp [BE.den, cmpDen]
theorem BE.leq_t : ((BE.cmp .leq a b).den = true) = (a.den ≤ b.den) := by simp [BE.den, cmpDen]
theorem BE.leq_f : ((BE.cmp .leq a b).den = false) = (b.den < a.den) := by simp [BE.den, cmpDen]
theorem BE.gtr_t : ((BE.cmp .gtr a b).den = true) = (b.den < a.den) := by simp [BE.den, cmpDen]
theorem BE.gtr_f : ((BE.cmp .gtr a b).den = false) = (a.den ≤ b.den) := by simp [BE.den, cmpDen]
theorem BE.geq_t : ((BE.cmp .geq a b).den = true) = (b.den ≤ a.den) := by simp [BE.den, cmpDen]
theorem BE.geq_f : ((BE.cmp .geq a b).den = false) = (a.den < b.den) := by simp [BE.den, cmpDen]
theorem BE.eql_t : ((BE.cmp .eql a b).den = true) = (a.den = b.den) := by simp [BE.den, cmpDen]
theorem BE.eql_f : ((BE.cmp .eql a b).den = false) = (¬ a.den = b.den) := by simp [BE.den, cmpDen]
theorem BE.neq_t : ((BE.cmp .neq a b).den = true) = (¬ a.den = b.den) := by simp [BE.den, cmpDen]
theorem BE.neq_f : ((BE.cmp .neq a b).den = false) = (a.den = b.den) := by simp [BE.den, cmpDen]
theorem BE.not_t : ((BE.not c).den = true) = (c.den = false) := by simp [BE.den]
theorem BE.not_f : ((BE.not c).den = false) = (c.den = true) := by simp [BE.den]
theorem BE.seq_t {s t : ByteArray} : ((BE.seq s t).den = true) = (s = t) := by simp [BE.den]
theorem BE.seq_f {s t : ByteArray} : ((BE.seq s t).den = false) = (¬ s = t) := by simp [BE.den]
theorem BE.beq_t : ((BE.beq c d).den = true) = (c.den = d.den) := by simp [BE.den]
theorem BE.beq_f : ((BE.beq c d).den = false) = (¬ c.den = d.den) := by simp [BE.den]
theorem BE.var_d {x : Bool} : (BE.var x).den = x := rfl
theorem BE.lit_d {x : Bool} : (BE.lit x).den = x := rfl
theorem IE.var_d {x : Int} : (IE.var x).den = x := rfl
theorem IE.lit_d {x : Int} : (IE.lit x).den = x := rfl
theorem IE.nat_d {x : Nat} : (IE.nat x).den = x := rfl
theorem IE.len_d {α : Type} {l : List α} : (IE.len l).den = l.length := rfl
theorem IE.sum_d : (IE.sum a b).den = a.den + b.den := rfl
end
end Go.Proofs.YtdhfakajlnidiaaGreat
namespace Go.Proofs.YtdhfakajlnidiaaGreat
open Go.RowKit

/-! A function that defers one call of a closure, and ends. -/
theorem LRep.move {w w' : World} {E E' : Env} {l : List D} {vs : Array Value} (h : LRep w E l vs) (h1 : E.le w w' E') (h2 : E.own E') : LRep w' E' l vs := ⟨h.1, fun i d v hd hv => (h.2 i d v hd hv).move h1 h2⟩
theorem LRep.trunc {w : World} {E : Env} {l : List D} {vs : Array Value} {n : Nat} (hl : l.all (D.undr 8 n) = true) (h : LRep w E l vs) : LRep w (E.trunc n) l vs :=
  ⟨h.1, fun i d v hd hv => DRep.trunc 8 (List.all_eq_true.1 hl d (List.mem_of_getElem? hd)) (h.2 i d v hd hv)⟩
theorem undr_all_mono {l : List D} {n m : Nat} (hnm : n ≤ m) (hl : l.all (D.undr 8 n) = true) : l.all (D.undr 8 m) = true := List.all_eq_true.2 fun d hd => D.undr_mono 8 hnm (List.all_eq_true.1 hl d hd)
theorem Pure.introD {P : Program} {f : Nat} {fn : Func} {c1 c3 : Code} {rid : Nat} {o1 o2 : Oper} {t n : Nat} {xs : List Operand} {ats : Array TypeId} {args want : List D} {T : Tab} (hT : T.ok P) (hm : P.follows .mixedOrders = true) (hf : P.funcs[f]? = some fn) (hb : fn.body = some (c1.seq ((Code.region rid ⟨[o1, o2]⟩ false).seq c3)))
    (hn : (fn.name == "runtime.NumGoroutine") = false) {rs : List ResultVar} (hr : fn.results.toList = rs) (hl : decide (args.length ≤ fn.ntmps) = true)
    (g1 : o1.guard = none) (h1 : o1.op = .makeFunc (.func n) ⟨[]⟩ ⟨xs⟩) (d1 : o1.dst = some t) (g2 : o2.guard = none) (d2 : o2.dst = none) (h2 : o2.op = .defer ⟨.value (.tmp t), ⟨[]⟩, ats⟩) (ht : decide (t < fn.ntmps) = true)
    (h : vc P ⟨T, fn.ntmps, 0⟩ c1 (argFr 0 args) [] fun e fr H => match e with
      | .normal => ∃ fr1 H1, EntP fr H fr1 H1 ∧ (xs.map fr1.ev).all (D.undr 8 H1.length) = true ∧ vc P ⟨T, fn.ntmps, H1.length⟩ c3 (fr1.set t (.fn (.func n) [] (xs.map fr1.ev))) H1 (retKD P T rs want n (xs.map fr1.ev))
      | e => StuckX e) : Pure P f args (retD want) := by
  simp only [decide_eq_true_eq] at hl ht
  refine ⟨⟨fn, _, hf, hb, hn⟩, fun w G vs hL hG hv => ?_⟩
  let B : Base := ⟨w, G, fn.ntmps, 0, fun w E => Laid w E.G, fun _ _ _ _ h1 _ h3 => h3.le h1, fun _ _ _ _ h => h, [], fun _ _ h => h⟩
  have h0 := enter_rel (B := B) (fn := fn) hl hv (H := []) ⟨fun x y c h => by simp [Env.of] at h, fun x c h => by simp [Env.of] at h, fun _ _ => rfl, fun x b h => by simp at h, fun _ _ => ⟨rfl, rfl⟩, hG, fun _ h => h, fun _ h => .inl h, Below.refl _ _, hL⟩ rfl rfl
  refine calls_of_wp_defers hf hb (wp_seq (Code.wp_mono (fun e a' w' ⟨fr', H', E', q1, q2⟩ => ?_) ((vc_sound hT hm c1 h).run B _ _ _ ⟨rfl, Nat.le_refl _⟩ h0)))
  cases e with
  | normal =>
    obtain ⟨fr1, H1, qe, k1, k2⟩ := q1
    obtain ⟨E1, q3⟩ : ∃ E1, Rel B ⟨fr1, H1⟩ E1 a' w' := ⟨_, qe.rel (Nat.zero_le _) q2⟩
    clear qe q2 fr' H' E'
    have q2 := q3
    clear q3
    obtain ⟨fr', rfl⟩ : ∃ x, x = fr1 := ⟨_, rfl⟩
    obtain ⟨H', rfl⟩ : ∃ x, x = H1 := ⟨_, rfl⟩
    obtain ⟨E', rfl⟩ : ∃ x, x = E1 := ⟨_, rfl⟩
    refine wp_seq (wp_region_list ?_)
    generalize hcaps : xs.map fr'.ev = caps at k1 k2
    obtain ⟨cv, hcv⟩ : ∃ cv : Array Value, cv = (xs.map a'.eval).toArray := ⟨_, rfl⟩
    have hlr : LRep w' E' caps cv := by
      subst hcaps hcv
      refine ⟨by simp, fun i d v hd hv' => ?_⟩
      simp only [List.getElem?_map, List.getElem?_toArray, Option.map_eq_some_iff] at hd hv'
      obtain ⟨x, hx, rfl⟩ := hd
      obtain ⟨y, hy, rfl⟩ := hv'
      rw [hx] at hy
      cases hy
      exact q2.ev x
    have hfv : DRep w' E' (.fn (.func n) [] caps) (.func (.func n) #[] cv) := .fn (by simp) hlr.1 (fun i d v h => by simp at h) hlr.2
    have hp := q2.put q2.wr (Env.le.refl _ _) (Env.own.refl _) (dst := some t) (by simp [dstB, ht, B]) hfv
    have e1 : (execOp a'.eval o1).run P w' = .ok (.value (.func (.func n) #[] cv)) w' := by
      unfold execOp; rw [h1, hcv]; simp [Instr.makeFunc]
    let d0 : Deferred := ⟨.fn (.func n) cv, #[]⟩
    have e2 : (execOp (a'.put (some t) (.func (.func n) #[] cv)).eval o2).run P w' = .ok (.defer d0) w' := by
      unfold execOp
      rw [h2]
      have : (a'.put (some t) (.func (.func n) #[] cv)).eval (.tmp t) = .func (.func n) #[] cv := eval_put_same (by rw [q2.sz]; exact ht)
      simp [resolve, this, Deferred.ofValue]
      rfl
    have hnd : (a'.put (some t) (.func (.func n) #[] cv)).defers = [] := put_defers'.trans q2.df
    simp only [wpList, Region.wanted, g1, g2, if_true]
    refine .inl ?_
    unfold Oper.wp
    rw [e1, Oper.upon_value, d1]
    refine .inl ?_
    rw [e2, Oper.upon_defer, d2, hnd]
    generalize ha2 : a'.put (some t) (.func (.func n) #[] cv) = a2 at *
    let B2 : Base := ⟨w, G, fn.ntmps, H'.length, fun w E => Laid w E.G ∧ LRep w E caps cv, fun _ _ _ _ h1 h2 h3 => ⟨h3.1.le h1, h3.2.move h1 h2⟩, fun _ _ _ hn h3 => ⟨h3.1, h3.2.trunc (undr_all_mono hn k1)⟩, [d0], fun _ _ h => h.1⟩
    have hr2 : Rel B2 ⟨fr'.set t (.fn (.func n) [] caps), H'⟩ E' { tmps := a2.tmps, defers := [d0] } w' := ⟨hp.sz, rfl, hp.fr, ⟨hp.wr.inj, hp.wr.own, hp.wr.wf, hp.wr.heap, hp.wr.out, hp.wr.good, hp.wr.g0, hp.wr.gn, hp.wr.bel, hp.wr.laid, hlr⟩⟩
    show c3.wp P _ { tmps := a2.tmps, defers := [d0] } w'
    refine Code.wp_mono (fun e a3 w3 ⟨fr3, H3, E3, q3, q4⟩ => ?_) ((vc_sound hT hm c3 k2).run B2 _ _ _ ⟨rfl, Nat.le_refl _⟩ hr2)
    have hd3 : a3.defers = [d0] := q4.df
    have fin : retKD P T rs want n caps .ret fr3 H3 → Leaves P fn a3.tmps (fun e w' => ∃ (v : Value) (G' : Nat → Prop), e = Ending.returned v ∧ Below w.heap.size w w' ∧ (∀ b, G b → G' b) ∧ (∀ b, G' b → G b ∨ w.heap.size ≤ b) ∧ (∀ b, G' b → b < w'.heap.size) ∧ DRep w' (Env.of G') (retD want) v) [d0] .returning w3 := by
      intro hk
      unfold retKD at hk
      simp only at hk
      split at hk
      · next hchk =>
        simp only [Bool.and_eq_true] at hchk
        let B3 : Base := ⟨w, G, fn.ntmps, H3.length, fun w E => Laid w E.G ∧ ∀ t, DRep w E (fr3.get t) (a3.tmps.getD t undef), fun _ _ _ _ h1 h2 h3 => ⟨h3.1.le h1, fun t => (h3.2 t).move h1 h2⟩, fun _ _ _ hn h3 => ⟨h3.1, fun t => DRep.trunc 8 (D.undr_mono 8 hn (Fr.get_undr hchk.1 t)) (h3.2 t)⟩, [d0], fun _ _ h => h.1⟩
        have hw3 : WRel B3 H3 E3 w3 := ⟨q4.wr.inj, q4.wr.own, q4.wr.wf, q4.wr.heap, q4.wr.out, q4.wr.good, q4.wr.g0, q4.wr.gn, q4.wr.bel, q4.wr.laid, q4.fr⟩
        refine leaves_cons (fun h => by cases h) (by show (callFunc n _).run P w3 = _; exact callFunc_here hk.here _ _) ((hk.run B3 w3 E3 _ (Nat.le_refl _) ?_ hw3).mono ?_)
        · have := q4.wr.phi.2
          simpa using this
        · rintro e u' w4 ⟨rfl, v4, E4, d4, H4, rfl, r1, r2, r3⟩
          show Leaves P fn a3.tmps _ [] (settle .returning) w4
          have hrel : Rel B3 ⟨fr3, H4⟩ E4 a3 w4 := ⟨q4.sz, hd3, r1.phi.2, r1⟩
          unfold retX at r3
          split at r3
          · next ds hds =>
            obtain ⟨hs, hdat⟩ := r3
            obtain ⟨v, us, y1, y2, y3, y4⟩ := results_rep hT (fn := fn) hrel (by rw [hr]; exact hds)
            obtain ⟨z1, z2⟩ := hs.get
            refine ⟨v, y1, v, E4.lent, rfl, r1.bel, fun b hb => .inl (r1.g0 b hb), fun b hb => ?_, r1.lentGood, ?_⟩
            · rcases hb with hb | ⟨x, hx⟩
              · exact r1.gn b hb
              · exact .inr (r1.own x b hx).1
            · refine retD_rep y2 (by omega) fun i d u h1 h2 => ?_
              have hlt := (List.getElem?_eq_some_iff.1 h1).1
              have h3 : ds[i]? = some (ds[i]'(by omega)) := List.getElem?_eq_getElem (by omega)
              exact (z2 i _ d h3 h1).lent r1.heap (y4 i _ u h3 h2) (List.all_eq_true.1 hdat d (List.mem_of_getElem? h1))
          · cases r3
      · cases hk
    cases e with
    | ret => show Leaves P fn a3.tmps _ a3.defers .returning w3; rw [hd3]; exact fin q3
    | normal => show Leaves P fn a3.tmps _ a3.defers .returning w3; rw [hd3]; exact fin q3
    | exit i => cases q3
    | goto l => cases q3
    | panic ch => cases q3
    | outgrown => cases q3
  | ret => cases q1
  | exit i => cases q1
  | goto l => cases q1
  | panic ch => cases q1
  | outgrown => cases q1
end Go.Proofs.YtdhfakajlnidiaaGreat
namespace Go.Proofs.YtdhfakajlnidiaaGreat
open Go.RowKit

/-! Code in pieces. -/
theorem CodeP.seq {P : Program} {cx : Cx} {c d : Code} {fr : Fr} {H : List Bk} {K : Exit → Fr → List Bk → Prop} (h : CodeP P cx c fr H (thenK (fun fr H => CodeP P cx d fr H K) K)) : CodeP P cx (.seq c d) fr H K := by
  refine ⟨fun B E a w hnt hr => wp_seq (Code.wp_mono (fun e a' w' ⟨fr', H', E', q1, q2⟩ => ?_) (h.run B E a w hnt hr))⟩
  cases e <;> first | exact CodeP.run q1 B E' a' w' hnt q2 | exact ⟨fr', H', E', q1, q2⟩
theorem Pure.introC {P : Program} {f : Nat} {fn : Func} {c : Code} {args want : List D} {T : Tab} (hT : T.ok P) (hf : P.funcs[f]? = some fn) (hb : fn.body = some c) (hn : (fn.name == "runtime.NumGoroutine") = false) {rs : List ResultVar}
    (hr : fn.results.toList = rs) (hl : decide (args.length ≤ fn.ntmps) = true)
    (h : CodeP P ⟨T, fn.ntmps, 0⟩ c (argFr 0 args) [] (retK T rs want)) : Pure P f args (retD want) := by
  simp only [decide_eq_true_eq] at hl
  refine ⟨⟨fn, c, hf, hb, hn⟩, fun w G vs hL hG hv => ?_⟩
  let B : Base := ⟨w, G, fn.ntmps, 0, fun w E => Laid w E.G, fun _ _ _ _ h1 _ h3 => h3.le h1, fun _ _ _ _ h => h, [], fun _ _ h => h⟩
  have h0 := enter_rel (B := B) (fn := fn) hl hv (H := []) ⟨fun x y c h => by simp [Env.of] at h, fun x c h => by simp [Env.of] at h, fun _ _ => rfl, fun x b h => by simp at h, fun _ _ => ⟨rfl, rfl⟩, hG, fun _ h => h, fun _ h => .inl h, Below.refl _ _, hL⟩ rfl rfl
  refine calls_of_wp hf hb (Code.wp_mono (fun e a' w' ⟨fr', H', E', q1, q2⟩ => ?_) (h.run B _ _ _ ⟨rfl, Nat.le_refl _⟩ h0))
  have fin : retX T rs (fun l H => RetP H l want) fr' H' → a'.defers = [] ∧ ∃ v, (results fn a'.tmps).run P w' = .ok v w' ∧ ∃ (v' : Value) (G' : Nat → Prop), Ending.returned v = .returned v' ∧ Below w.heap.size w w' ∧ (∀ b, G b → G' b) ∧ (∀ b, G' b → G b ∨ w.heap.size ≤ b) ∧ (∀ b, G' b → b < w'.heap.size) ∧ DRep w' (Env.of G') (retD want) v' := by
    intro hs
    unfold retX at hs
    split at hs
    · next ds hds =>
      obtain ⟨hs, hdat⟩ := hs
      have hwr := q2.wr
      obtain ⟨v, us, g1, g2, g3, g4⟩ := results_rep hT (fn := fn) q2 (by rw [hr]; exact hds)
      obtain ⟨k1, k2⟩ := hs.get
      refine ⟨q2.df, v, g1, v, E'.lent, rfl, hwr.bel, fun b hb => .inl (hwr.g0 b hb), fun b hb => ?_, hwr.lentGood, ?_⟩
      · rcases hb with hb | ⟨x, hx⟩
        · exact hwr.gn b hb
        · exact .inr (hwr.own x b hx).1
      · refine retD_rep g2 (by omega) fun i d u h1 h2 => ?_
        have hlt := (List.getElem?_eq_some_iff.1 h1).1
        have h3 : ds[i]? = some (ds[i]'(by omega)) := List.getElem?_eq_getElem (by omega)
        exact (k2 i _ d h3 h1).lent hwr.heap (g4 i _ u h3 h2) (List.all_eq_true.1 hdat d (List.mem_of_getElem? h1))
    · cases hs
  cases e with
  | ret => exact fin q1
  | normal => exact fin q1
  | exit i => cases q1
  | goto l => cases q1
  | panic ch => cases q1
  | outgrown => cases q1

def hasL : List Nat → Nat → Bool
  | [], _ => false
  | a :: l, n => if a = n then true else hasL l n
theorem hasL_spec : ∀ {l : List Nat} {n : Nat}, hasL l n = true ↔ n ∈ l
  | [], n => by simp [hasL]
  | a :: l, n => by
    unfold hasL
    split
    · next e => simp [e]
    · next e =>
      rw [hasL_spec, List.mem_cons]
      exact ⟨.inr, fun h => h.elim (fun q => absurd q.symm e) id⟩
/-! Functions whose results are new. -/
def D.ownB : Nat → D → Bool
  | 0, _ => false
  | n + 1, d => match d with
    | .agg l | .tup l => l.all (D.ownB n)
    | .int .. | .bool _ | .str _ | .nils | .osl .. => true
    | _ => false
theorem D.ownB_rep {w : World} {E E' : Env} (h1 : E'.σ = E.σ) (h2 : E'.κ = E.κ) (h3 : E'.ζ = E.ζ) : ∀ (n : Nat) {d : D} {v : Value}, d.ownB n = true → DRep w E d v → DRep w E' d v
  | 0, _, _, h, _ => by cases h
  | n + 1, d, v, h, hr => by
    cases hr with
    | int h' => exact .int h'
    | bool => exact .bool
    | str h' => exact .str h'
    | nils => exact .nils
    | agg hs hh =>
      simp only [D.ownB, List.all_eq_true] at h
      exact .agg hs fun i d v q1 q2 => D.ownB_rep h1 h2 h3 n (h d (List.mem_of_getElem? q1)) (hh i d v q1 q2)
    | tup hs hh =>
      simp only [D.ownB, List.all_eq_true] at h
      exact .tup hs fun i d v q1 q2 => D.ownB_rep h1 h2 h3 n (h d (List.mem_of_getElem? q1)) (hh i d v q1 q2)
    | oslc hk hs hnb hl hn hc hm hsz => exact .oslc (by rw [h2]; exact hk) (by rw [h1]; exact hs) hnb hl hn hc hm (by rw [h3]; exact hsz)
    | osln hk hs hnb hl hn => exact .osln (by rw [h2]; exact hk) (by rw [h1]; exact hs) hnb hl hn
    | osls hk => exact .osls (by rw [h2]; exact hk)
    | _ => cases h
def onlyH (xs : List Nat) : Nat → List Bk → List Bk
  | _, [] => []
  | y, b :: r => (if hasL xs y then b else .dead) :: onlyH xs (y + 1) r
theorem onlyH_get {xs : List Nat} : ∀ {y : Nat} {H : List Bk} {x : Nat} {b : Bk}, (onlyH xs y H)[x]? = some b → b = .dead ∨ (H[x]? = some b ∧ y + x ∈ xs)
  | _, [], x, b, h => by simp [onlyH] at h
  | y, b0 :: r, 0, b, h => by
    simp only [onlyH, List.getElem?_cons_zero, Option.some.injEq, Nat.add_zero] at h ⊢
    split at h
    · next q => exact .inr ⟨h, hasL_spec.1 q⟩
    · exact .inl h.symm
  | y, b0 :: r, x + 1, b, h => by
    simp only [onlyH, List.getElem?_cons_succ] at h ⊢
    have := onlyH_get h
    rwa [show y + 1 + x = y + (x + 1) by omega] at this
inductive RetF (H : List Bk) (got : List D) (want : List D) : Prop
  | mk (xs : List Nat) (ho : got.all (D.ownB 8) = true) (hx : ∀ x ∈ xs, ∃ ty n ver r, H[x]? = some (.row ty n ver r) ∧ ∀ e ∈ r.den, e.all D.scalB = true) (h : SnDs (onlyH xs 0 H) [] got want) (hd : want.all (D.dataB 8) = true)
def retKF (T : Tab) (rs : List ResultVar) (want : List D) (e : Exit) (fr : Fr) (H : List Bk) : Prop := match e with
  | .ret => retX T rs (fun l H => RetF H l want) fr H
  | .normal => retX T rs (fun l H => RetF H l want) fr H
  | e => StuckX e
theorem PureF.intro {P : Program} {f : Nat} {fn : Func} {c : Code} {args want : List D} {T : Tab} (hT : T.ok P) (hm : P.follows .mixedOrders = true) (hf : P.funcs[f]? = some fn) (hb : fn.body = some c) (hn : (fn.name == "runtime.NumGoroutine") = false) {rs : List ResultVar}
    (hr : fn.results.toList = rs) (hl : decide (args.length ≤ fn.ntmps) = true)
    (h : vc P ⟨T, fn.ntmps, 0⟩ c (argFr 0 args) [] (retKF T rs want)) : PureF P f args (retD want) := by
  simp only [decide_eq_true_eq] at hl
  refine ⟨⟨fn, c, hf, hb, hn⟩, fun w G vs hL hG hv => ?_⟩
  let B : Base := ⟨w, G, fn.ntmps, 0, fun w E => Laid w E.G, fun _ _ _ _ h1 _ h3 => h3.le h1, fun _ _ _ _ h => h, [], fun _ _ h => h⟩
  have h0 := enter_rel (B := B) (fn := fn) hl hv (H := []) ⟨fun x y c h => by simp [Env.of] at h, fun x c h => by simp [Env.of] at h, fun _ _ => rfl, fun x b h => by simp at h, fun _ _ => ⟨rfl, rfl⟩, hG, fun _ h => h, fun _ h => .inl h, Below.refl _ _, hL⟩ rfl rfl
  refine calls_of_wp hf hb (Code.wp_mono (fun e a' w' ⟨fr', H', E', q1, q2⟩ => ?_) ((vc_sound hT hm c h).run B _ _ _ ⟨rfl, Nat.le_refl _⟩ h0))
  have fin : retX T rs (fun l H => RetF H l want) fr' H' → a'.defers = [] ∧ ∃ v, (results fn a'.tmps).run P w' = .ok v w' ∧ ∃ (v' : Value) (G' : Nat → Prop), Ending.returned v = .returned v' ∧ Below w.heap.size w w' ∧ (∀ b, G' b → w.heap.size ≤ b ∧ b < w'.heap.size) ∧ DRep w' (Env.of G') (retD want) v' := by
    intro hs
    unfold retX at hs
    split at hs
    · next ds hds =>
      obtain ⟨xs, ho, hx, hs, hdat⟩ := hs
      have hwr := q2.wr
      obtain ⟨v, us, g1, g2, g3, g4⟩ := results_rep hT (fn := fn) q2 (by rw [hr]; exact hds)
      obtain ⟨k1, k2⟩ := hs.get
      let E0 : Env := ⟨fun _ => False, E'.σ, E'.κ, E'.ζ⟩
      have hH0 : HRep w' E0 (onlyH xs 0 H') := fun x b hb => by
        rcases onlyH_get hb with q | ⟨q, q2⟩
        · subst q
          exact .inr ⟨trivial, fun _ _ => trivial, fun _ => trivial⟩
        · rw [Nat.zero_add] at q2
          obtain ⟨ty, n, ver, r, hrow, hsc⟩ := hx x q2
          rw [hrow] at q
          cases q
          rcases hwr.heap x _ hrow with p | ⟨p1, p2, p3⟩
          · exact .inl p
          · refine .inr ⟨p1, fun c hc => ?_, p3⟩
            obtain ⟨cs, t, y1, y2, y3, y4, y5⟩ := p2 c hc
            refine ⟨cs, t, y1, y2, y3, y4, fun i e he => ?_⟩
            obtain ⟨z1, z2⟩ := y5 i e he
            refine ⟨z1, fun j d hd => ?_⟩
            obtain ⟨v, z3, z4⟩ := z2 j d hd
            exact ⟨v, z3, D.scalB_rep (List.all_eq_true.1 (hsc e (List.mem_of_getElem? he)) d (List.mem_of_getElem? hd)) z4⟩
      refine ⟨q2.df, v, g1, v, E0.lent, rfl, hwr.bel, fun b hb => ?_, ?_⟩
      · rcases hb with hb | ⟨x, hx⟩
        · exact hb.elim
        · obtain ⟨o1, o2, _⟩ := hwr.own x b hx
          exact ⟨o1, o2⟩
      · refine retD_rep g2 (by omega) fun i d u h1 h2 => ?_
        have hlt := (List.getElem?_eq_some_iff.1 h1).1
        have h3 : ds[i]? = some (ds[i]'(by omega)) := List.getElem?_eq_getElem (by omega)
        exact (k2 i _ d h3 h1).lent hH0 (D.ownB_rep (E := E') (E' := E0) rfl rfl rfl 8 (List.all_eq_true.1 ho _ (List.mem_of_getElem? h3)) (g4 i _ u h3 h2)) (List.all_eq_true.1 hdat d (List.mem_of_getElem? h1))
    · cases hs
  cases e with
  | ret => exact fin q1
  | normal => exact fin q1
  | exit i => cases q1
  | goto l => cases q1
  | panic ch => cases q1
  | outgrown => cases q1
/-- the slots that are still asked for -/
def keepS (ks : List Nat) : Fr → Fr
  | [] => []
  | (t, d) :: r => if hasT ks t then (t, d) :: keepS ks r else keepS ks r
theorem keepS_get (ks : List Nat) (t : Nat) : ∀ fr : Fr, (keepS ks fr).get t = if hasT ks t then fr.get t else .junk
  | [] => by simp [keepS, Fr.get]
  | (m, d) :: r => by
    unfold keepS
    by_cases q : hasT ks m = true
    · rw [if_pos q]
      simp only [Fr.get]
      by_cases e : m = t
      · subst e
        rw [if_pos rfl, if_pos q, if_pos rfl]
      · rw [if_neg e, if_neg e, keepS_get ks t r]
    · rw [if_neg q, keepS_get ks t r]
      by_cases e : m = t
      · subst e
        rw [if_neg q, if_neg q]
      · simp only [Fr.get, if_neg e]
theorem CodeP.keep {P : Program} {cx : Cx} {c : Code} {fr : Fr} {H : List Bk} {K : Exit → Fr → List Bk → Prop} (ks : List Nat) (h : CodeP P cx c (keepS ks fr) H K) : CodeP P cx c fr H K := by
  refine ⟨fun B E a w hnt hr => h.run B E a w hnt ⟨hr.sz, hr.df, fun t => ?_, hr.wr⟩⟩
  show DRep w E ((keepS ks fr).get t) _
  rw [keepS_get]
  split
  · exact hr.fr t
  · exact .junk
theorem OpsP.keep {P : Program} {cx : Cx} {ops : Array Oper} {os : List Oper} {fr : Fr} {H : List Bk} {K : Fr → List Bk → Prop} (ks : List Nat) (h : OpsP P cx ops os (keepS ks fr) H K) : OpsP P cx ops os fr H K := by
  refine ⟨fun B E a w hnt hh hr => h.run B E a w hnt hh ⟨hr.sz, hr.df, fun t => ?_, hr.wr⟩⟩
  show DRep w E ((keepS ks fr).get t) _
  rw [keepS_get]
  split
  · exact hr.fr t
  · exact .junk
/-! Regions whose operations stand in no order that is known here, among them such that write or give up own blocks. -/
def anyE (p : Edge → Bool) : List Edge → Bool
  | [] => false
  | e :: l => if p e then true else anyE p l
/-- does j wait for i, perhaps by way of others? -/
def reach (ops : Array Oper) : Nat → Nat → Nat → Bool
  | 0, _, _ => false
  | f + 1, i, j => match ops[j]? with
    | none => false
    | some o => if waitsOn .any o i then true else anyE (fun e => if Region.binds .any e then reach ops f i e.on else false) o.after.toList
theorem anyE_spec {p : Edge → Bool} : ∀ {l : List Edge}, anyE p l = true → ∃ e ∈ l, p e = true
  | [], h => by cases h
  | e :: l, h => by
    unfold anyE at h
    split at h
    · next q => exact ⟨e, by simp, q⟩
    · obtain ⟨e', h1, h2⟩ := anyE_spec h
      exact ⟨e', by simp [h1], h2⟩
theorem reach_spec {ops : Array Oper} {S : Nat → Prop} (hS : ∀ j o, S j → ops[j]? = some o → ∀ e ∈ o.after, Region.binds .any e = true → S e.on) : ∀ f i j, reach ops f i j = true → S j → S i
  | 0, _, _, h, _ => by cases h
  | f + 1, i, j, h, hj => by
    unfold reach at h
    split at h
    · cases h
    · next o ho =>
      split at h
      · next hw =>
        obtain ⟨e, he, hb, rfl⟩ := waitsOn_spec hw
        exact hS j o hj ho e he hb
      · obtain ⟨e, he, hp⟩ := anyE_spec h
        split at hp
        · next hb => exact reach_spec hS f i e.on hp (hS j o hj ho e (Array.mem_toList_iff.1 he) hb)
        · cases hp
theorem reach_ready {ops : Array Oper} {S : Nat → Prop} (hS : ∀ j o, S j → ops[j]? = some o → ∀ e ∈ o.after, Region.binds .any e = true → S e.on) {f i j : Nat} (h : reach ops f i j = true) {o : Oper} (ho : ops[j]? = some o) (hd : ∀ e ∈ o.after, Region.binds .any e = true → S e.on) : S i := by
  cases f with
  | zero => cases h
  | succ f =>
    unfold reach at h
    rw [ho] at h
    simp only at h
    split at h
    · next hw =>
      obtain ⟨e, he, hb, rfl⟩ := waitsOn_spec hw
      exact hd e he hb
    · obtain ⟨e, he, hp⟩ := anyE_spec h
      split at hp
      · next hb => exact reach_spec hS f i e.on hp (hd e (Array.mem_toList_iff.1 he) hb)
      · cases hp
def touch : List (Nat × List Nat) → Nat → List Nat
  | [], _ => []
  | (j, xs) :: r, i => if j = i then xs else touch r i
def allM : List (Nat × List Nat) → List Nat
  | [] => []
  | (_, xs) :: r => xs ++ allM r
theorem touch_allM : ∀ {mods : List (Nat × List Nat)} {i x : Nat}, x ∈ touch mods i → x ∈ allM mods
  | [], _, _, h => by cases h
  | (j, xs) :: r, i, x, h => by
    unfold touch at h
    unfold allM
    split at h
    · simp [h]
    · simp [touch_allM h]
def maskH (M keep : List Nat) : Nat → List Bk → List Bk
  | _, [] => []
  | y, b :: r => (if hasT M y then (if hasT keep y then b else .dead) else b) :: maskH M keep (y + 1) r
theorem hasT_spec : ∀ {l : List Nat} {n : Nat}, hasT l n = true ↔ n ∈ l
  | [], n => by simp [hasT]
  | a :: l, n => by
    unfold hasT
    split
    · next e => simp [e]
    · next e =>
      rw [hasT_spec, List.mem_cons]
      exact ⟨.inr, fun h => h.elim (fun q => absurd q.symm e) id⟩
theorem maskH_len (M keep : List Nat) : ∀ (y : Nat) (H : List Bk), (maskH M keep y H).length = H.length
  | _, [] => rfl
  | y, b :: r => by simp [maskH, maskH_len M keep (y + 1) r]
theorem maskH_get {M keep : List Nat} : ∀ {y : Nat} {H : List Bk} {x : Nat} {b : Bk}, (maskH M keep y H)[x]? = some b → b = .dead ∨ (H[x]? = some b ∧ (y + x ∈ M → y + x ∈ keep))
  | _, [], x, b, h => by simp [maskH] at h
  | y, b0 :: r, 0, b, h => by
    simp only [maskH, List.getElem?_cons_zero, Option.some.injEq, Nat.add_zero] at h ⊢
    split at h
    · split at h
      · next h1 h2 => exact .inr ⟨h, fun _ => hasT_spec.1 h2⟩
      · exact .inl h.symm
    · next h1 => exact .inr ⟨h, fun q => absurd (hasT_spec.2 q) h1⟩
  | y, b0 :: r, x + 1, b, h => by
    simp only [maskH, List.getElem?_cons_succ] at h ⊢
    have := maskH_get h
    rwa [show y + 1 + x = y + (x + 1) by omega] at this
def setL (H : List Bk) : List (Nat × Bk) → List Bk
  | [] => H
  | (x, b) :: r => setL (H.set x b) r
theorem setL_len : ∀ (md : List (Nat × Bk)) (H : List Bk), (setL H md).length = H.length
  | [], _ => rfl
  | (x, b) :: r, H => by simp [setL, setL_len r]
theorem setL_out : ∀ (md : List (Nat × Bk)) (H : List Bk) (x : Nat), (∀ b, (x, b) ∉ md) → (setL H md)[x]? = H[x]?
  | [], _, _, _ => rfl
  | (y, b) :: r, H, x, h => by
    have h1 : y ≠ x := fun e => h b (by simp [e])
    rw [setL, setL_out r _ x fun b' hb => h b' (by simp [hb]), List.getElem?_set_ne h1]
theorem setL_congr : ∀ (md : List (Nat × Bk)) {H H' : List Bk} {x : Nat}, H.length = H'.length → H[x]? = H'[x]? → (setL H md)[x]? = (setL H' md)[x]?
  | [], _, _, _, _, h => h
  | (y, b) :: r, H, H', x, hl, h => by
    refine setL_congr r (by simp [hl]) ?_
    by_cases e : y = x
    · subst e
      by_cases q : y < H.length
      · rw [List.getElem?_set_self q, List.getElem?_set_self (by omega)]
      · rw [List.getElem?_eq_none (by simp; omega), List.getElem?_eq_none (by simp; omega)]
    · rw [List.getElem?_set_ne e, List.getElem?_set_ne e, h]
theorem setL_app : ∀ (md : List (Nat × Bk)) {H X : List Bk}, (∀ p ∈ md, p.1 < H.length) → setL (H ++ X) md = setL H md ++ X
  | [], _, _, _ => rfl
  | (y, b) :: r, H, X, h => by
    rw [setL, setL, List.set_append_left _ _ (h (y, b) (by simp)), setL_app r fun p hp => by simp; exact h p (by simp [hp])]
theorem setL_cat : ∀ (a b : List (Nat × Bk)) {H : List Bk}, setL H (a ++ b) = setL (setL H a) b
  | [], _, _ => rfl
  | (y, c) :: r, b, H => by rw [List.cons_append, setL, setL, setL_cat r b]
/-- what an operation does, among blocks of which some are not laid yet and some are not looked at -/
def OpZ (P : Program) (H : List Bk) (ρ : Operand → D) (o : Oper) (d : D) (nw : List Bk) (md : List (Nat × Bk)) : Prop :=
  ∀ (B : Base) (Hx : List Bk) (w : World) (E : Env) (a : Act), (∀ x, DRep w E (ρ x) (a.eval x)) → WRel B Hx E w → (H ++ nw).length ≤ Hx.length → Compat H nw Hx → Fresh E H.length (H.length + nw.length) → ∀ (K : Act → World → Prop) (Q : Exit → Act → World → Prop),
    (∀ v w' E', WRel B (setL Hx md) E' w' → E.le w w' E' → E.own E' → (∀ x, (x < H.length ∨ H.length + nw.length ≤ x) → (∀ b, (x, b) ∉ md) → E'.σ x = E.σ x ∧ E'.κ x = E.κ x) → DRep w' E' d v → K (a.put o.dst v) w') → o.wp P a w K Q
theorem OpX.z {P : Program} {H : List Bk} {ρ : Operand → D} {o : Oper} {d : D} {nw : List Bk} (h : OpX P H ρ o d nw) : OpZ P H ρ o d nw [] :=
  fun B Hx w E a h1 h2 _ h3 h4 K Q hk => h B Hx w E a h1 h2 h3 h4 K Q fun v w' E' g1 g2 g3 g4 g5 => hk v w' E' g1 g2 g3 (fun x hx _ => g4 x hx) g5
theorem EEff.z {P : Program} {H : List Bk} {ρ : Operand → D} {o : Oper} {d : D} {b : Nat} {b' : Bk} (h : ∀ Hx, Compat H [] Hx → EEff P Hx ρ o (Hx.set b b') d) : OpZ P H ρ o d [] [(b, b')] := fun B Hx w E a h1 h2 _ h3 h4 K Q hk => by
  obtain ⟨nx, v, w', E', e1, e2, e3, e4, e5, e6, e7⟩ := h Hx h3 B w E a.eval h1 h2
  unfold Oper.wp
  rw [e1]
  have fin := hk v w' E' e3 e4 e5 (fun x _ hx => e7 x (List.getElem?_set_ne fun e => hx b' (by simp [e]))) e6
  rcases e2 with rfl | ⟨rfl, rfl⟩
  · exact fin
  · exact fin
theorem ReqQ.put {b : Bool} {p : Unit → Prop} {K : Prop} (h : p ()) (hk : K) : ReqQ b p K := by
  cases b
  · exact ⟨h, fun _ => hk⟩
  · exact hk
def blkOf : D → Option Nat
  | .ptr b _ _ => some b
  | .rp _ b _ _ _ => some b
  | .osl _ b _ _ _ _ => some b
  | .ap _ b _ => some b
  | _ => none
theorem sStore_z {P : Program} {T : Tab} {H : List Bk} {ρ : Operand → D} {o : Oper} (hT : T.ok P) {t : Nat} {a x : Operand} (ho : o.op = .store t a x) {K : List Bk → Prop} (hk : sStore T H o t (ρ a) (ρ x) K) : ∃ b b', blkOf (ρ a) = some b ∧ b < H.length ∧ OpZ P H ρ o (.tup []) [] [(b, b')] ∧ K (H.set b b') := by
  have key : ∀ {b : Nat} {b' : Bk}, (∀ Hx, Compat H [] Hx → sStore T Hx o t (ρ a) (ρ x) fun H' => H' = Hx.set b b') → OpZ P H ρ o (.tup []) [] [(b, b')] := fun h => EEff.z fun Hx hc => by
    obtain ⟨H', h1, rfl⟩ := sStore_eff hT ho (h Hx hc)
    exact h1
  unfold sStore at hk
  split at hk
  · next ti m hti hm =>
    split at hk
    · next hc =>
      split at hk
      · next b ver off hd =>
        split at hk
        · next l hl =>
          split at hk
          · next hcc =>
            refine ⟨b, _, by rw [hd]; rfl, (List.getElem?_eq_some_iff.1 hl).1, key fun Hx hx => ?_, hk⟩
            unfold sStore
            simp only [hti, hm, hc, if_true, hd, hx.of (b := .cells l) (by simpa using hl) (by simp)]
            rw [if_pos hcc]
            trivial
          · cases hk
        · cases hk
      · next n b ver i off hd =>
        split at hk
        · next ty n' ver' r hl =>
          split at hk
          · next hcc =>
            obtain ⟨hlt, hk⟩ := ReqQ.get hk ltLit_spec
            refine ⟨b, _, by rw [hd]; rfl, (List.getElem?_eq_some_iff.1 hl).1, key fun Hx hx => ?_, hk⟩
            unfold sStore
            simp only [hti, hm, hc, if_true, hd, hx.of (b := .row ty n' ver' r) (by simpa using hl) (by simp)]
            rw [if_pos hcc]
            exact ReqQ.put hlt trivial
          · cases hk
        · cases hk
      · cases hk
    · cases hk
  · cases hk
theorem sStore2_z {P : Program} {T : Tab} {H : List Bk} {ρ : Operand → D} {o : Oper} (hT : T.ok P) {t : Nat} {a x : Operand} (ho : o.op = .store t a x) {K : List Bk → Prop} (hk : sStore2 T H o t (ρ a) (ρ x) K) : ∃ b b', blkOf (ρ a) = some b ∧ b < H.length ∧ OpZ P H ρ o (.tup []) [] [(b, b')] ∧ K (H.set b b') := by
  have key : ∀ {b : Nat} {b' : Bk}, (∀ Hx, Compat H [] Hx → sStore2 T Hx o t (ρ a) (ρ x) fun H' => H' = Hx.set b b') → OpZ P H ρ o (.tup []) [] [(b, b')] := fun h => EEff.z fun Hx hc => by
    obtain ⟨H', h1, rfl⟩ := sStore2_eff hT ho (h Hx hc)
    exact h1
  unfold sStore2 at hk
  split at hk
  · next m b i k e hd hdx =>
    split at hk
    · next k' m' f hb =>
      split at hk
      · next hc =>
        refine ⟨b, _, by rw [hd]; rfl, (List.getElem?_eq_some_iff.1 hb).1, key fun Hx hx => ?_, hk⟩
        rw [hd, hdx]
        unfold sStore2
        simp only [hx.of (b := .arr k' m' f) (by simpa using hb) (by simp)]
        rw [if_pos hc]
        trivial
      · cases hk
    · cases hk
  · next b ver k m g hd hdx =>
    split at hk
    · next k' m' f hb =>
      split at hk
      · next hc =>
        refine ⟨b, _, by rw [hd]; rfl, (List.getElem?_eq_some_iff.1 hb).1, key fun Hx hx => ?_, hk⟩
        rw [hd, hdx]
        unfold sStore2
        simp only [hx.of (b := .arr k' m' f) (by simpa using hb) (by simp)]
        rw [if_pos hc]
        trivial
      · cases hk
    · cases hk
  · exact sStore_z hT ho hk
theorem elemsOf_mono {H Hx : List Bk} (hc : Compat H [] Hx) {d : D} {n : Nat} {r : RE} {m : IE} (h : elemsOf H d = some (n, r, m)) : elemsOf Hx d = some (n, r, m) := by
  unfold elemsOf at h ⊢
  split at h
  · exact h
  · exact h
  · next n' b ver nb lo len =>
    split at h
    · next ty n2 ver2 r2 hb =>
      rw [hc.of (b := .row ty n2 ver2 r2) (by simpa using hb) (by simp)]
      exact h
    · cases h
  · cases h
theorem sAppend_z {P : Program} {T : Tab} {H : List Bk} {ρ : Operand → D} {o : Oper} (hT : T.ok P) {t : Nat} {s x : Operand} (ho : o.op = .call ⟨.builtin .append, #[s, x], #[t, t]⟩) {K : List Bk → D → Prop} (hs : ρ s ≠ .nils) (hk : sAppend T H o t (ρ s) (ρ x) K) : ∃ b b' d, blkOf (ρ s) = some b ∧ b < H.length ∧ OpZ P H ρ o d [] [(b, b')] ∧ K (H.set b b') d := by
  have key : ∀ {b : Nat} {b' : Bk} {d : D}, (∀ Hx, Compat H [] Hx → sAppend T Hx o t (ρ s) (ρ x) fun H' d' => H' = Hx.set b b' ∧ d' = d) → OpZ P H ρ o d [] [(b, b')] := fun h => EEff.z fun Hx hc => by
    obtain ⟨H', d', h1, rfl, rfl⟩ := sAppend_eff hT ho (h Hx hc)
    exact h1
  unfold sAppend at hk
  split at hk
  · next e sz by_ z n rx m ht hel =>
    have key2 : ∀ {Hx}, Compat H [] Hx → elemsOf Hx (ρ x) = some (n, rx, m) := fun hc => elemsOf_mono hc hel
    split at hk
    · next te hte =>
      split at hk
      · next hc =>
        split at hk
        · next hs' => exact absurd hs' hs
        · next n' bb ver nb len hs' =>
          split at hk
          · next ty n2 ver2 r hb =>
            split at hk
            · next hcc =>
              obtain ⟨hq, hk⟩ := ReqQ.get hk (fun hb => by
                simp only [Bool.and_eq_true, decide_eq_true_eq] at hb
                obtain ⟨k1, k2, k3⟩ := litsOK_spec hb.1.1
                obtain ⟨j1, j2, j3⟩ := litsOK_spec hb.1.2
                exact ⟨k1, j1, k2, j2, by omega, small_bytes (by omega) hb.2⟩)
              refine ⟨bb, _, _, by rw [hs']; rfl, (List.getElem?_eq_some_iff.1 hb).1, key fun Hx hx => ?_, hk⟩
              unfold sAppend
              simp only [ht, key2 hx, hte, hs', hx.of (b := .row ty n2 ver2 r) (by simpa using hb) (by simp)]
              rw [if_pos hc, if_pos hcc]
              exact ReqQ.put hq (by simp)
            · cases hk
          · cases hk
        · cases hk
      · cases hk
    · cases hk
  · cases hk
/-! A call that own blocks are given up to. -/
def Env.give (E : Env) (xs : List Nat) : Env := ⟨fun b => E.G b ∨ ∃ x ∈ xs, E.σ x = some b, fun y => if y ∈ xs then none else E.σ y, fun y => if y ∈ xs then E.κ y + 1 else E.κ y, E.ζ⟩
theorem Env.give_le (E : Env) (xs : List Nat) (w : World) : E.le w w (E.give xs) := ⟨fun _ h => .inl h, fun _ _ => rfl⟩
theorem Env.give_own (E : Env) (xs : List Nat) : E.own (E.give xs) := by
  refine ⟨fun b => ?_, fun b e => ?_⟩
  · simp only [Env.give]; split <;> omega
  · simp only [Env.give] at e ⊢
    split at e
    · omega
    · next q => rw [if_neg q]; refine ⟨?_, fun _ _ => ?_⟩ <;> first | rfl | trivial
def deadL (xs : List Nat) : Nat → Nat → List Bk
  | _, 0 => []
  | y, n + 1 => (if hasT xs y then .dead else .cells []) :: deadL xs (y + 1) n
theorem deadL_gone {xs : List Nat} : ∀ {n y x : Nat}, x < n → goneB (deadL xs y n) x = true → y + x ∈ xs
  | 0, _, _, h, _ => by omega
  | n + 1, y, 0, _, h => by
    simp only [deadL, goneB, List.getElem?_cons_zero] at h
    by_cases q : hasT xs y = true
    · exact hasT_spec.1 q
    · rw [if_neg q] at h; cases h
  | n + 1, y, x + 1, hx, h => by
    have : goneB (deadL xs (y + 1) n) x = true := by simpa [deadL, goneB] using h
    have := deadL_gone (by omega) this
    rwa [show y + 1 + x = y + (x + 1) by omega] at this
def deads (xs : List Nat) : List (Nat × Bk) := xs.map fun x => (x, .dead)
theorem setL_deads : ∀ (xs : List Nat) {H : List Bk} {x : Nat} {b : Bk}, (setL H (deads xs))[x]? = some b → b = .dead ∨ (x ∉ xs ∧ H[x]? = some b)
  | [], H, x, b, h => .inr ⟨by simp, h⟩
  | y :: r, H, x, b, h => by
    rcases setL_deads r (H := H.set y .dead) h with q | ⟨q1, q2⟩
    · exact .inl q
    · by_cases e : y = x
      · subst e
        rw [List.getElem?_set] at q2
        simp only [if_true] at q2
        split at q2
        · exact .inl (Option.some.inj q2).symm
        · cases q2
      · rw [List.getElem?_set_ne e] at q2
        exact .inr ⟨by simp [q1, Ne.symm e], q2⟩
theorem WRel.give {B : Base} {Hx : List Bk} {E : Env} {w : World} (hw : WRel B Hx E w) (xs : List Nat) (hx : ∀ x ∈ xs, x < Hx.length) : WRel B (setL Hx (deads xs)) (E.give xs) w := by
  have sub : ∀ {x c}, (E.give xs).σ x = some c → x ∉ xs ∧ E.σ x = some c := fun {x c} h => by
    simp only [Env.give] at h
    split at h
    · cases h
    · next q => exact ⟨q, h⟩
  refine ⟨fun x y c h1 h2 => hw.inj x y c (sub h1).2 (sub h2).2, fun x c h1 => ?_, fun b hb => ?_, fun x b' hb => ?_, fun x hx' => ?_, fun b hb => ?_, fun b hb => .inl (hw.g0 b hb), fun b hb => ?_, hw.bel, B.stab _ _ _ _ (E.give_le xs w) (E.give_own xs) hw.phi⟩
  · obtain ⟨h2, h3⟩ := sub h1
    obtain ⟨q1, q2, q3⟩ := hw.own x c h3
    refine ⟨q1, q2, fun q => ?_⟩
    rcases q with q | ⟨y, hy, hc⟩
    · exact q3 q
    · exact h2 (by rw [hw.inj x y c h3 hc]; exact hy)
  · simp only [Env.give] at hb ⊢
    split at hb
    · omega
    · next q => rw [if_neg q]; exact hw.wf b hb
  · rcases setL_deads xs hb with q | ⟨q1, q2⟩
    · subst q
      exact .inr ⟨trivial, fun _ _ => trivial, fun _ => trivial⟩
    · have e1 : (E.give xs).κ x = E.κ x := by simp [Env.give, q1]
      have e2 : (E.give xs).σ x = E.σ x := by simp [Env.give, q1]
      rw [e1, e2]
      rcases hw.heap x b' q2 with q | ⟨h1, h2, h3⟩
      · exact .inl q
      · exact .inr ⟨h1, fun c hc => (h2 c hc).move (E.give_le xs w) (E.give_own xs) rfl rfl, h3⟩
  · rw [setL_len] at hx'
    have : x ∉ xs := fun q => by have := hx x q; omega
    simp only [Env.give, if_neg this]
    exact hw.out x hx'
  · rcases hb with hb | ⟨x, _, hc⟩
    · exact hw.good b hb
    · exact (hw.own x b hc).2.1
  · rcases hb with hb | ⟨x, _, hc⟩
    · exact hw.gn b hb
    · exact .inr (hw.own x b hc).1
inductive GiveP (P : Program) (n : Nat) (args : List D) (H : List Bk) (xs : List Nat) (K : D → Prop) : Prop
  | mk (args' : List D) (d : D) (hp : Pure P n args' d) (hs : SnDs H (deadL xs 0 H.length) args args') (hd : args'.all (D.dataB 8) = true) (hk : K d)
theorem GiveP.z {P : Program} {H : List Bk} {ρ : Operand → D} {o : Oper} {f : Operand} {args : Array Operand} {ats : Array TypeId} (ho : o.op = .call ⟨.value f, args, ats⟩) {n : Nat} {first cap : List D} (hf : ρ f = .fn (.func n) first cap) {xs : List Nat} (hxs : ∀ x ∈ xs, x < H.length) {K : D → Prop}
    (h : GiveP P n (first ++ args.toList.map ρ ++ cap) H xs K) : ∃ d, OpZ P H ρ o d [] (deads xs) ∧ K d := by
  obtain ⟨args', d, hp, hs, hd, hk⟩ := h
  refine ⟨d, fun B Hx w E a hev hw hle hc hfr K' Q hK' => ?_, hk⟩
  obtain ⟨vs, hex, hl⟩ := call_eval (P := P) ho hf hp.1 hev
  unfold Oper.wp
  rw [hex]
  obtain ⟨h1, h2⟩ := hs.get
  have hxl : ∀ x ∈ xs, x < Hx.length := fun x hx => by have := hxs x hx; simp at hle; omega
  have hg := hw.give xs hxl
  have hH := hc.heap hw.heap
  refine (hp.2 w (E.give xs).G vs hg.laid hg.good ⟨by rw [← h1]; exact hl.1, fun i x v hx hv' => ?_⟩).mono ?_
  · have hlt := (List.getElem?_eq_some_iff.1 hx).1
    have hx0 : (first ++ args.toList.map ρ ++ cap)[i]? = some ((first ++ args.toList.map ρ ++ cap)[i]'(by omega)) := List.getElem?_eq_getElem (by omega)
    have := (h2 i _ x hx0 hx).rep hH (E.give_le xs w) (E.give_own xs) (fun y c hy hg hc => .inr ⟨y, by have := deadL_gone hy hg; rwa [Nat.zero_add] at this, hc⟩) (hl.2 i _ v hx0 hv')
    exact D.dataB_rep (E := E.give xs) (E' := Env.of (E.give xs).G) rfl 8 (List.all_eq_true.1 hd x (List.mem_of_getElem? hx)) this
  · rintro e w' ⟨v, G', rfl, q2, q3, q4, q5, q6⟩
    have k1 := hg.kept q2 q3 q4 q5
    refine hK' v w' ⟨G', (E.give xs).σ, (E.give xs).κ, (E.give xs).ζ⟩ k1 ?_ ?_ (fun x _ hx => ?_) (DRep.undata (E := ⟨G', (E.give xs).σ, (E.give xs).κ, (E.give xs).ζ⟩) k1.wf q6)
    · have := Below.le_env (E := E) (G' := G') q2 hw.good fun b hb => q3 b (.inl hb)
      exact ⟨this.G, this.heap⟩
    · obtain ⟨g1, g2⟩ := E.give_own xs
      exact ⟨g1, g2⟩
    · have : x ∉ xs := fun q => hx .dead (by simp [deads, q])
      simp [Env.give, this]
/-! A store of an own row, which is given up: behind it what it held is data. -/
inductive StoreG (T : Tab) (Hm : List Bk) (o : Oper) (t : Nat) (a x : D) (x0 y0 : Nat) (K : D → List (Nat × Bk) → Prop) : Prop
  | mk (d' : D) (hs : SnD Hm (deadL [y0] 0 Hm.length) x d') (hk : sStore2 T (Hm.set y0 .dead) o t a d' fun H' => K (.tup []) [(y0, .dead), (x0, H'.getD x0 .dead)])
theorem OwnTrans {E E1 E2 : Env} (h : E.own E1) (h2 : E1.own E2) : E.own E2 := by
  refine ⟨fun b => Nat.le_trans (h.κ b) (h2.κ b), fun b e => ?_⟩
  have q1 := h.κ b
  have q2 := h2.κ b
  obtain ⟨a1, a2⟩ := h.σ b (by omega)
  obtain ⟨b1, b2⟩ := h2.σ b (by omega)
  exact ⟨b1.trans a1, fun c hc => (b2 c (a1.trans hc)).trans (a2 c hc)⟩
def tmpNe : Operand → Operand → Bool
  | .tmp i, .tmp j => if i = j then false else true
  | _, _ => false
theorem tmpNe_spec {a x : Operand} (h : tmpNe a x = true) : x ≠ a := by
  intro e
  subst e
  unfold tmpNe at h
  split at h
  · simp at h
  · cases h
theorem StoreG.z {P : Program} {T : Tab} {H : List Bk} {ρ : Operand → D} {o : Oper} (hT : T.ok P) {t : Nat} {a x : Operand} (ho : o.op = .store t a x) (hne : tmpNe a x = true) {x0 y0 : Nat} (hb : blkOf (ρ a) = some x0) (hxy : x0 ≠ y0) (hy : y0 < H.length) {K : D → List (Nat × Bk) → Prop}
    (h : StoreG T H o t (ρ a) (ρ x) x0 y0 K) : ∃ d md, OpZ P H ρ o d [] md ∧ (∀ p ∈ md, p.1 ∈ [x0, y0] ∧ p.1 < H.length) ∧ K d md := by
  obtain ⟨d', hs, hk⟩ := h
  have hxa := tmpNe_spec hne
  classical
  obtain ⟨ρ', hρ⟩ : ∃ ρ' : Operand → D, ρ' = fun z => if z = x then d' else if z = a then ρ a else .junk := ⟨_, rfl⟩
  have r1 : ρ' x = d' := by rw [hρ]; simp
  have r2 : ρ' a = ρ a := by rw [hρ]; simp only; rw [if_neg (Ne.symm hxa)]; exact if_pos trivial
  obtain ⟨b, b', h1, h2, h3, h4⟩ := sStore2_z (ρ := ρ') hT ho (by rw [r1, r2]; exact hk)
  rw [r2, hb] at h1
  cases h1
  rw [List.getD_eq_getElem?_getD, List.getElem?_set_self h2] at h4
  rw [List.length_set] at h2
  refine ⟨_, _, fun B Hx w E av hev hw hle hc hfr K' Q hK' => ?_, fun p hp => ?_, h4⟩
  · have hxl : ∀ z ∈ [y0], z < Hx.length := fun z hz => by simp only [List.mem_singleton] at hz; subst hz; simp at hle; omega
    have hg := hw.give [y0] hxl
    have hH := hc.heap hw.heap
    refine h3 B (setL Hx (deads [y0])) w (E.give [y0]) av (fun z => ?_) hg (by rw [setL_len]; simpa using hle) (fun z bz hz => ?_) (fun z h1 h2 => absurd h2 (by simp at h1 ⊢; omega)) K' Q fun v w' E' k1 k2 k3 k4 k5 => ?_
    · rw [hρ]
      simp only
      split
      · next e =>
        subst e
        exact hs.rep hH (E.give_le [y0] w) (E.give_own [y0]) (fun z c hz hg hc => .inr ⟨z, by have := deadL_gone hz hg; rwa [Nat.zero_add] at this, hc⟩) (hev _)
      · split
        · next e =>
          subst e
          exact (hev _).move (E.give_le [y0] w) (E.give_own [y0])
        · exact .junk
    · simp only [deads, List.map_cons, List.map_nil, setL, List.append_nil] at hz ⊢
      by_cases e : y0 = z
      · subst e
        rw [List.getElem?_set_self hy] at hz
        simp only [Option.some.injEq] at hz
        exact .inl hz.symm
      · rw [List.getElem?_set_ne e] at hz ⊢
        exact hc z bz (by simpa using hz)
    · refine hK' v w' E' (by simpa [deads, setL] using k1) ⟨fun b hb => k2.G b ((E.give_le [y0] w).G b hb), fun b hb => k2.heap b ((E.give_le [y0] w).G b hb)⟩ (OwnTrans (E.give_own [y0]) k3) (fun z hz hn => ?_) k5
      have hzy : z ≠ y0 := fun e => hn .dead (by simp [e])
      have hzx : z ≠ x0 := fun e => hn b' (by simp [e])
      obtain ⟨q1, q2⟩ := k4 z (by simpa using hz) (fun b hb => by simp at hb; exact hzx hb.1)
      rw [q1, q2]
      simp [Env.give, hzy]
  · simp only [List.mem_cons, List.not_mem_nil, or_false] at hp
    rcases hp with e | e
    · subst e; exact ⟨by simp, hy⟩
    · subst e; exact ⟨by simp, h2⟩
/-! The operations of a region, each seen in the order of the text. -/
def readsF (ops : Array Oper) : Bool := (List.range ops.size).all fun i => match ops[i]? with
  | none => true
  | some o => (List.range ops.size).all fun j => match (ops[j]?).bind (·.dst) with
    | none => true
    | some t => if o.op.operands.any (isT t) then (if reach ops 6 j i then true else reach ops 6 i j) else true
def dstF (ops : Array Oper) : Bool := (List.range ops.size).all fun i => (List.range ops.size).all fun j => if i = j then true else match (ops[i]?).bind (·.dst), (ops[j]?).bind (·.dst) with
  | some t, some t' => if t = t' then false else true
  | _, _ => true
def meets : List Nat → List Nat → Bool
  | [], _ => false
  | x :: r, l => if hasT l x then true else meets r l
def ordF (ops : Array Oper) (mods : List (Nat × List Nat)) : Bool := (List.range ops.size).all fun i => (List.range ops.size).all fun j => if i < j then (if meets (touch mods i) (touch mods j) then reach ops 6 i j else true) else true
def footOK (ops : Array Oper) (mods : List (Nat × List Nat)) : Bool := tailWB .any ops ops.size && readsF ops && dstF ops && ordF ops mods
def within (lo hi : Nat) : List Nat → Bool
  | [] => false
  | x :: r => if lo ≤ x then (if x < hi then true else within lo hi r) else within lo hi r
def freshOK (ops : Array Oper) (mods : List (Nat × List Nat)) (k lo hi : Nat) : Bool := (List.range ops.size).all fun j => if within lo hi (touch mods j) then reach ops 6 k j else true
theorem meets_spec : ∀ {l m : List Nat} {x : Nat}, x ∈ l → x ∈ m → meets l m = true
  | [], _, _, h, _ => by cases h
  | y :: r, m, x, h, h2 => by
    unfold meets
    split
    · rfl
    · next q =>
      rcases List.mem_cons.1 h with rfl | h
      · exact absurd (hasT_spec.2 h2) q
      · exact meets_spec h h2
theorem within_spec {lo hi : Nat} : ∀ {l : List Nat} {x : Nat}, x ∈ l → lo ≤ x → x < hi → within lo hi l = true
  | [], _, h, _, _ => by cases h
  | y :: r, x, h, h1, h2 => by
    unfold within
    rcases List.mem_cons.1 h with rfl | h
    · rw [if_pos h1, if_pos h2]
    · split
      · split
        · rfl
        · exact within_spec h h1 h2
      · exact within_spec h h1 h2
/-- an operation that writes own blocks, or gives them up -/
def vopm (P : Program) (cx : Cx) (o : Oper) (fr : Fr) (Hm : List Bk) (xs : List Nat) (K : D → List (Nat × Bk) → Prop) : Prop := match o.op with
  | .call ⟨.value f, args, _⟩ => (match fr.ev f with
    | .fn (.func n) first cap => if xs.all (fun x => decide (x < Hm.length)) then GiveP P n (first ++ args.toList.map fr.ev ++ cap) Hm xs fun d => K d (deads xs) else StuckP o []
    | _ => StuckP o (opnds fr o))
  | .store t a x => (match blkOf (fr.ev a), xs with
    | some b, [x0] => if b = x0 then sStore2 cx.T Hm o t (fr.ev a) (fr.ev x) fun H' => K (.tup []) [(x0, H'.getD x0 .dead)] else StuckP o []
    | some b, [x0, y0] => if b = x0 then (if x0 = y0 then StuckP o [] else (if y0 < Hm.length then (if tmpNe a x then StoreG cx.T Hm o t (fr.ev a) (fr.ev x) x0 y0 K else StuckP o []) else StuckP o [])) else StuckP o []
    | _, _ => StuckP o [])
  | .call ⟨.builtin .append, ⟨[s, x]⟩, ⟨[t, t']⟩⟩ => (match blkOf (fr.ev s), xs with
    | some b, [x0] => if b = x0 then (if t = t' then sAppend cx.T Hm o t (fr.ev s) (fr.ev x) fun H' d => K d [(x0, H'.getD x0 .dead)] else StuckP o []) else StuckP o []
    | _, _ => StuckP o [])
  | _ => StuckP o []
def loadB : Op → Bool
  | .load .. => true
  | _ => false
def vfoot (P : Program) (cx : Cx) (ops : Array Oper) (mods : List (Nat × List Nat)) : Nat → List Oper → Fr → List Bk → (Fr → List Bk → Prop) → Prop
  | _, [], fr, H, K => K fr H
  | i, o :: os, fr, H, K => match o.guard with
    | some _ => StuckP o []
    | none => match touch mods i with
      | [] => vopq P cx (baseB ops o) o fr (maskH (allM mods) [] 0 H) fun fr' Hm => if freshOK ops mods i H.length Hm.length then vfoot P cx ops mods (i + 1) os fr' (H ++ Hm.drop H.length) K else StuckP o []
      | x :: xs => if loadB o.op then vopq P cx (baseB ops o) o fr (maskH (allM mods) (x :: xs) 0 H) fun fr' Hm => if freshOK ops mods i H.length Hm.length then vfoot P cx ops mods (i + 1) os fr' (H ++ Hm.drop H.length) K else StuckP o []
        else if dstB cx.nt o.dst then vopm P cx o fr (maskH (allM mods) (x :: xs) 0 H) (x :: xs) fun d md => vfoot P cx ops mods (i + 1) os (fr.put o.dst d) (setL H md) K else StuckP o []
structure YS where
  fr : Fr
  H : List Bk
  d : D
  nw : List Bk
  md : List (Nat × Bk)
inductive YT (P : Program) (cx : Cx) (ops : Array Oper) (mods : List (Nat × List Nat)) : Nat → List Oper → Fr → List Bk → List YS → Fr → List Bk → Prop
  | nil {i fr H} : YT P cx ops mods i [] fr H [] fr H
  | cons {i o os fr H d nw md tr fr' H'} (hg : o.guard = none) (hd : dstB cx.nt o.dst = true) (hop : OpZ P (maskH (allM mods) (touch mods i) 0 H) (res o fr.ev) o d nw md) (hmd : ∀ p ∈ md, p.1 ∈ touch mods i ∧ p.1 < H.length)
      (hnw : ∀ x, H.length ≤ x → x < H.length + nw.length → ∀ j, j < ops.size → x ∈ touch mods j → reach ops 6 i j = true) (rest : YT P cx ops mods (i + 1) os (fr.put o.dst d) (setL (H ++ nw) md) tr fr' H') : YT P cx ops mods i (o :: os) fr H (⟨fr, H, d, nw, md⟩ :: tr) fr' H'
section
variable {P : Program} {cx : Cx} {ops : Array Oper} {mods : List (Nat × List Nat)}
theorem vopm_z (hT : cx.T.ok P) {o : Oper} {fr : Fr} {Hm : List Bk} {xs : List Nat} {K : D → List (Nat × Bk) → Prop} (hk : vopm P cx o fr Hm xs K) : ∃ d md, OpZ P Hm (res o fr.ev) o d [] md ∧ (∀ p ∈ md, p.1 ∈ xs ∧ p.1 < Hm.length) ∧ K d md := by
  unfold vopm at hk
  split at hk
  · next f args ats ho =>
    split at hk
    · next n first cap hf =>
      split at hk
      · next hx =>
        have hx' : ∀ x ∈ xs, x < Hm.length := fun x hm => of_decide_eq_true (List.all_eq_true.1 hx x hm)
        have e1 : res o fr.ev f = .fn (.func n) first cap := by rw [res_in (by rw [ho]; simp [Op.operands, Call.operands]), hf]
        have e2 : args.toList.map (res o fr.ev) = args.toList.map fr.ev := List.map_congr_left fun x hx => res_in (by rw [ho]; simp only [Op.operands, Call.operands]; simp; exact .inr (by simpa using hx))
        obtain ⟨d, h1, h2⟩ := GiveP.z ho e1 hx' (by rw [e2]; exact hk)
        exact ⟨d, _, h1, fun p hp => by simp only [deads, List.mem_map] at hp; obtain ⟨x, hx, rfl⟩ := hp; exact ⟨hx, hx' x hx⟩, h2⟩
      · cases hk
    · cases hk
  · next t a x ho =>
    split at hk
    · next b x0 hb =>
      split at hk
      · next e =>
        subst e
        have e1 : res o fr.ev a = fr.ev a := res_in (by rw [ho]; simp [Op.operands])
        have e2 : res o fr.ev x = fr.ev x := res_in (by rw [ho]; simp [Op.operands])
        obtain ⟨b1, b', h1, h2, h3, h4⟩ := sStore2_z (ρ := res o fr.ev) hT ho (by rw [e1, e2]; exact hk)
        rw [e1, hb] at h1
        cases h1
        rw [List.getD_eq_getElem?_getD, List.getElem?_set_self h2] at h4
        exact ⟨_, _, h3, fun p hp => by simp only [List.mem_singleton] at hp; subst hp; exact ⟨by simp, h2⟩, h4⟩
      · cases hk
    · next b x0 y0 hb =>
      split at hk
      · next e =>
        subst e
        split at hk
        · cases hk
        · next hxy =>
          split at hk
          · next hy =>
            split at hk
            · next hne =>
              have e1 : res o fr.ev a = fr.ev a := res_in (by rw [ho]; simp [Op.operands])
              have e2 : res o fr.ev x = fr.ev x := res_in (by rw [ho]; simp [Op.operands])
              exact StoreG.z hT ho hne (by rw [e1]; exact hb) hxy hy (by rw [e1, e2]; exact hk)
            · cases hk
          · cases hk
      · cases hk
    · cases hk
  · next s x t t' ho =>
    split at hk
    · next b x0 hb =>
      split at hk
      · next e =>
        subst e
        split at hk
        · next e =>
          subst e
          have e1 : res o fr.ev s = fr.ev s := res_in (by rw [ho]; simp [Op.operands, Call.operands])
          have e2 : res o fr.ev x = fr.ev x := res_in (by rw [ho]; simp [Op.operands, Call.operands])
          obtain ⟨b1, b', d, h1, h2, h3, h4⟩ := sAppend_z (ρ := res o fr.ev) hT ho (by rw [e1]; intro q; rw [q] at hb; cases hb) (by rw [e1, e2]; exact hk)
          rw [e1, hb] at h1
          cases h1
          rw [List.getD_eq_getElem?_getD, List.getElem?_set_self h2] at h4
          exact ⟨_, _, h3, fun p hp => by simp only [List.mem_singleton] at hp; subst hp; exact ⟨by simp, h2⟩, h4⟩
        · cases hk
      · cases hk
    · cases hk
  · cases hk
theorem vfoot_yt (hT : cx.T.ok P) : ∀ (os : List Oper) {i : Nat} {fr : Fr} {H : List Bk} {K : Fr → List Bk → Prop}, vfoot P cx ops mods i os fr H K → ∃ tr fr' H', YT P cx ops mods i os fr H tr fr' H' ∧ K fr' H'
  | [], i, fr, H, K, hk => ⟨[], fr, H, .nil, hk⟩
  | o :: os, i, fr, H, K, hk => by
    unfold vfoot at hk
    split at hk
    · cases hk
    · next hg =>
      split at hk
      · next ht =>
        obtain ⟨t, d, nw, h1, h2, h3, h4⟩ := vopq_trace hT hk
        simp only [List.length_append, maskH_len] at h4
        split at h4
        · next hf =>
          rw [← maskH_len (allM mods) [] 0 H, List.drop_left] at h4
          obtain ⟨tr, fr', H', h5, h6⟩ := vfoot_yt hT os h4
          refine ⟨_, fr', H', .cons hg (by rw [h1]; simpa [dstB] using h2) (by rw [ht]; exact h3.z) (fun p hp => by cases hp) (fun x hx1 hx2 j hj hxj => ?_) (by rw [h1]; exact h5), h6⟩
          unfold freshOK at hf
          have := List.all_eq_true.1 hf j (List.mem_range.2 hj)
          rwa [if_pos (within_spec hxj hx1 hx2)] at this
        · cases h4
      · next x xs ht =>
        split at hk
        · obtain ⟨t, d, nw, h1, h2, h3, h4⟩ := vopq_trace hT hk
          simp only [List.length_append, maskH_len] at h4
          split at h4
          · next hf =>
            rw [← maskH_len (allM mods) (x :: xs) 0 H, List.drop_left] at h4
            obtain ⟨tr, fr', H', h5, h6⟩ := vfoot_yt hT os h4
            refine ⟨_, fr', H', .cons hg (by rw [h1]; simpa [dstB] using h2) (by rw [ht]; exact h3.z) (fun p hp => by cases hp) (fun x hx1 hx2 j hj hxj => ?_) (by rw [h1]; exact h5), h6⟩
            unfold freshOK at hf
            have := List.all_eq_true.1 hf j (List.mem_range.2 hj)
            rwa [if_pos (within_spec hxj hx1 hx2)] at this
          · cases h4
        split at hk
        · next hd =>
          obtain ⟨d, md, h1, h2, h3⟩ := vopm_z hT hk
          obtain ⟨tr, fr', H', h5, h6⟩ := vfoot_yt hT os h3
          refine ⟨_, fr', H', .cons (nw := []) hg hd (by rw [ht]; exact h1) (fun p hp => by have := h2 p hp; rw [maskH_len] at this; rw [ht]; exact this) (fun x hx1 hx2 => by simp at hx2; omega) (by rw [List.append_nil]; exact h5), h6⟩
        · cases hk
def mdsOf (tr : List YS) : List (Nat × Bk) := (tr.map (·.md)).flatten
def nwsOf (tr : List YS) : List Bk := (tr.map (·.nw)).flatten
theorem YT.get {i0 : Nat} {os : List Oper} {fr fr' : Fr} {H H' : List Bk} {tr : List YS} (h : YT P cx ops mods i0 os fr H tr fr' H') : (∀ (a b : Nat) oa ob t, os[a]? = some oa → os[b]? = some ob → oa.dst = some t → ob.dst = some t → a = b) →
    tr.length = os.length ∧
    (∀ (k : Nat) s, tr[k]? = some s → ∃ o, os[k]? = some o ∧ o.guard = none ∧ dstB cx.nt o.dst = true ∧ OpZ P (maskH (allM mods) (touch mods (i0 + k)) 0 s.H) (res o s.fr.ev) o s.d s.nw s.md ∧ (∀ p ∈ s.md, p.1 ∈ touch mods (i0 + k) ∧ p.1 < s.H.length) ∧
      (∀ x, s.H.length ≤ x → x < s.H.length + s.nw.length → ∀ j, j < ops.size → x ∈ touch mods j → reach ops 6 (i0 + k) j = true) ∧ (∃ p, setL (H ++ nwsOf tr) (mdsOf (tr.take k)) = s.H ++ s.nw ++ p) ∧ (H.length ≤ s.H.length) ∧
      (∀ (j : Nat) s', j < k → tr[j]? = some s' → s'.H.length + s'.nw.length ≤ s.H.length) ∧
      (∀ t, (∀ (j : Nat) o', j < k → os[j]? = some o' → o'.dst ≠ some t) → s.fr.get t = fr.get t) ∧ (∀ t (j : Nat) s' o', j < k → tr[j]? = some s' → os[j]? = some o' → o'.dst = some t → s.fr.get t = s'.d)) ∧
    H' = setL (H ++ nwsOf tr) (mdsOf tr) ∧ (∀ t, (∀ (j : Nat) o', os[j]? = some o' → o'.dst ≠ some t) → fr'.get t = fr.get t) ∧ (∀ t (j : Nat) s' o', tr[j]? = some s' → os[j]? = some o' → o'.dst = some t → fr'.get t = s'.d) := by
  induction h with
  | nil => exact fun _ => ⟨rfl, fun k s hs => by simp at hs, by simp [nwsOf, mdsOf, setL], fun _ _ => rfl, fun t j s' o' hs => by simp at hs⟩
  | @cons i o os fr H d nw md tr fr' H' hg hd hop hmd hnw rest ih =>
    intro hu
    obtain ⟨h1, h2, h3, h4, h5⟩ := ih fun a b oa ob t q1 q2 q3 q4 => by
      have := hu (a + 1) (b + 1) oa ob t (by simpa using q1) (by simpa using q2) q3 q4
      omega
    have hput : ∀ t, o.dst ≠ some t → (fr.put o.dst d).get t = fr.get t := fun t ht => by
      unfold Fr.put
      split
      · next t' e => rw [Fr.get_set, if_neg fun q => ht (by rw [e, q])]
      · rfl
    have hput2 : ∀ t, o.dst = some t → (fr.put o.dst d).get t = d := fun t ht => by
      rw [ht]; simp [Fr.put, Fr.get_set]
    have hbase : setL (H ++ nwsOf (⟨fr, H, d, nw, md⟩ :: tr)) md = setL (H ++ nw) md ++ nwsOf tr := by
      rw [← setL_app md fun p hp => by have := (hmd p hp).2; simp; omega]
      simp [nwsOf]
    have hnot : ∀ t, o.dst = some t → ∀ (j : Nat) o', os[j]? = some o' → o'.dst ≠ some t := fun t ht j o' ho' e => by
      have := hu 0 (j + 1) o o' t rfl (by simpa using ho') ht e
      omega
    refine ⟨by simp [h1], fun k s hs => ?_, ?_, fun t ht => ?_, fun t j s' o' hs ho' hd' => ?_⟩
    · cases k with
      | zero =>
        simp only [List.getElem?_cons_zero, Option.some.injEq] at hs
        subst hs
        exact ⟨o, rfl, hg, hd, hop, hmd, hnw, ⟨nwsOf tr, by simp [mdsOf, setL, nwsOf]⟩, Nat.le_refl _, fun j s' hj => by omega, fun t _ => rfl, fun t j s' o' hj => by omega⟩
      | succ k =>
        simp only [List.getElem?_cons_succ] at hs
        obtain ⟨o1, g1, g2, g3, g4, g5, g6, ⟨p, g7⟩, g8, g9, g10, g11⟩ := h2 k s hs
        have e0 : i + 1 + k = i + (k + 1) := by omega
        rw [setL_len, List.length_append] at g8
        refine ⟨o1, by simpa using g1, g2, g3, by rw [← e0]; exact g4, by rw [← e0]; exact g5, by rw [← e0]; exact g6, ⟨p, ?_⟩, by omega, fun j s' hj hs' => ?_, fun t ht => ?_, fun t j s' o' hj hs' ho' hd' => ?_⟩
        · rw [← g7]
          simp only [List.take_succ_cons, mdsOf, List.map_cons, List.flatten_cons, setL_cat]
          rw [hbase]
        · cases j with
          | zero =>
            simp only [List.getElem?_cons_zero, Option.some.injEq] at hs'
            subst hs'
            exact g8
          | succ j => exact g9 j s' (by omega) (by simpa using hs')
        · rw [g10 t fun j o' hj ho' => ht (j + 1) o' (by omega) (by simpa using ho')]
          exact hput t (ht 0 o (by omega) rfl)
        · cases j with
          | zero =>
            simp only [List.getElem?_cons_zero, Option.some.injEq] at hs' ho'
            subst hs' ho'
            rw [g10 t fun j o' _ ho' => hnot t hd' j o' ho']
            exact hput2 t hd'
          | succ j => exact g11 t j s' o' (by omega) (by simpa using hs') (by simpa using ho') hd'
    · rw [h3]
      simp only [mdsOf, List.map_cons, List.flatten_cons, setL_cat]
      rw [hbase]
    · rw [h4 t fun j o' ho' => ht (j + 1) o' (by simpa using ho')]
      exact hput t (ht 0 o rfl)
    · cases j with
      | zero =>
        simp only [List.getElem?_cons_zero, Option.some.injEq] at hs ho'
        subst hs ho'
        rw [h4 t fun j o' ho' => hnot t hd' j o' ho']
        exact hput2 t hd'
      | succ j => exact h5 t j s' o' (by simpa using hs) (by simpa using ho') hd'
theorem reach_lt (T : TailW .any ops ops.size) : ∀ (f i j : Nat), reach ops f i j = true → i < j
  | 0, _, _, h => by cases h
  | f + 1, i, j, h => by
    unfold reach at h
    split at h
    · cases h
    · next o ho =>
      split at h
      · next hw =>
        obtain ⟨e, he, hb, rfl⟩ := waitsOn_spec hw
        exact T.back j o ho e he hb
      · obtain ⟨e, he, hp⟩ := anyE_spec h
        split at hp
        · next hb =>
          have := reach_lt T f i e.on hp
          have := T.back j o ho e (Array.mem_toList_iff.1 he) hb
          omega
        · cases hp
theorem mdsOf_take_succ {tr : List YS} {k : Nat} {s : YS} (h : tr[k]? = some s) : mdsOf (tr.take (k + 1)) = mdsOf (tr.take k) ++ s.md := by
  unfold mdsOf
  rw [List.take_add_one, h]
  simp
theorem FootP.intro {fr : Fr} {H : List Bk} {K : Fr → List Bk → Prop} (hT : cx.T.ok P) (hm : P.follows .mixedOrders = true) (mods : List (Nat × List Nat)) (hok : footOK ops mods = true) (h : vfoot P cx ops mods 0 ops.toList fr H K) : FootP P cx ops fr H K := by
  refine ⟨fun B E a w hnt hh0 hr Q hQ id => ?_⟩
  obtain ⟨tr, fr', H', ht, hK⟩ := vfoot_yt hT _ h
  unfold footOK at hok
  simp only [Bool.and_eq_true] at hok
  obtain ⟨⟨⟨ok1, ok2⟩, ok3⟩, ok4⟩ := hok
  have T := tailWB_spec ok1
  obtain ⟨n, hn⟩ : ∃ n, n = ops.size := ⟨_, rfl⟩
  have hlt : ∀ {j : Nat} {o : Oper}, ops[j]? = some o → j < n := fun ho => by rw [hn]; exact (Array.getElem?_eq_some_iff.1 ho).1
  have uniq : ∀ (a b : Nat) oa ob t, ops[a]? = some oa → ops[b]? = some ob → oa.dst = some t → ob.dst = some t → a = b := fun a b oa ob t q1 q2 q3 q4 => by
    unfold dstF at ok3
    have k1 := List.all_eq_true.1 (List.all_eq_true.1 ok3 a (List.mem_range.2 (by rw [← hn]; exact hlt q1))) b (List.mem_range.2 (by rw [← hn]; exact hlt q2))
    by_cases e : a = b
    · exact e
    · rw [if_neg e, q1, q2] at k1
      simp only [Option.bind_some, q3, q4, if_true] at k1
      cases k1
  have reads : ∀ {i j : Nat} {o oj : Oper} {t : Nat}, ops[i]? = some o → ops[j]? = some oj → oj.dst = some t →   .tmp t ∈ o.op.operands → reach ops 6 j i = true ∨ reach ops 6 i j = true := fun {i j o oj t} q1 q2 q3 q4 => by
    unfold readsF at ok2
    have k1 := List.all_eq_true.1 ok2 i (List.mem_range.2 (by rw [← hn]; exact hlt q1))
    rw [q1] at k1
    have k2 := List.all_eq_true.1 k1 j (List.mem_range.2 (by rw [← hn]; exact hlt q2))
    rw [q2] at k2
    simp only [Option.bind_some, q3] at k2
    rw [if_pos (Array.any_eq_true'.2 ⟨.tmp t, q4, by simp [isT]⟩)] at k2
    split at k2
    · next h => exact .inl h
    · exact .inr k2
  have ord : ∀ {i j x : Nat}, i < j → j < n → x ∈ touch mods i → x ∈ touch mods j → reach ops 6 i j = true := fun {i j x} q1 q2 q3 q4 => by
    unfold ordF at ok4
    have k1 := List.all_eq_true.1 (List.all_eq_true.1 ok4 i (List.mem_range.2 (by omega))) j (List.mem_range.2 (by omega))
    rwa [if_pos q1, if_pos (meets_spec q3 q4)] at k1
  obtain ⟨g1, g2, g3, g4, g5⟩ := ht.get fun a b oa ob t q1 q2 => uniq a b oa ob t (by simpa using q1) (by simpa using q2)
  simp only [Nat.zero_add, Array.getElem?_toList] at g2 g4 g5
  have htl : tr.length = n := by rw [g1, hn]; simp
  obtain ⟨Hb, hHb⟩ : ∃ Hb, Hb = H ++ nwsOf tr := ⟨_, rfl⟩
  rw [← hHb] at g2 g3
  have hget : ∀ {i : Nat} {o : Oper}, ops[i]? = some o → ∃ s, tr[i]? = some s := fun ho => ⟨_, List.getElem?_eq_getElem (by rw [htl]; exact hlt ho)⟩
  -- what the blocks hold behind k operations, in the order of the text
  have mdM : ∀ {k : Nat} {x : Nat}, (∀ j, j < k → x ∉ touch mods j) → ∀ b, (x, b) ∉ mdsOf (tr.take k) := fun {k x} hx b hb => by
    unfold mdsOf at hb
    simp only [List.mem_flatten, List.mem_map] at hb
    obtain ⟨_, ⟨s, hs, rfl⟩, hb⟩ := hb
    obtain ⟨j, hj⟩ := List.getElem?_of_mem hs
    have hjk : j < k := by have := (List.getElem?_eq_some_iff.1 hj).1; simp at this; omega
    rw [List.getElem?_take, if_pos hjk] at hj
    obtain ⟨_, _, _, _, _, k5, _⟩ := g2 j s hj
    exact hx j hjk (k5 _ hb).1
  have stab : ∀ (d : Nat) {a x : Nat}, a + d ≤ n → (∀ j, a ≤ j → j < a + d → x ∉ touch mods j) → (setL Hb (mdsOf (tr.take (a + d))))[x]? = (setL Hb (mdsOf (tr.take a)))[x]? := by
    intro d
    induction d with
    | zero => exact fun _ _ => rfl
    | succ d ih =>
      intro a x had hx
      obtain ⟨s, hs⟩ : ∃ s, tr[a + d]? = some s := ⟨_, List.getElem?_eq_getElem (by omega)⟩
      rw [show a + (d + 1) = (a + d) + 1 by omega, mdsOf_take_succ hs, setL_cat, setL_out _ _ _ fun b hb => ?_]
      · exact ih (by omega) fun j h1 h2 => hx j h1 (by omega)
      · obtain ⟨_, _, _, _, _, k5, _⟩ := g2 _ s hs
        exact hx (a + d) (by omega) (by omega) (k5 _ hb).1
  let J : List Nat → Act → World → Prop := fun U a' w' => ∃ E' Hx, WRel B Hx E' w' ∧ Hx.length = Hb.length ∧ (∀ x, x ∉ allM mods → Hx[x]? = Hb[x]?) ∧
    (∀ x, x ∈ allM mods → ∀ k, k ≤ n → (∀ j, j < k → x ∈ touch mods j → j ∉ U) → (∀ j, k ≤ j → j < n → x ∈ touch mods j → j ∈ U) → Hx[x]? = (setL Hb (mdsOf (tr.take k)))[x]?) ∧ a'.tmps.size = B.nt ∧ a'.defers = B.df ∧
    (∀ t, (∀ (j : Nat) (o : Oper), j ∉ U → ops[j]? = some o → o.dst ≠ some t) → DRep w' E' (fr.get t) (a'.tmps.getD t undef)) ∧ (∀ (j : Nat) (s : YS) (o : Oper) (t : Nat), j ∉ U → tr[j]? = some s → ops[j]? = some o → o.dst = some t → DRep w' E' s.d (a'.tmps.getD t undef)) ∧
    (∀ (j : Nat) (s : YS), j ∈ U → tr[j]? = some s → Fresh E' s.H.length (s.H.length + s.nw.length)) ∧ (∀ (j : Nat) (o : Oper), j ∉ U → ops[j]? = some o → ∀ e ∈ o.after, Region.binds .any e = true → e.on ∉ U)
  refine wp_region_any hm ?_
  rw [show wpAny P .any ops Q ops.size = wpAny P .any ops Q (n + 0) by rw [hn]; rfl]
  rw [← hn] at T
  refine wpAny_joint T J ?_ ?_ n (List.range n) _ a w.drew (by simp) List.nodup_range (by simp) (fun t => ?_) (fun t ht => by simpa using ht) (fun j o' hj hjn => absurd (List.mem_range.2 hj) hjn) ?_
  · intro U i o hUnd hiU hin ho hwait a' w' ⟨E', Hx, q1, q2, q3, q4, q5, q6, q7, q8, q9, q10⟩
    obtain ⟨s, hs⟩ := hget ho
    obtain ⟨o1, k1, k2, k3, k4, k5, k6, ⟨p, k7⟩, k8, k9, k10, k11⟩ := g2 i s hs
    rw [ho] at k1
    cases k1
    have hS : ∀ (j : Nat) (o : Oper), (j ∉ U) → ops[j]? = some o → ∀ e ∈ o.after, Region.binds .any e = true → e.on ∉ U := q10
    have rdy : ∀ {j}, reach ops 6 j i = true → j ∉ U := fun hr => reach_ready (S := fun j => j ∉ U) hS hr ho hwait
    have rch : ∀ {j}, reach ops 6 i j = true → j ∈ U := fun {j} hr => Classical.byContradiction fun q => reach_spec (S := fun j => j ∉ U) hS 6 i j hr q hiU
    have rlt : ∀ {f i j}, reach ops f i j = true → i < j := fun {f i j} hr => reach_lt (by rw [← hn]; exact T) f i j hr
    have cur : ∀ x, x ∈ touch mods i → Hx[x]? = (setL Hb (mdsOf (tr.take i)))[x]? := fun x hx => q4 x (touch_allM hx) i (by omega) (fun j hj hxj => rdy (ord hj hin hxj hx)) (fun j hj hjn hxj => by
      rcases Nat.lt_or_ge i j with q | q
      · exact rch (ord q hjn hx hxj)
      · rw [show j = i by omega]; exact hiU)
    have free : ∀ x, x ∉ allM mods → Hx[x]? = (setL Hb (mdsOf (tr.take i)))[x]? := fun x hx => by
      rw [q3 x hx, setL_out _ _ _ (mdM fun j _ q => hx (touch_allM q))]
    have hbl : (s.H ++ s.nw).length ≤ Hx.length := by
      have := congrArg List.length k7
      rw [setL_len] at this
      simp at this ⊢
      omega
    unfold wpOp
    rw [ho]
    simp only
    rw [show Region.wanted o (yielded ops a'.tmps) = true by unfold Region.wanted; rw [k2], if_pos rfl]
    refine .inl (k4 B Hx w' E' a' (fun x => ?_) q1 (by rw [List.length_append, maskH_len, ← List.length_append]; exact hbl) (fun x b hx => ?_) (by rw [maskH_len]; exact q9 i s hiU hs) _ Q fun v w2 E2 m1 m2 m3 m4 m5 => ?_)
    · unfold res
      split
      · next hx =>
        cases x with
        | tmp t =>
          show DRep w' E' (s.fr.get t) (a'.tmps.getD t undef)
          by_cases q : ∃ (j : Nat) (oj : Oper), ops[j]? = some oj ∧ oj.dst = some t
          · obtain ⟨j, oj, hj, hd⟩ := q
            obtain ⟨sj, hsj⟩ := hget hj
            rcases reads ho hj hd hx with hrj | hrj
            · rw [k11 t j sj oj (rlt hrj) hsj hj hd]
              exact q8 j sj oj t (rdy hrj) hsj hj hd
            · have hij := rlt hrj
              rw [k10 t fun j' o' hj' ho' hd' => by
                have := uniq j' j o' oj t ho' hj hd' hd
                omega]
              exact q7 t fun j' o' hj' ho' hd' => hj' (by rw [uniq j' j o' oj t ho' hj hd' hd]; exact rch hrj)
          · rw [k10 t fun j o' _ ho' hd => q ⟨j, o', ho', hd⟩]
            exact q7 t fun j o' _ ho' hd => q ⟨j, o', ho', hd⟩
        | const v => exact D.ofV_rep v
        | global g => exact (q1.laid.get _).undata q1.wf
        | func f => exact .fn rfl rfl (fun i d v h => by simp at h) (fun i d v h => by simp at h)
      · exact .junk
    · rcases Nat.lt_or_ge x s.H.length with q | q
      · rw [List.getElem?_append_left (by rw [maskH_len]; exact q)] at hx
        rcases maskH_get hx with hx | ⟨hx, hM⟩
        · exact .inl hx
        · refine .inr ?_
          rw [Nat.zero_add] at hM
          have e1 : (setL Hb (mdsOf (tr.take i)))[x]? = some b := by rw [k7, List.append_assoc, List.getElem?_append_left q, hx]
          by_cases q2 : x ∈ allM mods
          · rw [cur x (hM q2), e1]
          · rw [free x q2, e1]
      · rw [List.getElem?_append_right (by rw [maskH_len]; exact q), maskH_len] at hx
        have hlt2 : x - s.H.length < s.nw.length := (List.getElem?_eq_some_iff.1 hx).1
        have e1 : (setL Hb (mdsOf (tr.take i)))[x]? = some b := by rw [k7, List.append_assoc, List.getElem?_append_right q, List.getElem?_append_left hlt2, hx]
        refine .inr ?_
        rw [← e1]
        by_cases q2 : x ∈ allM mods
        · refine q4 x q2 i (by omega) (fun j hj hxj => ?_) fun j hj hjn hxj => ?_
          · have := rlt (k6 x q (by omega) j (by omega) hxj)
            omega
          · exact rch (k6 x q (by omega) j (by omega) hxj)
        · exact free x q2
    · rw [maskH_len] at m4
      have hne : ∀ {j}, j ∉ U.erase i → j = i ∨ j ∉ U := fun {j} hj => by
        by_cases e : j = i
        · exact .inl e
        · exact .inr fun q => hj ((hUnd.mem_erase_iff).2 ⟨e, q⟩)
      refine ⟨E2, setL Hx s.md, m1, by rw [setL_len, q2], fun x hx => ?_, fun x hx k hk c1 c2 => ?_, put_size.trans q5, put_defers'.trans q6, fun t ht => ?_, fun j s' o' t hj hs' ho' hd' => ?_, fun j s' hj hs' => ?_, fun j o' hj ho' e he hb => ?_⟩
      · rw [setL_out _ _ _ fun b hb => hx (touch_allM (k5 _ hb).1), q3 x hx]
      · by_cases hxi : x ∈ touch mods i
        · have hik : i < k := by
            rcases Nat.lt_or_ge i k with q | q
            · exact q
            · have := c2 i q hin hxi
              exact absurd rfl ((hUnd.mem_erase_iff).1 this).1
          have e1 := stab (k - (i + 1)) (a := i + 1) (x := x) (by omega) fun j h1 h2 h3 => by
            rcases hne (c1 j (by omega) h3) with q | q
            · omega
            · exact q (rch (ord (by omega) (by omega) hxi h3))
          rw [show i + 1 + (k - (i + 1)) = k by omega] at e1
          rw [e1, mdsOf_take_succ hs, setL_cat]
          exact setL_congr s.md (by rw [setL_len, q2]) (cur x hxi)
        · rw [setL_out _ _ _ fun b hb => hxi (k5 _ hb).1]
          refine q4 x hx k hk (fun j hj hxj => ?_) fun j hj hjn hxj => ((hUnd.mem_erase_iff).1 (c2 j hj hjn hxj)).2
          rcases hne (c1 j hj hxj) with q | q
          · exact absurd (q ▸ hxj) hxi
          · exact q
      · have e1 : (a'.put o.dst v).tmps.getD t undef = a'.tmps.getD t undef := by
          cases hd : o.dst with
          | none => rfl
          | some t' => exact eval_put_ne fun e => ht i o (fun q => absurd rfl ((hUnd.mem_erase_iff).1 q).1) ho (by rw [hd, e])
        rw [e1]
        exact (q7 t fun j o' hj ho' => ht j o' (fun q => hj ((hUnd.mem_erase_iff).1 q).2) ho').move m2 m3
      · by_cases e : j = i
        · subst e
          rw [hs] at hs'
          cases hs'
          rw [ho] at ho'
          cases ho'
          rw [hd']
          have htn : t < a'.tmps.size := by rw [q5, ← hnt]; rw [hd'] at k3; simpa [dstB] using k3
          rw [show (a'.put (some t) v).tmps.getD t undef = v from eval_put_same htn]
          exact m5
        · have e1 : (a'.put o.dst v).tmps.getD t undef = a'.tmps.getD t undef := by
            cases hd : o.dst with
            | none => rfl
            | some t' => exact eval_put_ne fun q => e (uniq j i o' o t ho' ho hd' (by rw [hd, q]))
          rw [e1]
          exact (q8 j s' o' t ((hne hj).resolve_left e) hs' ho' hd').move m2 m3
      · obtain ⟨e1, e2⟩ := (hUnd.mem_erase_iff).1 hj
        obtain ⟨oj, j1, _, _, _, _, j6, _, _, j9, _⟩ := g2 j s' hs'
        intro x hx1 hx2
        have hout : x < s.H.length ∨ s.H.length + s.nw.length ≤ x := by
          rcases Nat.lt_or_ge j i with q | q
          · have := k9 j s' q hs'
            omega
          · have := j9 i s (by omega) hs
            omega
        obtain ⟨f1, f2⟩ := m4 x hout fun b hb => rdy (j6 x hx1 hx2 i (by omega) (k5 _ hb).1) e2
        obtain ⟨f3, f4⟩ := q9 j s' e2 hs' x hx1 hx2
        exact ⟨f1.trans f3, f2.trans f4⟩
      · intro q
        have q := (hUnd.mem_erase_iff).1 q
        rcases hne hj with rfl | hj
        · rw [ho] at ho'
          cases ho'
          exact hwait e he hb q.2
        · exact q10 j o' hj ho' e he hb q.2
  · intro listed a' w' hs hu ⟨E', Hx, q1, q2, q3, q4, q5, q6, q7, q8, q9, q10⟩
    refine wpAny_tail T [] n listed a' w' (Nat.le_refl _) (fun j => by simp [hn]) hs hu ?_
    have hHx : Hx = H' := by
      have e0 : tr.take n = tr := List.take_of_length_le (by omega)
      refine List.ext_getElem? fun x => ?_
      rw [g3]
      by_cases q : x ∈ allM mods
      · rw [q4 x q n (Nat.le_refl _) (fun _ _ _ => by simp) (fun j h1 h2 => by omega), e0]
      · rw [q3 x q, ← e0, setL_out _ _ _ (mdM fun j _ q2 => q (touch_allM q2))]
    subst hHx
    refine hQ fr' Hx E' a' w' hK ⟨q5, q6, fun t => ?_, q1⟩
    by_cases q : ∃ (j : Nat) (oj : Oper), ops[j]? = some oj ∧ oj.dst = some t
    · obtain ⟨j, oj, hj, hd⟩ := q
      obtain ⟨sj, hsj⟩ := hget hj
      show DRep w' E' (fr'.get t) _
      rw [g5 t j sj oj hsj hj hd]
      exact q8 j sj oj t (by simp) hsj hj hd
    · show DRep w' E' (fr'.get t) _
      rw [g4 t fun j o' ho' hd => q ⟨j, o', ho', hd⟩]
      exact q7 t fun j o' _ ho' hd => q ⟨j, o', ho', hd⟩
  · simp only [List.mem_range]
    rcases Nat.lt_or_ge t ops.size with q | q
    · simp [q]; omega
    · simp [show ¬ t < ops.size by omega]; omega
  · obtain ⟨d1, d2⟩ := (hr.wr.ext (nwsOf tr)).drew
    refine ⟨E, Hb, by rw [hHb]; exact d1, rfl, fun _ _ => rfl, fun x hx k hk c1 c2 => ?_, hr.sz, hr.df, fun t _ => (hr.fr t).move d2 (Env.own.refl _), fun j s o t hj hs ho => absurd (List.mem_range.2 (hlt ho)) hj, fun j s hj hs x hx1 _ => ?_, fun j o hj ho => absurd (List.mem_range.2 (hlt ho)) hj⟩
    · rw [setL_out _ _ _ (mdM fun j hj q => ?_)]
      exact absurd (c1 j hj q) (by simp; omega)
    · obtain ⟨_, _, _, _, _, _, _, _, k8, _⟩ := g2 j s hs
      exact hr.wr.out x (by show H.length ≤ x; omega)
end
end Go.Proofs.YtdhfakajlnidiaaGreat
namespace Go.Proofs.YtdhfakajlnidiaaGreat
open Go.RowKit

/-! Drawn regions whose loads touch one block in any order: only what writes is ordered. -/
theorem sAppN_x {P : Program} {T : Tab} {H : List Bk} {ρ : Operand → D} {o : Oper} (hT : T.ok P) {t : Nat} {s x : Operand} (ho : o.op = .call ⟨.builtin .append, #[s, x], #[t, t]⟩) (hs : ρ s = .nils) {K : List Bk → D → Prop} (hk : sAppend T H o t .nils (ρ x) K) : ∃ d nw, OpX P H ρ o d nw ∧ K (H ++ nw) d := by
  have hx : ∀ (ev : Operand → Value) (w : World), (execOp ev o).run P w = (do pure (.value (← Builtin.append_ #[t, t] o.type #[ev s, ev x])) : Sem Next).run P w := fun ev w => by
    obtain ⟨cs, h⟩ := execOp_blt (P := P) (ev := ev) ho
    rw [h w]
    simp [builtin]
  unfold sAppend at hk
  split at hk
  · next e sz by_ z n rx m ht hel =>
    split at hk
    · next te hte =>
      split at hk
      · next hc =>
        obtain ⟨hsz, hn0, hzs⟩ := hc
        obtain ⟨ti, d, g1, g2, _, _, _, g6⟩ := TI.of_spec (Tab.get_ok hT ht)
        obtain ⟨ti', d', f1, f2, f3, f4, f5, f6⟩ := TI.of_spec (Tab.get_ok hT hte)
        have hu : P.underlying t = some (.slice e) := by
          cases d with
          | slice e2 => simp only [TK.of, TK.slice.injEq] at g6; rw [g2, g6]
          | _ => simp [TK.of] at g6
        have hisz : ti'.size = n := f4.trans hsz
        simp only at hk
        obtain ⟨⟨hm, hcell, h63, hby⟩, hk⟩ := ReqQ.get hk (fun hb => by
          simp only [Bool.and_eq_true, decide_eq_true_eq] at hb
          obtain ⟨k1, k2, k3⟩ := litsOK_spec hb.1
          exact ⟨k1, k2, by omega, small_bytes (by omega) hb.2⟩)
        refine ⟨_, [.row e n 1 rx], .value fun B Hx w E ev hev hw hcp hfr => ?_, hk⟩
        have hcp0 : Compat H [] Hx := fun y b hb => hcp y b (by rw [List.append_nil] at hb; rw [List.getElem?_append_left (List.getElem?_eq_some_iff.1 hb).1]; exact hb)
        have hxx : Hx[H.length]? = some (.row e n 1 rx) := hcp.of (by simp) (by simp)
        have hvs := hev s
        rw [hs] at hvs
        generalize hvsv : ev s = vs at hvs
        cases hvs
        obtain ⟨a, c, hvx, hcells⟩ := elemsOf_rep hw (hev x) (elemsOf_mono hcp0 hel) hm
        have hlen : H.length < Hx.length := (List.getElem?_eq_some_iff.1 hxx).1
        obtain ⟨hσ, hκ⟩ := hfr H.length (Nat.le_refl _) (by simp)
        have hset : Hx.set H.length (.row e n 1 rx) = Hx := by
          refine List.ext_getElem? fun y => ?_
          by_cases q : H.length = y
          · subst q; rw [List.getElem?_set_self hlen, hxx]
          · rw [List.getElem?_set_ne q]
        have hout : ∀ (c : Option Nat) (k z y : Nat), (y < H.length ∨ H.length + [Bk.row e n 1 rx].length ≤ y) → (E.upd H.length c k z).σ y = E.σ y ∧ (E.upd H.length c k z).κ y = E.κ y := fun c k z y hy => by
          have : y ≠ H.length := by simp at hy; omega
          simp [Env.upd, this]
        by_cases h0 : rx.den = []
        · obtain ⟨r1, r2, r3⟩ := hw.redo (w' := w) (x := H.length) (k := 1) (z := 0) (c := none) (b' := .row e n 1 rx) hlen (by omega) (fun _ _ _ => rfl) (Nat.le_refl _) hw.bel (fun d hd => by cases hd) rfl (fun _ _ d hd => by cases hd) (fun _ => h0)
          rw [hset] at r1
          have h1 : rx.den.length = 0 := by rw [h0]; rfl
          refine ⟨_, w, _, ?_, r1, r2, r3, hout _ _ _, .osln (by simp [Env.upd]) (by simp [Env.upd]) (by rw [BE.mk2_den]; simp [cmpDen, IE.den]; omega) rfl (by omega)⟩
          rw [hx, hvsv, hvx, h1]
          simp [run_append_zero hu f1 (Nat.le_refl 0)]
        · obtain ⟨b, off, rfl, hcl⟩ := hcells h0
          obtain ⟨news, n1, n2, n3, n4⟩ := flat_cells hcl hcell
          have hpos : 0 < rx.den.length := List.length_pos_iff.2 h0
          have hby' : rx.den.length * te.bytes ≤ 140737488355328 := by
            have : ((rx.den.length * te.bytes : Nat) : Int) ≤ 140737488355328 := by rw [Int.natCast_mul, ← hm]; exact hby
            omega
          have hrun := run_append_nil (P := P) (w := w) t o.type e ti' te.zero hu f1 f3 ⟨b, off, none⟩ rx.den.length c news (by rw [hisz]; exact n1) n2 hpos (by omega) (by rw [f5]; omega)
          generalize hcap : grownCap w rx.den.length 0 e = cap at hrun
          have hge : rx.den.length ≤ cap := by rw [← hcap]; exact grownCap_ge _ _ _ _
          have hcm : cap ≤ maxLen := by rw [← hcap]; exact grownCap_le_maxLen _ _ _ _ (by unfold maxLen; omega)
          generalize hcur : news.toArray ++ Builtin.zeroCells te.zero.cells (cap - rx.den.length) = cur at hrun
          have hcs : cur.size = cap * n := by
            rw [← hcur, Array.size_append, size_zeroCells, hzs, List.size_toArray, n1, ← Nat.add_mul]
            congr 1
            omega
          obtain ⟨r1, r2, r3⟩ := hw.redo (w' := w.drew.alloc (.cells cur e)) (x := H.length) (k := 1) (z := cur.size) (c := some w.heap.size) (b' := .row e n 1 rx) hlen (by omega) (fun j hj _ => alloc_heap w.drew _ j hj) (by simp) (hw.bel.drew.alloc hw.bel.size _)
            (fun d hd => by cases hd; exact ⟨.inr (Nat.le_refl _), by simp⟩) rfl (fun hle hown d hd => by
              cases hd
              refine ⟨cur, e, .inr rfl, heap_alloc_last w.drew _, by simp [Env.upd], by rw [hcs]; exact Nat.mul_le_mul_right _ hge, fun k el hk2 => ?_⟩
              obtain ⟨q1, q2⟩ := hcl k el hk2
              refine ⟨q1, fun j d hd => ?_⟩
              obtain ⟨v, q3, q4⟩ := n4 k el hk2 j d hd
              have hlt := (List.getElem?_eq_some_iff.1 q3).1
              exact ⟨v, by rw [← hcur, Array.getElem?_append_left (by simpa using hlt)]; simpa using q3, q4.move hle.data Env.own.data⟩) (fun h => by cases h)
          rw [hset] at r1
          have hd := DRep.oslc (w := w.drew.alloc (.cells cur e)) (E := E.upd H.length (some w.heap.size) 1 cur.size) (n := n) (b := H.length) (ver := 1) (nb := BE.mk2 .eql m (.lit 0)) (lo := .lit 0) (len := m) (c := w.heap.size) (m := rx.den.length) (cap := cap) (by simp [Env.upd]) (by simp [Env.upd]) (by rw [BE.mk2_den]; simp [cmpDen, IE.den]; omega) (Int.le_refl _) hm hge hcm (by simp [IE.den, Env.upd, hcs])
          refine ⟨_, _, _, ?_, r1, r2, r3, hout _ _ _, hd⟩
          rw [hx, hvsv, hvx]
          simp [hrun, IE.den]
      · cases hk
    · cases hk
  · cases hk
def nilApp (fr : Fr) (o : Oper) : Bool := match o.op with
  | .call ⟨.builtin .append, ⟨[s, _]⟩, ⟨[t, t']⟩⟩ => (match fr.ev s with
    | .nils => decide (t = t')
    | _ => false)
  | _ => false
def vopN (cx : Cx) (o : Oper) (fr : Fr) (H : List Bk) (K : Fr → List Bk → Prop) : Prop := match o.op, o.dst with
  | .call ⟨.builtin .append, ⟨[_, x]⟩, ⟨[t, _]⟩⟩, some d0 => if d0 < cx.nt then sAppend cx.T H o t .nils (fr.ev x) fun H' d => K (fr.set d0 d) H' else StuckP o []
  | _, _ => StuckP o []
theorem vopN_trace {P : Program} {cx : Cx} (hT : cx.T.ok P) {o : Oper} {fr : Fr} {H : List Bk} {K : Fr → List Bk → Prop} (hn : nilApp fr o = true) (hk : vopN cx o fr H K) : ∃ t d nw, o.dst = some t ∧ t < cx.nt ∧ OpX P H (res o fr.ev) o d nw ∧ K (fr.set t d) (H ++ nw) := by
  unfold vopN at hk
  split at hk
  · next x' s' x t t' d0 ho hd =>
    split at hk
    · next hlt =>
      unfold nilApp at hn
      rw [ho] at hn
      simp only at hn
      split at hn
      · next hs =>
        have e0 := of_decide_eq_true hn
        subst e0
        have e1 : res o fr.ev s' = .nils := by rw [res_in (by rw [ho]; simp [Op.operands, Call.operands]), hs]
        have e2 : res o fr.ev x = fr.ev x := res_in (by rw [ho]; simp [Op.operands, Call.operands])
        obtain ⟨d, nw, h1, h2⟩ := sAppN_x (ρ := res o fr.ev) hT ho e1 (by rw [e2]; exact hk)
        exact ⟨_, d, nw, hd, hlt, h1, h2⟩
      · cases hn
    · cases hk
  · cases hk
def readB : Op → Bool
  | .load .. => true
  | .fieldAddr .. => true
  | .indexAddr .. => true
  | .nilCheck .. => true
  | _ => false
def vfootW (P : Program) (cx : Cx) (ops : Array Oper) (mods : List (Nat × List Nat)) : Nat → List Oper → Fr → List Bk → (Fr → List Bk → Prop) → Prop
  | _, [], fr, H, K => K fr H
  | i, o :: os, fr, H, K => match o.guard with
    | some _ => StuckP o []
    | none => match touch mods i with
      | [] => if nilApp fr o then vopN cx o fr (maskH (allM mods) [] 0 H) fun fr' Hm => (if freshOK ops mods i H.length Hm.length then vfootW P cx ops mods (i + 1) os fr' (H ++ Hm.drop H.length) K else StuckP o [])
        else vopq P cx (baseB ops o) o fr (maskH (allM mods) [] 0 H) fun fr' Hm => if freshOK ops mods i H.length Hm.length then vfootW P cx ops mods (i + 1) os fr' (H ++ Hm.drop H.length) K else StuckP o []
      | x :: xs => if readB o.op then vopq P cx (baseB ops o) o fr (maskH (allM mods) (x :: xs) 0 H) fun fr' Hm => if freshOK ops mods i H.length Hm.length then vfootW P cx ops mods (i + 1) os fr' (H ++ Hm.drop H.length) K else StuckP o []
        else if dstB cx.nt o.dst then vopm P cx o fr (maskH (allM mods) (x :: xs) 0 H) (x :: xs) fun d md => vfootW P cx ops mods (i + 1) os (fr.put o.dst d) (setL H md) K else StuckP o []
def twr (ops : Array Oper) (mods : List (Nat × List Nat)) (i : Nat) : List Nat := match ops[i]? with
  | some o => if readB o.op then [] else touch mods i
  | none => []
theorem twr_sub {ops : Array Oper} {mods : List (Nat × List Nat)} {i x : Nat} (h : x ∈ twr ops mods i) : x ∈ touch mods i := by
  unfold twr at h
  split at h
  · split at h
    · cases h
    · exact h
  · cases h
theorem twr_of {ops : Array Oper} {mods : List (Nat × List Nat)} {i x : Nat} {o : Oper} (ho : ops[i]? = some o) (hl : readB o.op = false) (h : x ∈ touch mods i) : x ∈ twr ops mods i := by
  unfold twr
  rw [ho]
  simp only [hl]
  exact h
def ordW (ops : Array Oper) (mods : List (Nat × List Nat)) : Bool := (List.range ops.size).all fun i => (List.range ops.size).all fun j => if i < j then (if meets (twr ops mods i) (touch mods j) then reach ops 6 i j else (if meets (touch mods i) (twr ops mods j) then reach ops 6 i j else true)) else true
def footOK2 (ops : Array Oper) (mods : List (Nat × List Nat)) : Bool := tailWB .any ops ops.size && readsF ops && dstF ops && ordW ops mods
inductive YW (P : Program) (cx : Cx) (ops : Array Oper) (mods : List (Nat × List Nat)) : Nat → List Oper → Fr → List Bk → List YS → Fr → List Bk → Prop
  | nil {i fr H} : YW P cx ops mods i [] fr H [] fr H
  | cons {i o os fr H d nw md tr fr' H'} (hg : o.guard = none) (hd : dstB cx.nt o.dst = true) (hop : OpZ P (maskH (allM mods) (touch mods i) 0 H) (res o fr.ev) o d nw md) (hmd : ∀ p ∈ md, readB o.op = false ∧ p.1 ∈ touch mods i ∧ p.1 < H.length)
      (hnw : ∀ x, H.length ≤ x → x < H.length + nw.length → ∀ j, j < ops.size → x ∈ touch mods j → reach ops 6 i j = true) (rest : YW P cx ops mods (i + 1) os (fr.put o.dst d) (setL (H ++ nw) md) tr fr' H') : YW P cx ops mods i (o :: os) fr H (⟨fr, H, d, nw, md⟩ :: tr) fr' H'
section
variable {P : Program} {cx : Cx} {ops : Array Oper} {mods : List (Nat × List Nat)}
theorem vfoot_yw (hT : cx.T.ok P) : ∀ (os : List Oper) {i : Nat} {fr : Fr} {H : List Bk} {K : Fr → List Bk → Prop}, vfootW P cx ops mods i os fr H K → ∃ tr fr' H', YW P cx ops mods i os fr H tr fr' H' ∧ K fr' H'
  | [], i, fr, H, K, hk => ⟨[], fr, H, .nil, hk⟩
  | o :: os, i, fr, H, K, hk => by
    unfold vfootW at hk
    split at hk
    · cases hk
    · next hg =>
      split at hk
      · next ht =>
        have hk2 : ∃ t d nw, o.dst = some t ∧ t < cx.nt ∧ OpX P (maskH (allM mods) [] 0 H) (res o fr.ev) o d nw ∧ (if freshOK ops mods i H.length (maskH (allM mods) [] 0 H ++ nw).length then vfootW P cx ops mods (i + 1) os (fr.set t d) (H ++ (maskH (allM mods) [] 0 H ++ nw).drop H.length) K else StuckP o []) := by
          split at hk
          · next hn => exact vopN_trace hT hn hk
          · exact vopq_trace hT hk
        obtain ⟨t, d, nw, h1, h2, h3, h4⟩ := hk2
        simp only [List.length_append, maskH_len] at h4
        split at h4
        · next hf =>
          rw [← maskH_len (allM mods) [] 0 H, List.drop_left] at h4
          obtain ⟨tr, fr', H', h5, h6⟩ := vfoot_yw hT os h4
          refine ⟨_, fr', H', .cons hg (by rw [h1]; simpa [dstB] using h2) (by rw [ht]; exact h3.z) (fun p hp => by cases hp) (fun x hx1 hx2 j hj hxj => ?_) (by rw [h1]; exact h5), h6⟩
          unfold freshOK at hf
          have := List.all_eq_true.1 hf j (List.mem_range.2 hj)
          rwa [if_pos (within_spec hxj hx1 hx2)] at this
        · cases h4
      · next x xs ht =>
        split at hk
        · obtain ⟨t, d, nw, h1, h2, h3, h4⟩ := vopq_trace hT hk
          simp only [List.length_append, maskH_len] at h4
          split at h4
          · next hf =>
            rw [← maskH_len (allM mods) (x :: xs) 0 H, List.drop_left] at h4
            obtain ⟨tr, fr', H', h5, h6⟩ := vfoot_yw hT os h4
            refine ⟨_, fr', H', .cons hg (by rw [h1]; simpa [dstB] using h2) (by rw [ht]; exact h3.z) (fun p hp => by cases hp) (fun x hx1 hx2 j hj hxj => ?_) (by rw [h1]; exact h5), h6⟩
            unfold freshOK at hf
            have := List.all_eq_true.1 hf j (List.mem_range.2 hj)
            rwa [if_pos (within_spec hxj hx1 hx2)] at this
          · cases h4
        next hld =>
        split at hk
        · next hd =>
          obtain ⟨d, md, h1, h2, h3⟩ := vopm_z hT hk
          obtain ⟨tr, fr', H', h5, h6⟩ := vfoot_yw hT os h3
          refine ⟨_, fr', H', .cons (nw := []) hg hd (by rw [ht]; exact h1) (fun p hp => by have := h2 p hp; rw [maskH_len] at this; rw [ht]; exact ⟨by simpa using hld, this⟩) (fun x hx1 hx2 => by simp at hx2; omega) (by rw [List.append_nil]; exact h5), h6⟩
        · cases hk
theorem YW.get {i0 : Nat} {os : List Oper} {fr fr' : Fr} {H H' : List Bk} {tr : List YS} (h : YW P cx ops mods i0 os fr H tr fr' H') : (∀ (a b : Nat) oa ob t, os[a]? = some oa → os[b]? = some ob → oa.dst = some t → ob.dst = some t → a = b) →
    tr.length = os.length ∧
    (∀ (k : Nat) s, tr[k]? = some s → ∃ o, os[k]? = some o ∧ o.guard = none ∧ dstB cx.nt o.dst = true ∧ OpZ P (maskH (allM mods) (touch mods (i0 + k)) 0 s.H) (res o s.fr.ev) o s.d s.nw s.md ∧ (∀ p ∈ s.md, readB o.op = false ∧ p.1 ∈ touch mods (i0 + k) ∧ p.1 < s.H.length) ∧
      (∀ x, s.H.length ≤ x → x < s.H.length + s.nw.length → ∀ j, j < ops.size → x ∈ touch mods j → reach ops 6 (i0 + k) j = true) ∧ (∃ p, setL (H ++ nwsOf tr) (mdsOf (tr.take k)) = s.H ++ s.nw ++ p) ∧ (H.length ≤ s.H.length) ∧
      (∀ (j : Nat) s', j < k → tr[j]? = some s' → s'.H.length + s'.nw.length ≤ s.H.length) ∧
      (∀ t, (∀ (j : Nat) o', j < k → os[j]? = some o' → o'.dst ≠ some t) → s.fr.get t = fr.get t) ∧ (∀ t (j : Nat) s' o', j < k → tr[j]? = some s' → os[j]? = some o' → o'.dst = some t → s.fr.get t = s'.d)) ∧
    H' = setL (H ++ nwsOf tr) (mdsOf tr) ∧ (∀ t, (∀ (j : Nat) o', os[j]? = some o' → o'.dst ≠ some t) → fr'.get t = fr.get t) ∧ (∀ t (j : Nat) s' o', tr[j]? = some s' → os[j]? = some o' → o'.dst = some t → fr'.get t = s'.d) := by
  induction h with
  | nil => exact fun _ => ⟨rfl, fun k s hs => by simp at hs, by simp [nwsOf, mdsOf, setL], fun _ _ => rfl, fun t j s' o' hs => by simp at hs⟩
  | @cons i o os fr H d nw md tr fr' H' hg hd hop hmd hnw rest ih =>
    intro hu
    obtain ⟨h1, h2, h3, h4, h5⟩ := ih fun a b oa ob t q1 q2 q3 q4 => by
      have := hu (a + 1) (b + 1) oa ob t (by simpa using q1) (by simpa using q2) q3 q4
      omega
    have hput : ∀ t, o.dst ≠ some t → (fr.put o.dst d).get t = fr.get t := fun t ht => by
      unfold Fr.put
      split
      · next t' e => rw [Fr.get_set, if_neg fun q => ht (by rw [e, q])]
      · rfl
    have hput2 : ∀ t, o.dst = some t → (fr.put o.dst d).get t = d := fun t ht => by
      rw [ht]; simp [Fr.put, Fr.get_set]
    have hbase : setL (H ++ nwsOf (⟨fr, H, d, nw, md⟩ :: tr)) md = setL (H ++ nw) md ++ nwsOf tr := by
      rw [← setL_app md fun p hp => by have := (hmd p hp).2.2; simp; omega]
      simp [nwsOf]
    have hnot : ∀ t, o.dst = some t → ∀ (j : Nat) o', os[j]? = some o' → o'.dst ≠ some t := fun t ht j o' ho' e => by
      have := hu 0 (j + 1) o o' t rfl (by simpa using ho') ht e
      omega
    refine ⟨by simp [h1], fun k s hs => ?_, ?_, fun t ht => ?_, fun t j s' o' hs ho' hd' => ?_⟩
    · cases k with
      | zero =>
        simp only [List.getElem?_cons_zero, Option.some.injEq] at hs
        subst hs
        exact ⟨o, rfl, hg, hd, hop, hmd, hnw, ⟨nwsOf tr, by simp [mdsOf, setL, nwsOf]⟩, Nat.le_refl _, fun j s' hj => by omega, fun t _ => rfl, fun t j s' o' hj => by omega⟩
      | succ k =>
        simp only [List.getElem?_cons_succ] at hs
        obtain ⟨o1, g1, g2, g3, g4, g5, g6, ⟨p, g7⟩, g8, g9, g10, g11⟩ := h2 k s hs
        have e0 : i + 1 + k = i + (k + 1) := by omega
        rw [setL_len, List.length_append] at g8
        refine ⟨o1, by simpa using g1, g2, g3, by rw [← e0]; exact g4, by rw [← e0]; exact g5, by rw [← e0]; exact g6, ⟨p, ?_⟩, by omega, fun j s' hj hs' => ?_, fun t ht => ?_, fun t j s' o' hj hs' ho' hd' => ?_⟩
        · rw [← g7]
          simp only [List.take_succ_cons, mdsOf, List.map_cons, List.flatten_cons, setL_cat]
          rw [hbase]
        · cases j with
          | zero =>
            simp only [List.getElem?_cons_zero, Option.some.injEq] at hs'
            subst hs'
            exact g8
          | succ j => exact g9 j s' (by omega) (by simpa using hs')
        · rw [g10 t fun j o' hj ho' => ht (j + 1) o' (by omega) (by simpa using ho')]
          exact hput t (ht 0 o (by omega) rfl)
        · cases j with
          | zero =>
            simp only [List.getElem?_cons_zero, Option.some.injEq] at hs' ho'
            subst hs' ho'
            rw [g10 t fun j o' _ ho' => hnot t hd' j o' ho']
            exact hput2 t hd'
          | succ j => exact g11 t j s' o' (by omega) (by simpa using hs') (by simpa using ho') hd'
    · rw [h3]
      simp only [mdsOf, List.map_cons, List.flatten_cons, setL_cat]
      rw [hbase]
    · rw [h4 t fun j o' ho' => ht (j + 1) o' (by simpa using ho')]
      exact hput t (ht 0 o rfl)
    · cases j with
      | zero =>
        simp only [List.getElem?_cons_zero, Option.some.injEq] at hs ho'
        subst hs ho'
        rw [h4 t fun j o' ho' => hnot t hd' j o' ho']
        exact hput2 t hd'
      | succ j => exact h5 t j s' o' (by simpa using hs) (by simpa using ho') hd'
theorem FootP.intro2 {fr : Fr} {H : List Bk} {K : Fr → List Bk → Prop} (hT : cx.T.ok P) (hm : P.follows .mixedOrders = true) (mods : List (Nat × List Nat)) (hok : footOK2 ops mods = true) (h : vfootW P cx ops mods 0 ops.toList fr H K) : FootP P cx ops fr H K := by
  refine ⟨fun B E a w hnt hh0 hr Q hQ id => ?_⟩
  obtain ⟨tr, fr', H', ht, hK⟩ := vfoot_yw hT _ h
  unfold footOK2 at hok
  simp only [Bool.and_eq_true] at hok
  obtain ⟨⟨⟨ok1, ok2⟩, ok3⟩, ok4⟩ := hok
  have T := tailWB_spec ok1
  obtain ⟨n, hn⟩ : ∃ n, n = ops.size := ⟨_, rfl⟩
  have hlt : ∀ {j : Nat} {o : Oper}, ops[j]? = some o → j < n := fun ho => by rw [hn]; exact (Array.getElem?_eq_some_iff.1 ho).1
  have uniq : ∀ (a b : Nat) oa ob t, ops[a]? = some oa → ops[b]? = some ob → oa.dst = some t → ob.dst = some t → a = b := fun a b oa ob t q1 q2 q3 q4 => by
    unfold dstF at ok3
    have k1 := List.all_eq_true.1 (List.all_eq_true.1 ok3 a (List.mem_range.2 (by rw [← hn]; exact hlt q1))) b (List.mem_range.2 (by rw [← hn]; exact hlt q2))
    by_cases e : a = b
    · exact e
    · rw [if_neg e, q1, q2] at k1
      simp only [Option.bind_some, q3, q4, if_true] at k1
      cases k1
  have reads : ∀ {i j : Nat} {o oj : Oper} {t : Nat}, ops[i]? = some o → ops[j]? = some oj → oj.dst = some t →   .tmp t ∈ o.op.operands → reach ops 6 j i = true ∨ reach ops 6 i j = true := fun {i j o oj t} q1 q2 q3 q4 => by
    unfold readsF at ok2
    have k1 := List.all_eq_true.1 ok2 i (List.mem_range.2 (by rw [← hn]; exact hlt q1))
    rw [q1] at k1
    have k2 := List.all_eq_true.1 k1 j (List.mem_range.2 (by rw [← hn]; exact hlt q2))
    rw [q2] at k2
    simp only [Option.bind_some, q3] at k2
    rw [if_pos (Array.any_eq_true'.2 ⟨.tmp t, q4, by simp [isT]⟩)] at k2
    split at k2
    · next h => exact .inl h
    · exact .inr k2
  have ord : ∀ {i j x : Nat}, i < j → j < n → x ∈ twr ops mods i → x ∈ touch mods j → reach ops 6 i j = true := fun {i j x} q1 q2 q3 q4 => by
    unfold ordW at ok4
    have k1 := List.all_eq_true.1 (List.all_eq_true.1 ok4 i (List.mem_range.2 (by omega))) j (List.mem_range.2 (by omega))
    rwa [if_pos q1, if_pos (meets_spec q3 q4)] at k1
  have ord' : ∀ {i j x : Nat}, i < j → j < n → x ∈ touch mods i → x ∈ twr ops mods j → reach ops 6 i j = true := fun {i j x} q1 q2 q3 q4 => by
    unfold ordW at ok4
    have k1 := List.all_eq_true.1 (List.all_eq_true.1 ok4 i (List.mem_range.2 (by omega))) j (List.mem_range.2 (by omega))
    rw [if_pos q1] at k1
    split at k1
    · exact k1
    · rwa [if_pos (meets_spec q3 q4)] at k1
  obtain ⟨g1, g2, g3, g4, g5⟩ := ht.get fun a b oa ob t q1 q2 => uniq a b oa ob t (by simpa using q1) (by simpa using q2)
  simp only [Nat.zero_add, Array.getElem?_toList] at g2 g4 g5
  replace g2 := fun (k : Nat) (s : YS) (hs : tr[k]? = some s) => (g2 k s hs).imp fun o ⟨a1, a2, a3, a4, a5, a6⟩ => (⟨a1, a2, a3, a4, fun p hp => ⟨twr_of a1 (a5 p hp).1 (a5 p hp).2.1, (a5 p hp).2.2⟩, a6⟩ : _ ∧ _ ∧ _ ∧ _ ∧ (∀ p ∈ s.md, p.1 ∈ twr ops mods k ∧ p.1 < s.H.length) ∧ _)
  have htl : tr.length = n := by rw [g1, hn]; simp
  obtain ⟨Hb, hHb⟩ : ∃ Hb, Hb = H ++ nwsOf tr := ⟨_, rfl⟩
  rw [← hHb] at g2 g3
  have hget : ∀ {i : Nat} {o : Oper}, ops[i]? = some o → ∃ s, tr[i]? = some s := fun ho => ⟨_, List.getElem?_eq_getElem (by rw [htl]; exact hlt ho)⟩
  -- what the blocks hold behind k operations, in the order of the text
  have mdM : ∀ {k : Nat} {x : Nat}, (∀ j, j < k → x ∉ twr ops mods j) → ∀ b, (x, b) ∉ mdsOf (tr.take k) := fun {k x} hx b hb => by
    unfold mdsOf at hb
    simp only [List.mem_flatten, List.mem_map] at hb
    obtain ⟨_, ⟨s, hs, rfl⟩, hb⟩ := hb
    obtain ⟨j, hj⟩ := List.getElem?_of_mem hs
    have hjk : j < k := by have := (List.getElem?_eq_some_iff.1 hj).1; simp at this; omega
    rw [List.getElem?_take, if_pos hjk] at hj
    obtain ⟨_, _, _, _, _, k5, _⟩ := g2 j s hj
    exact hx j hjk (k5 _ hb).1
  have stab : ∀ (d : Nat) {a x : Nat}, a + d ≤ n → (∀ j, a ≤ j → j < a + d → x ∉ twr ops mods j) → (setL Hb (mdsOf (tr.take (a + d))))[x]? = (setL Hb (mdsOf (tr.take a)))[x]? := by
    intro d
    induction d with
    | zero => exact fun _ _ => rfl
    | succ d ih =>
      intro a x had hx
      obtain ⟨s, hs⟩ : ∃ s, tr[a + d]? = some s := ⟨_, List.getElem?_eq_getElem (by omega)⟩
      rw [show a + (d + 1) = (a + d) + 1 by omega, mdsOf_take_succ hs, setL_cat, setL_out _ _ _ fun b hb => ?_]
      · exact ih (by omega) fun j h1 h2 => hx j h1 (by omega)
      · obtain ⟨_, _, _, _, _, k5, _⟩ := g2 _ s hs
        exact hx (a + d) (by omega) (by omega) (k5 _ hb).1
  let J : List Nat → Act → World → Prop := fun U a' w' => ∃ E' Hx, WRel B Hx E' w' ∧ Hx.length = Hb.length ∧ (∀ x, x ∉ allM mods → Hx[x]? = Hb[x]?) ∧
    (∀ x, x ∈ allM mods → ∀ k, k ≤ n → (∀ j, j < k → x ∈ twr ops mods j → j ∉ U) → (∀ j, k ≤ j → j < n → x ∈ twr ops mods j → j ∈ U) → Hx[x]? = (setL Hb (mdsOf (tr.take k)))[x]?) ∧ a'.tmps.size = B.nt ∧ a'.defers = B.df ∧
    (∀ t, (∀ (j : Nat) (o : Oper), j ∉ U → ops[j]? = some o → o.dst ≠ some t) → DRep w' E' (fr.get t) (a'.tmps.getD t undef)) ∧ (∀ (j : Nat) (s : YS) (o : Oper) (t : Nat), j ∉ U → tr[j]? = some s → ops[j]? = some o → o.dst = some t → DRep w' E' s.d (a'.tmps.getD t undef)) ∧
    (∀ (j : Nat) (s : YS), j ∈ U → tr[j]? = some s → Fresh E' s.H.length (s.H.length + s.nw.length)) ∧ (∀ (j : Nat) (o : Oper), j ∉ U → ops[j]? = some o → ∀ e ∈ o.after, Region.binds .any e = true → e.on ∉ U)
  refine wp_region_any hm ?_
  rw [show wpAny P .any ops Q ops.size = wpAny P .any ops Q (n + 0) by rw [hn]; rfl]
  rw [← hn] at T
  refine wpAny_joint T J ?_ ?_ n (List.range n) _ a w.drew (by simp) List.nodup_range (by simp) (fun t => ?_) (fun t ht => by simpa using ht) (fun j o' hj hjn => absurd (List.mem_range.2 hj) hjn) ?_
  · intro U i o hUnd hiU hin ho hwait a' w' ⟨E', Hx, q1, q2, q3, q4, q5, q6, q7, q8, q9, q10⟩
    obtain ⟨s, hs⟩ := hget ho
    obtain ⟨o1, k1, k2, k3, k4, k5, k6, ⟨p, k7⟩, k8, k9, k10, k11⟩ := g2 i s hs
    rw [ho] at k1
    cases k1
    have hS : ∀ (j : Nat) (o : Oper), (j ∉ U) → ops[j]? = some o → ∀ e ∈ o.after, Region.binds .any e = true → e.on ∉ U := q10
    have rdy : ∀ {j}, reach ops 6 j i = true → j ∉ U := fun hr => reach_ready (S := fun j => j ∉ U) hS hr ho hwait
    have rch : ∀ {j}, reach ops 6 i j = true → j ∈ U := fun {j} hr => Classical.byContradiction fun q => reach_spec (S := fun j => j ∉ U) hS 6 i j hr q hiU
    have rlt : ∀ {f i j}, reach ops f i j = true → i < j := fun {f i j} hr => reach_lt (by rw [← hn]; exact T) f i j hr
    have cur : ∀ x, x ∈ touch mods i → Hx[x]? = (setL Hb (mdsOf (tr.take i)))[x]? := fun x hx => q4 x (touch_allM hx) i (by omega) (fun j hj hxj => rdy (ord hj hin hxj hx)) (fun j hj hjn hxj => by
      rcases Nat.lt_or_ge i j with q | q
      · exact rch (ord' q hjn hx hxj)
      · rw [show j = i by omega]; exact hiU)
    have free : ∀ x, x ∉ allM mods → Hx[x]? = (setL Hb (mdsOf (tr.take i)))[x]? := fun x hx => by
      rw [q3 x hx, setL_out _ _ _ (mdM fun j _ q => hx (touch_allM (twr_sub q)))]
    have hbl : (s.H ++ s.nw).length ≤ Hx.length := by
      have := congrArg List.length k7
      rw [setL_len] at this
      simp at this ⊢
      omega
    unfold wpOp
    rw [ho]
    simp only
    rw [show Region.wanted o (yielded ops a'.tmps) = true by unfold Region.wanted; rw [k2], if_pos rfl]
    refine .inl (k4 B Hx w' E' a' (fun x => ?_) q1 (by rw [List.length_append, maskH_len, ← List.length_append]; exact hbl) (fun x b hx => ?_) (by rw [maskH_len]; exact q9 i s hiU hs) _ Q fun v w2 E2 m1 m2 m3 m4 m5 => ?_)
    · unfold res
      split
      · next hx =>
        cases x with
        | tmp t =>
          show DRep w' E' (s.fr.get t) (a'.tmps.getD t undef)
          by_cases q : ∃ (j : Nat) (oj : Oper), ops[j]? = some oj ∧ oj.dst = some t
          · obtain ⟨j, oj, hj, hd⟩ := q
            obtain ⟨sj, hsj⟩ := hget hj
            rcases reads ho hj hd hx with hrj | hrj
            · rw [k11 t j sj oj (rlt hrj) hsj hj hd]
              exact q8 j sj oj t (rdy hrj) hsj hj hd
            · have hij := rlt hrj
              rw [k10 t fun j' o' hj' ho' hd' => by
                have := uniq j' j o' oj t ho' hj hd' hd
                omega]
              exact q7 t fun j' o' hj' ho' hd' => hj' (by rw [uniq j' j o' oj t ho' hj hd' hd]; exact rch hrj)
          · rw [k10 t fun j o' _ ho' hd => q ⟨j, o', ho', hd⟩]
            exact q7 t fun j o' _ ho' hd => q ⟨j, o', ho', hd⟩
        | const v => exact D.ofV_rep v
        | global g => exact (q1.laid.get _).undata q1.wf
        | func f => exact .fn rfl rfl (fun i d v h => by simp at h) (fun i d v h => by simp at h)
      · exact .junk
    · rcases Nat.lt_or_ge x s.H.length with q | q
      · rw [List.getElem?_append_left (by rw [maskH_len]; exact q)] at hx
        rcases maskH_get hx with hx | ⟨hx, hM⟩
        · exact .inl hx
        · refine .inr ?_
          rw [Nat.zero_add] at hM
          have e1 : (setL Hb (mdsOf (tr.take i)))[x]? = some b := by rw [k7, List.append_assoc, List.getElem?_append_left q, hx]
          by_cases q2 : x ∈ allM mods
          · rw [cur x (hM q2), e1]
          · rw [free x q2, e1]
      · rw [List.getElem?_append_right (by rw [maskH_len]; exact q), maskH_len] at hx
        have hlt2 : x - s.H.length < s.nw.length := (List.getElem?_eq_some_iff.1 hx).1
        have e1 : (setL Hb (mdsOf (tr.take i)))[x]? = some b := by rw [k7, List.append_assoc, List.getElem?_append_right q, List.getElem?_append_left hlt2, hx]
        refine .inr ?_
        rw [← e1]
        by_cases q2 : x ∈ allM mods
        · refine q4 x q2 i (by omega) (fun j hj hxj => ?_) fun j hj hjn hxj => ?_
          · have := rlt (k6 x q (by omega) j (by omega) (twr_sub hxj))
            omega
          · exact rch (k6 x q (by omega) j (by omega) (twr_sub hxj))
        · exact free x q2
    · rw [maskH_len] at m4
      have hne : ∀ {j}, j ∉ U.erase i → j = i ∨ j ∉ U := fun {j} hj => by
        by_cases e : j = i
        · exact .inl e
        · exact .inr fun q => hj ((hUnd.mem_erase_iff).2 ⟨e, q⟩)
      refine ⟨E2, setL Hx s.md, m1, by rw [setL_len, q2], fun x hx => ?_, fun x hx k hk c1 c2 => ?_, put_size.trans q5, put_defers'.trans q6, fun t ht => ?_, fun j s' o' t hj hs' ho' hd' => ?_, fun j s' hj hs' => ?_, fun j o' hj ho' e he hb => ?_⟩
      · rw [setL_out _ _ _ fun b hb => hx (touch_allM (twr_sub (k5 _ hb).1)), q3 x hx]
      · by_cases hxi : x ∈ twr ops mods i
        · have hik : i < k := by
            rcases Nat.lt_or_ge i k with q | q
            · exact q
            · have := c2 i q hin hxi
              exact absurd rfl ((hUnd.mem_erase_iff).1 this).1
          have e1 := stab (k - (i + 1)) (a := i + 1) (x := x) (by omega) fun j h1 h2 h3 => by
            rcases hne (c1 j (by omega) h3) with q | q
            · omega
            · exact q (rch (ord (by omega) (by omega) hxi (twr_sub h3)))
          rw [show i + 1 + (k - (i + 1)) = k by omega] at e1
          rw [e1, mdsOf_take_succ hs, setL_cat]
          exact setL_congr s.md (by rw [setL_len, q2]) (cur x (twr_sub hxi))
        · rw [setL_out _ _ _ fun b hb => hxi (k5 _ hb).1]
          refine q4 x hx k hk (fun j hj hxj => ?_) fun j hj hjn hxj => ((hUnd.mem_erase_iff).1 (c2 j hj hjn hxj)).2
          rcases hne (c1 j hj hxj) with q | q
          · exact absurd (q ▸ hxj) hxi
          · exact q
      · have e1 : (a'.put o.dst v).tmps.getD t undef = a'.tmps.getD t undef := by
          cases hd : o.dst with
          | none => rfl
          | some t' => exact eval_put_ne fun e => ht i o (fun q => absurd rfl ((hUnd.mem_erase_iff).1 q).1) ho (by rw [hd, e])
        rw [e1]
        exact (q7 t fun j o' hj ho' => ht j o' (fun q => hj ((hUnd.mem_erase_iff).1 q).2) ho').move m2 m3
      · by_cases e : j = i
        · subst e
          rw [hs] at hs'
          cases hs'
          rw [ho] at ho'
          cases ho'
          rw [hd']
          have htn : t < a'.tmps.size := by rw [q5, ← hnt]; rw [hd'] at k3; simpa [dstB] using k3
          rw [show (a'.put (some t) v).tmps.getD t undef = v from eval_put_same htn]
          exact m5
        · have e1 : (a'.put o.dst v).tmps.getD t undef = a'.tmps.getD t undef := by
            cases hd : o.dst with
            | none => rfl
            | some t' => exact eval_put_ne fun q => e (uniq j i o' o t ho' ho hd' (by rw [hd, q]))
          rw [e1]
          exact (q8 j s' o' t ((hne hj).resolve_left e) hs' ho' hd').move m2 m3
      · obtain ⟨e1, e2⟩ := (hUnd.mem_erase_iff).1 hj
        obtain ⟨oj, j1, _, _, _, _, j6, _, _, j9, _⟩ := g2 j s' hs'
        intro x hx1 hx2
        have hout : x < s.H.length ∨ s.H.length + s.nw.length ≤ x := by
          rcases Nat.lt_or_ge j i with q | q
          · have := k9 j s' q hs'
            omega
          · have := j9 i s (by omega) hs
            omega
        obtain ⟨f1, f2⟩ := m4 x hout fun b hb => rdy (j6 x hx1 hx2 i (by omega) (twr_sub (k5 _ hb).1)) e2
        obtain ⟨f3, f4⟩ := q9 j s' e2 hs' x hx1 hx2
        exact ⟨f1.trans f3, f2.trans f4⟩
      · intro q
        have q := (hUnd.mem_erase_iff).1 q
        rcases hne hj with rfl | hj
        · rw [ho] at ho'
          cases ho'
          exact hwait e he hb q.2
        · exact q10 j o' hj ho' e he hb q.2
  · intro listed a' w' hs hu ⟨E', Hx, q1, q2, q3, q4, q5, q6, q7, q8, q9, q10⟩
    refine wpAny_tail T [] n listed a' w' (Nat.le_refl _) (fun j => by simp [hn]) hs hu ?_
    have hHx : Hx = H' := by
      have e0 : tr.take n = tr := List.take_of_length_le (by omega)
      refine List.ext_getElem? fun x => ?_
      rw [g3]
      by_cases q : x ∈ allM mods
      · rw [q4 x q n (Nat.le_refl _) (fun _ _ _ => by simp) (fun j h1 h2 => by omega), e0]
      · rw [q3 x q, ← e0, setL_out _ _ _ (mdM fun j _ q2 => q (touch_allM (twr_sub q2)))]
    subst hHx
    refine hQ fr' Hx E' a' w' hK ⟨q5, q6, fun t => ?_, q1⟩
    by_cases q : ∃ (j : Nat) (oj : Oper), ops[j]? = some oj ∧ oj.dst = some t
    · obtain ⟨j, oj, hj, hd⟩ := q
      obtain ⟨sj, hsj⟩ := hget hj
      show DRep w' E' (fr'.get t) _
      rw [g5 t j sj oj hsj hj hd]
      exact q8 j sj oj t (by simp) hsj hj hd
    · show DRep w' E' (fr'.get t) _
      rw [g4 t fun j o' ho' hd => q ⟨j, o', ho', hd⟩]
      exact q7 t fun j o' _ ho' hd => q ⟨j, o', ho', hd⟩
  · simp only [List.mem_range]
    rcases Nat.lt_or_ge t ops.size with q | q
    · simp [q]; omega
    · simp [show ¬ t < ops.size by omega]; omega
  · obtain ⟨d1, d2⟩ := (hr.wr.ext (nwsOf tr)).drew
    refine ⟨E, Hb, by rw [hHb]; exact d1, rfl, fun _ _ => rfl, fun x hx k hk c1 c2 => ?_, hr.sz, hr.df, fun t _ => (hr.fr t).move d2 (Env.own.refl _), fun j s o t hj hs ho => absurd (List.mem_range.2 (hlt ho)) hj, fun j s hj hs x hx1 _ => ?_, fun j o hj ho => absurd (List.mem_range.2 (hlt ho)) hj⟩
    · rw [setL_out _ _ _ (mdM fun j hj q => ?_)]
      exact absurd (c1 j hj q) (by simp; omega)
    · obtain ⟨_, _, _, _, _, _, _, _, k8, _⟩ := g2 j s hs
      exact hr.wr.out x (by show H.length ≤ x; omega)
end
theorem CodeP.foot {P : Program} {cx : Cx} {id : Nat} {ops : Array Oper} {fr : Fr} {H : List Bk} {K : Exit → Fr → List Bk → Prop} (h : FootP P cx ops fr H (K .normal)) : CodeP P cx (.region id ops true) fr H K :=
  ⟨fun B E a w hnt hr => h.run B E a w hnt.1 hnt.2 hr _ (fun fr' H' E' _ _ hk hr' => ⟨fr', H', E', hk, hr'⟩) id⟩
theorem CodeP.condE {P : Program} {cx : Cx} {x : Operand} {c d : Code} {fr : Fr} {H : List Bk} {K : Exit → Fr → List Bk → Prop} (e : BE) (he : fr.ev x = .bool e) (h1 : e.den = true → CodeP P cx c fr H K) (h2 : e.den = false → CodeP P cx d fr H K) : CodeP P cx (.cond x c d) fr H K := by
  refine ⟨fun B E a w hnt h => ?_⟩
  have hx := h.ev x
  rw [he] at hx
  generalize hv : a.eval x = v at hx
  cases hx
  exact wp_cond_split hv (fun q => (h1 q).run B E a w hnt h) (fun q => (h2 q).run B E a w hnt h)
theorem CodeP.to {P : Program} {cx : Cx} {c : Code} {fr : Fr} {H : List Bk} {K : Exit → Fr → List Bk → Prop} (fr1 : Fr) (H1 : List Bk) (he : EntP fr H fr1 H1) (hh : cx.h0 ≤ H1.length) (h : CodeP P cx c fr1 H1 K) : CodeP P cx c fr H K :=
  ⟨fun B E a w hnt hr => h.run B _ a w hnt (EntP.rel (Nat.le_trans hnt.2 hh) he hr)⟩
end Go.Proofs.YtdhfakajlnidiaaGreat
