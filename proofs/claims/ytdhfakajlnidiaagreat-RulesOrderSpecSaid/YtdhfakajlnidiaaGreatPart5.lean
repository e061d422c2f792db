/- Part 5 of the walks and laws that these claims rest on. No condition. -/
import Derived.Test.YtdhfakajlnidiaaGreatPart4
set_option linter.all false
set_option linter.unusedSimpArgs false
set_option linter.unusedVariables false
set_option linter.unnecessarySimpa false
namespace Go.Proofs.YtdhfakajlnidiaaGreat
open Go.RowKit

/-! Calls, regions in the order of the text, code. -/

def LRep (w : World) (E : Env) (ds : List D) (vs : Array Value) : Prop := ds.length = vs.size ∧ ∀ (i : Nat) d v, ds[i]? = some d → vs[i]? = some v → DRep w E d v
def Here (P : Program) (f : Nat) : Prop := ∃ fn c, P.funcs[f]? = some fn ∧ fn.body = some c ∧ (fn.name == "runtime.NumGoroutine") = false
/-- the function gives this for these arguments, and leaves all that was there as it was -/
def Pure (P : Program) (f : Nat) (args : List D) (d : D) : Prop :=
  Here P f ∧ ∀ (w : World) (G : Nat → Prop) (vs : Array Value), Laid w G → (∀ b, G b → b < w.heap.size) → LRep w (Env.of G) args vs →
    Calls P f vs w fun e w' => ∃ (v : Value) (G' : Nat → Prop), e = .returned v ∧ Below w.heap.size w w' ∧ (∀ b, G b → G' b) ∧ (∀ b, G' b → G b ∨ w.heap.size ≤ b) ∧ (∀ b, G' b → b < w'.heap.size) ∧ DRep w' (Env.of G') d v
/-- a call, and what follows -/
structure CallP (P : Program) (f : Nat) (args : List D) (H : List Bk) (K : D → List Bk → Prop) : Prop where
  here : Here P f
  run : ∀ (B : Base) (w : World) (E : Env) (vs : Array Value), B.h0 ≤ H.length → LRep w E args vs → WRel B H E w →
    Calls P f vs w fun e w' => ∃ (v : Value) (E' : Env) (d : D) (H' : List Bk), e = .returned v ∧ WRel B H' E' w' ∧ DRep w' E' d v ∧ K d H'
theorem Below.le_env {w w' : World} {E : Env} {G' : Nat → Prop} (hb : Below w.heap.size w w') (hg : ∀ b, E.G b → b < w.heap.size) (hG : ∀ b, E.G b → G' b) : E.le w w' ⟨G', E.σ, E.κ, E.ζ⟩ :=
  ⟨hG, fun b h => hb.block b (hg b h)⟩
/-- the blocks of the caller, behind a call that keeps all -/
theorem WRel.kept {B : Base} {H : List Bk} {E : Env} {w w' : World} {G' : Nat → Prop} (h : WRel B H E w) (hb : Below w.heap.size w w') (h1 : ∀ b, E.G b → G' b) (h2 : ∀ b, G' b → E.G b ∨ w.heap.size ≤ b) (h3 : ∀ b, G' b → b < w'.heap.size) :
    WRel B H ⟨G', E.σ, E.κ, E.ζ⟩ w' := by
  have hle := Below.le_env (E := E) hb h.good h1
  have hown : E.own ⟨G', E.σ, E.κ, E.ζ⟩ := ⟨fun _ => Nat.le_refl _, fun _ _ => ⟨rfl, fun _ _ => rfl⟩⟩
  have hsz := hb.size
  refine ⟨h.inj, fun x c hx => ?_, h.wf, fun x b hx => ?_, h.out, h3, fun b hb => h1 b (h.g0 b hb), fun b hb => ?_, h.bel.trans (hb.mono h.bel.size), B.stab _ _ _ _ hle hown h.phi⟩
  · obtain ⟨q1, q2, q3⟩ := h.own x c hx
    exact ⟨q1, by omega, fun q => by rcases h2 c q with q | q; exact q3 q; omega⟩
  · rcases h.heap x b hx with q | ⟨q1, q2, q3⟩
    · exact .inl q
    · exact .inr ⟨q1, fun c hc => (q2 c hc).move hle hown (hb.block c (h.own x c hc).2.1) rfl, q3⟩
  · have := h.bel.size
    rcases h2 b hb with q | q
    · exact h.gn b q
    · exact .inr (by omega)
theorem CallP.pure {P : Program} {f : Nat} {args : List D} {H : List Bk} {K : D → List Bk → Prop} (d : D) (hp : Pure P f args d) (hd : args.all (D.dataB 8) = true) (hk : K d H) : CallP P f args H K := by
  refine ⟨hp.1, fun B w E vs _ hv hw => ?_⟩
  refine (hp.2 w E.G vs hw.laid hw.good ⟨hv.1, fun i x v h1 h2 => D.dataB_rep (E := E) (E' := Env.of E.G) rfl 8 (List.all_eq_true.1 hd x (List.mem_of_getElem? h1)) (hv.2 i x v h1 h2)⟩).mono ?_
  rintro e w' ⟨v, G', h1, h2, h3, h4, h5, h6⟩
  exact ⟨v, ⟨G', E.σ, E.κ, E.ζ⟩, d, H, h1, hw.kept h2 h3 h4 h5, DRep.undata (E := ⟨G', E.σ, E.κ, E.ζ⟩) hw.wf h6, hk⟩
/-- arguments of which some are rows of the caller's own, handed over as they stand: the result is a plain value -/
def D.scalB : D → Bool
  | .int .. | .bool _ | .str _ => true
  | .tup l => l.all fun d => match d with | .int .. | .bool _ | .str _ => true | _ => false
  | _ => false
theorem D.scalB_rep {w : World} {E E' : Env} {d : D} {v : Value} (h : d.scalB = true) (hr : DRep w E d v) : DRep w E' d v := by
  cases hr with
  | int h' => exact .int h'
  | bool => exact .bool
  | str h' => exact .str h'
  | tup hs hh =>
    simp only [D.scalB, List.all_eq_true] at h
    refine .tup hs fun i d v h1 h2 => ?_
    have h3 := h d (List.mem_of_getElem? h1)
    have h4 := hh i d v h1 h2
    cases h4 <;> first | exact .bool | (exact .int (by assumption)) | (exact .str (by assumption)) | cases h3
  | _ => cases h

theorem WRel.lentGood {B : Base} {H : List Bk} {E : Env} {w : World} (h : WRel B H E w) : ∀ b, E.lent b → b < w.heap.size := fun b hb => by
  rcases hb with hb | ⟨x, hx⟩
  · exact h.good b hb
  · exact (h.own x b hx).2.1
theorem WRel.lentLaid {B : Base} {H : List Bk} {E : Env} {w : World} (h : WRel B H E w) : Laid w E.lent := h.laid.le (E' := Env.of E.lent) ⟨fun _ h => .inl h, fun _ _ => rfl⟩
theorem WRel.same {B : Base} {H : List Bk} {E : Env} {w w' : World} (h : WRel B H E w) (hb : Below w.heap.size w w') : WRel B H E w' :=
  h.kept (G' := E.G) hb (fun _ h => h) (fun _ h => .inl h) (fun b hh => Nat.lt_of_lt_of_le (h.good b hh) hb.size)
/-- a call that reads own blocks, and gives a plain value -/
theorem CallP.lend {P : Program} {f : Nat} {args : List D} {H : List Bk} {K : D → List Bk → Prop} (args' : List D) (d : D) (hp : Pure P f args' d) (hs : SnDs H [] args args') (hd : args'.all (D.dataB 8) = true) (hsc : d.scalB = true) (hk : K d H) : CallP P f args H K := by
  refine ⟨hp.1, fun B w E vs _ hv hw => ?_⟩
  obtain ⟨h1, h2⟩ := hs.get
  refine (hp.2 w E.lent vs hw.lentLaid hw.lentGood ⟨by rw [← h1]; exact hv.1, fun i x v hx hv' => ?_⟩).mono ?_
  · have hlt := (List.getElem?_eq_some_iff.1 hx).1
    have hx0 : args[i]? = some (args[i]'(by omega)) := List.getElem?_eq_getElem (by omega)
    exact (h2 i _ x hx0 hx).lent hw.heap (hv.2 i _ v hx0 hv') (List.all_eq_true.1 hd x (List.mem_of_getElem? hx))
  · rintro e w' ⟨v, G', rfl, q2, q3, q4, q5, q6⟩
    exact ⟨v, E, d, H, rfl, hw.same q2, D.scalB_rep hsc q6, hk⟩

/-- the same of a function whose result says nothing of blocks that were there before -/
def PureF (P : Program) (f : Nat) (args : List D) (d : D) : Prop :=
  Here P f ∧ ∀ (w : World) (G : Nat → Prop) (vs : Array Value), Laid w G → (∀ b, G b → b < w.heap.size) → LRep w (Env.of G) args vs →
    Calls P f vs w fun e w' => ∃ (v : Value) (G' : Nat → Prop), e = .returned v ∧ Below w.heap.size w w' ∧ (∀ b, G' b → w.heap.size ≤ b ∧ b < w'.heap.size) ∧ DRep w' (Env.of G') d v
theorem PureF.pure {P : Program} {f : Nat} {args : List D} {d : D} (h : PureF P f args d) : Pure P f args d := by
  refine ⟨h.1, fun w G vs hL hG hv => (h.2 w G vs hL hG hv).mono ?_⟩
  rintro e w' ⟨v, G', h1, h2, h3, h4⟩
  have hsz := h2.size
  refine ⟨v, fun b => G b ∨ G' b, h1, h2, fun b hb => .inl hb, fun b hb => hb.imp id fun q => (h3 b q).1, fun b hb => ?_, h4.move ⟨fun b hb => .inr hb, fun _ _ => rfl⟩ ⟨fun _ => Nat.le_refl _, fun _ _ => ⟨rfl, fun _ _ => rfl⟩⟩⟩
  rcases hb with q | q
  · have := hG b q; omega
  · exact (h3 b q).2
/-- a call that reads own blocks, and gives something new -/
theorem CallP.lendF {P : Program} {f : Nat} {args : List D} {H : List Bk} {K : D → List Bk → Prop} (args' : List D) (d : D) (hp : PureF P f args' d) (hs : SnDs H [] args args') (hd : args'.all (D.dataB 8) = true) (hk : K d H) : CallP P f args H K := by
  refine ⟨hp.1, fun B w E vs _ hv hw => ?_⟩
  obtain ⟨h1, h2⟩ := hs.get
  refine (hp.2 w E.lent vs hw.lentLaid hw.lentGood ⟨by rw [← h1]; exact hv.1, fun i x v hx hv' => ?_⟩).mono ?_
  · have hlt := (List.getElem?_eq_some_iff.1 hx).1
    have hx0 : args[i]? = some (args[i]'(by omega)) := List.getElem?_eq_getElem (by omega)
    exact (h2 i _ x hx0 hx).lent hw.heap (hv.2 i _ v hx0 hv') (List.all_eq_true.1 hd x (List.mem_of_getElem? hx))
  · rintro e w' ⟨v, G', rfl, q2, q3, q4⟩
    have hsz := q2.size
    have k1 := hw.kept (G' := fun b => E.G b ∨ G' b) q2 (fun b hb => .inl hb) (fun b hb => hb.imp id fun q => (q3 b q).1) (fun b hb => by
      rcases hb with q | q
      · have := hw.good b q; omega
      · exact (q3 b q).2)
    exact ⟨v, _, d, H, rfl, k1, DRep.undata (E := ⟨fun b => E.G b ∨ G' b, E.σ, E.κ, E.ζ⟩) k1.wf (q4.move ⟨fun b hb => .inr hb, fun _ _ => rfl⟩ ⟨fun _ => Nat.le_refl _, fun _ _ => ⟨rfl, fun _ _ => rfl⟩⟩), hk⟩

structure Cx where
  T : Tab
  nt : Nat
  h0 : Nat
def Fr.ev (fr : Fr) : Operand → D
  | .tmp t => fr.get t
  | .const v => D.ofV v
  | .global g => laidD laidL g
  | .func f => .fn (.func f) [] []
def Fr.put (fr : Fr) (dst : Option Nat) (d : D) : Fr := match dst with | some t => fr.set t d | none => fr
def dstB (nt : Nat) (dst : Option Nat) : Bool := match dst with | some t => decide (t < nt) | none => true
def opnds (fr : Fr) (o : Oper) : List D := o.op.operands.toList.map fr.ev
/-- does a slot of the region stand first in an append? -/
def isBase (t : Nat) : List Oper → Bool
  | [] => false
  | o :: os => match o.op with
    | .call ⟨.builtin .append, ⟨[.tmp t', _]⟩, _⟩ => if t' = t then true else isBase t os
    | _ => isBase t os
def qopB (own : Bool) (T : Tab) (H : List Bk) (ρ : Operand → D) (o : Oper) : QR := match own with
  | true => (qop T H ρ o).own
  | false => qop T H ρ o
theorem qopB_good {P : Program} {T : Tab} {H : List Bk} {ρ : Operand → D} {o : Oper} (hT : T.ok P) (own : Bool) : (qopB own T H ρ o).good P H ρ o := by
  unfold qopB
  cases own
  · exact qop_good hT
  · exact QR.own_good (qop_good hT)
def baseB (ops : Array Oper) (o : Oper) : Bool := match o.op, o.dst with
  | .buildSlice .., some t => isBase t ops.toList
  | _, _ => false
/-- a call of a method of an interface value -/
structure InvP (P : Program) (t : Nat) (d : D) (m : String) (args : List D) (H : List Bk) (K : D → List Bk → Prop) : Prop where
  run : ∀ (B : Base) (w : World) (E : Env) (v : Value) (vs : Array Value), B.h0 ≤ H.length → DRep w E d v → LRep w E args vs → WRel B H E w →
    ∃ f u, (method (P.types.size + Made.depth) t v m).run P w = .ok (f, u) w ∧ Here P f ∧ Calls P f (#[u] ++ vs) w fun e w' => ∃ (v : Value) (E' : Env) (d : D) (H' : List Bk), e = .returned v ∧ WRel B H' E' w' ∧ DRep w' E' d v ∧ K d H'
theorem inv_args (x : Value) (A : Array Value) : (#[x] ++ A)[0]? = some x ∧ (#[x] ++ A).extract 1 (#[x] ++ A).size = A := by
  refine ⟨?_, ?_⟩
  · rw [Array.getElem?_append_left (by simp)]
    rfl
  · apply Array.ext
    · simp
    · intro i h1 h2
      simp only [Array.getElem_extract]
      rw [Array.getElem_append_right (by simp)]
      simp
def vop (P : Program) (cx : Cx) (own : Bool) (o : Oper) (fr : Fr) (H : List Bk) (K : Fr → List Bk → Prop) : Prop :=
  if dstB cx.nt o.dst then (match o.op with
    | .store t a x => sStore2 cx.T H o t (fr.ev a) (fr.ev x) fun H' => K (fr.put o.dst (.tup [])) H'
    | .mapUpdate t m i x => sMapU cx.T H o t (fr.ev m) (fr.ev i) (fr.ev x) fun H' => K (fr.put o.dst (.tup [])) H'
    | .call ⟨.builtin .clear, ⟨[m]⟩, ⟨[t]⟩⟩ => sClear cx.T H o t (fr.ev m) fun H' => K (fr.put o.dst (.tup [])) H'
    | .call ⟨.builtin .copy, ⟨[d, s]⟩, ⟨[t, t']⟩⟩ => sCopy cx.T H o t t' (fr.ev d) (fr.ev s) fun H' d => K (fr.put o.dst d) H'
    | .call ⟨.builtin .append, ⟨[s, x]⟩, ⟨[t, t']⟩⟩ => if t = t' then sAppend cx.T H o t (fr.ev s) (fr.ev x) fun H' d => K (fr.put o.dst d) H' else StuckP o []
    | .call ⟨.value f, args, _⟩ => (match fr.ev f with
      | .fn (.func n) first cap => if decide (cx.h0 ≤ H.length) && fr.all (fun p => p.2.undr 8 H.length) then CallP P n (first ++ args.toList.map fr.ev ++ cap) H fun d H' => K (fr.put o.dst d) H' else StuckP o []
      | _ => StuckP o (opnds fr o))
    | .call ⟨.invoke r m, args, _⟩ => (match fr.ev r with
      | .ifc t d => if decide (cx.h0 ≤ H.length) && fr.all (fun p => p.2.undr 8 H.length) then InvP P t d m (args.toList.map fr.ev) H fun d H' => K (fr.put o.dst d) H' else StuckP o []
      | _ => StuckP o (opnds fr o))
    | _ => (qopB own cx.T H fr.ev o).run o (opnds fr o) H.length fun d nw => K (fr.put o.dst d) (H ++ nw)) else StuckP o []
/-- the truth value that decides something is parted first -/
def part1 (fr : Fr) (t : Nat) (F : Fr → Prop) : Prop := match fr.get t with
  | .bool (.lit _) => F fr
  | .bool e => SplitP e (F (fr.set t (.bool (.lit true)))) (F (fr.set t (.bool (.lit false))))
  | _ => F fr
def pickT : Op → Option Nat
  | .pick (.tmp t) _ _ => some t
  | _ => none
def part2 (fr : Fr) (o : Oper) (F : Fr → Prop) : Prop := match pickT o.op with
  | some t => part1 fr t F
  | none => F fr
/-- operations that are left over: what the walk does not go on with by itself -/
structure OpsP (P : Program) (cx : Cx) (ops : Array Oper) (os : List Oper) (fr : Fr) (H : List Bk) (K : Fr → List Bk → Prop) : Prop where
  run : ∀ (B : Base) (E : Env) (a : Act) (w : World), cx.nt = B.nt → B.h0 ≤ cx.h0 → Rel B ⟨fr, H⟩ E a w → ∀ Q : Exit → Act → World → Prop, (∀ fr' H' E' a' w', K fr' H' → Rel B ⟨fr', H'⟩ E' a' w' → Q .normal a' w') → wpList P ops Q os a w
def isOsl : D → Bool
  | .osl .. => true
  | _ => false
/-- a row is built out of own rows: they are to be given up first -/
def pauseB (o : Oper) (ds : List D) : Bool := match o.op with
  | .buildSlice .. => ds.any fun d => match d with
    | .agg l => l.any isOsl
    | d => isOsl d
  | .store .. => (match ds with
    | [.rp .., .osl ..] => true
    | _ => false)
  | .lookup .. => (match ds with
    | [.mapr _, .agg _] => true
    | _ => false)
  | .mapUpdate .. => (match ds with
    | [.mapr _, .agg _, _] => true
    | _ => false)
  | _ => false
def pauseG (o : Oper) (fr : Fr) : Bool := match o.guard with
  | none => pauseB o (opnds fr o)
  | some _ => false
/-- a great region is walked in pieces -/
def cutB (ops : Array Oper) (os : List Oper) : Bool := if ops.size ≤ 48 then false else (if os.length % 17 = 0 then (if os.length = ops.size then false else true) else false)
/-- the next operation -/
def vopsH (P : Program) (cx : Cx) (ops : Array Oper) (o : Oper) (fr : Fr) (H : List Bk) (Kn : Fr → List Bk → Prop) : Prop := match o.guard with
  | none => part2 fr o fun fr => vop P cx (baseB ops o) o fr H Kn
  | some (j, b) => match (ops[j]?).bind (·.dst) with
    | some t => if decide (t < cx.nt) && dstB cx.nt o.dst then part1 fr t fun fr => (match fr.get t with
      | .bool (.lit c) => if c = b then part2 fr o fun fr => vop P cx (baseB ops o) o fr H Kn else Kn (fr.put o.dst (.tup [])) H
      | .tup [] => Kn (fr.put o.dst (.tup [])) H
      | d => StuckP o [d]) else StuckP o []
    | none => StuckP o []
def vops (P : Program) (cx : Cx) (ops : Array Oper) : List Oper → Fr → List Bk → (Fr → List Bk → Prop) → Prop
  | [], fr, H, K => K fr H
  | o :: os, fr, H, K => if pauseG o fr then OpsP P cx ops (o :: os) fr H K else (if cutB ops (o :: os) then OpsP P cx ops (o :: os) fr H K else vopsH P cx ops o fr H fun fr H => vops P cx ops os fr H K)
section
theorem Fr.get_undr {n : Nat} {fr' : Fr} (h : fr'.all (fun p => p.2.undr 8 n) = true) (t : Nat) : (fr'.get t).undr 8 n = true := by
  induction fr' with
  | nil => rfl
  | cons p r ih =>
    obtain ⟨m, d⟩ := p
    simp only [List.all_cons, Bool.and_eq_true] at h
    simp only [Fr.get]
    split
    · exact h.1
    · exact ih h.2
variable {P : Program} {cx : Cx} {B : Base}
theorem Rel.ev {fr : Fr} {H : List Bk} {E : Env} {a : Act} {w : World} (h : Rel B ⟨fr, H⟩ E a w) (x : Operand) : DRep w E (fr.ev x) (a.eval x) := by
  cases x with
  | tmp t => exact h.fr t
  | const v => exact D.ofV_rep v
  | global g => exact (h.wr.laid.get _).undata h.wr.wf
  | func f => exact .fn rfl rfl (fun i d v h => by simp at h) (fun i d v h => by simp at h)
theorem Rel.put {fr : Fr} {H H' : List Bk} {E E' : Env} {a : Act} {w w' : World} (h : Rel B ⟨fr, H⟩ E a w) (hw : WRel B H' E' w') (hle : E.le w w' E') (hown : E.own E') {dst : Option Nat} (hd : dstB B.nt dst = true) {d : D} {v : Value} (hv : DRep w' E' d v) : Rel B ⟨fr.put dst d, H'⟩ E' (a.put dst v) w' := by
  refine ⟨put_size.trans h.sz, put_defers'.trans h.df, fun t => ?_, hw⟩
  cases dst with
  | none => exact (h.fr t).move hle hown
  | some k =>
    simp only [dstB, decide_eq_true_eq] at hd
    have hlt : k < a.tmps.size := by rw [h.sz]; exact hd
    show DRep w' E' (Fr.get (Fr.set fr k d) t) ((a.put (some k) v).tmps.getD t undef)
    rw [Fr.get_set]
    by_cases e : k = t
    · subst e
      rw [if_pos rfl]
      have := eval_put_same (v := v) hlt
      exact (by rw [show (a.put (some k) v).tmps.getD k undef = v from this]; exact hv)
    · rw [if_neg e]
      have := eval_put_ne (a := a) (v := v) e
      rw [show (a.put (some k) v).tmps.getD t undef = a.tmps.getD t undef from this]
      exact (h.fr t).move hle hown
/-- a truth value that is known as a literal -/
theorem Rel.lit {fr : Fr} {H : List Bk} {E : Env} {a : Act} {w : World} (h : Rel B ⟨fr, H⟩ E a w) {t : Nat} {e : BE} (ht : fr.get t = .bool e) {b : Bool} (hb : e.den = b) : Rel B ⟨fr.set t (.bool (.lit b)), H⟩ E a w := by
  refine ⟨h.sz, h.df, fun k => ?_, h.wr⟩
  show DRep w E (Fr.get (Fr.set fr t _) k) _
  rw [Fr.get_set]
  by_cases q : t = k
  · subst q
    rw [if_pos rfl]
    have := h.fr t
    simp only [ht] at this
    generalize a.tmps.getD t undef = v at this
    cases this
    rw [hb]
    exact .bool (e := .lit b)
  · rw [if_neg q]
    exact h.fr k
theorem part1_sound {fr : Fr} {H : List Bk} {E : Env} {a : Act} {w : World} (h : Rel B ⟨fr, H⟩ E a w) {t : Nat} {F : Fr → Prop} (hp : part1 fr t F) : ∃ fr', F fr' ∧ Rel B ⟨fr', H⟩ E a w := by
  unfold part1 at hp
  split at hp
  · exact ⟨fr, hp, h⟩
  · next e _ he =>
    obtain ⟨h1, h2⟩ := hp
    cases hb : e.den with
    | true => exact ⟨_, h1 hb, h.lit he hb⟩
    | false => exact ⟨_, h2 hb, h.lit he hb⟩
  · exact ⟨fr, hp, h⟩
theorem part2_sound {fr : Fr} {H : List Bk} {E : Env} {a : Act} {w : World} (h : Rel B ⟨fr, H⟩ E a w) {o : Oper} {F : Fr → Prop} (hp : part2 fr o F) : ∃ fr', F fr' ∧ Rel B ⟨fr', H⟩ E a w := by
  unfold part2 at hp
  split at hp
  · exact part1_sound h hp
  · exact ⟨fr, hp, h⟩
theorem callFunc_here {f : Nat} (h : Here P f) (args : Array Value) (w : World) : (callFunc f args).run P w = .ok (.enter f args) w := by
  obtain ⟨fn, c, h1, h2, h3⟩ := h
  have h4 : ¬ fn.name = "runtime.NumGoroutine" := by simpa using h3
  simp [callFunc, h1, h2, h4]
theorem vop_sound (hT : cx.T.ok P) (hnt : cx.nt = B.nt) (hh0 : B.h0 ≤ cx.h0) {o : Oper} {fr : Fr} {H : List Bk} {K : Fr → List Bk → Prop} {own : Bool} (hk : vop P cx own o fr H K) {E : Env} {a : Act} {w : World} (h : Rel B ⟨fr, H⟩ E a w) {Q : Exit → Act → World → Prop} :
    o.wp P a w (fun a' w' => ∃ fr' H' E', K fr' H' ∧ Rel B ⟨fr', H'⟩ E' a' w') Q := by
  have eff : ∀ {H' : List Bk} {d : D}, EEff P H fr.ev o H' d → dstB cx.nt o.dst = true → K (fr.put o.dst d) H' → o.wp P a w (fun a' w' => ∃ fr' H' E', K fr' H' ∧ Rel B ⟨fr', H'⟩ E' a' w') Q := by
    intro H' d he hd hK
    obtain ⟨nx, v, w', E', h1, h2, h3, h4, h5, h6, _⟩ := he B w E a.eval h.ev h.wr
    unfold Oper.wp
    rw [h1]
    have fin := h.put h3 h4 h5 (dst := o.dst) (by rw [← hnt]; exact hd) h6
    rcases h2 with rfl | ⟨rfl, rfl⟩
    · exact ⟨_, _, _, hK, fin⟩
    · exact ⟨_, _, _, hK, fin⟩
  unfold vop at hk
  split at hk
  · next hd =>
    split at hk
    · next t x y ho =>
      obtain ⟨H', h1, h2⟩ := sStore2_eff hT ho hk
      exact eff h1 hd h2
    · next t m i x ho =>
      obtain ⟨H', h1, h2⟩ := sMapU_eff hT ho hk
      exact eff h1 hd h2
    · next m t ho =>
      obtain ⟨H', h1, h2⟩ := sClear_eff hT ho hk
      exact eff h1 hd h2
    · next s x t t' ho =>
      obtain ⟨H', d, h1, h2⟩ := sCopy_eff hT ho hk
      exact eff h1 hd h2
    · next s x t t' ho =>
      split at hk
      · next e =>
        subst e
        obtain ⟨H', d, h1, h2⟩ := sAppend_eff hT ho hk
        exact eff h1 hd h2
      · cases hk
    · next f args ats ho =>
      split at hk
      · next n first cap hf =>
        split at hk
        case isFalse => cases hk
        next hchk =>
        simp only [Bool.and_eq_true, decide_eq_true_eq] at hchk
        obtain ⟨hh, hrun⟩ := hk
        have hfv := h.ev f
        rw [hf] at hfv
        generalize hv : a.eval f = vf at hfv
        cases hfv with | @fn _ _ _ _ a0 a1 hs0 hs1 h0 h1 =>
        have hex : (execOp a.eval o).run P w = .ok (.enter n (a0 ++ args.map a.eval ++ a1)) w := by
          unfold execOp
          rw [ho]
          simp only [resolve, hv, Deferred.ofValue, Sem.run_bind, Sem.run_pure, Result.andThen_ok, invoke]
          exact callFunc_here hh _ _
        unfold Oper.wp
        rw [hex]
        let B2 : Base := ⟨B.w0, B.G0, B.nt, H.length, fun w E => B.Φ w E ∧ ∀ t, DRep w E (fr.get t) (a.tmps.getD t undef), fun w E w' E' h1 h2 h3 => ⟨B.stab _ _ _ _ h1 h2 h3.1, fun t => (h3.2 t).move h1 h2⟩, fun w E n hn h3 => ⟨B.cut _ _ _ (by omega) h3.1, fun t => DRep.trunc 8 (D.undr_mono 8 hn (Fr.get_undr hchk.2 t)) (h3.2 t)⟩, B.df, fun w E h => B.gl w E h.1⟩
        have hw2 : WRel B2 H E w := ⟨h.wr.inj, h.wr.own, h.wr.wf, h.wr.heap, h.wr.out, h.wr.good, h.wr.g0, h.wr.gn, h.wr.bel, h.wr.phi, h.fr⟩
        refine (hrun B2 w E _ (Nat.le_refl _) ⟨by simp [hs0, hs1], fun i d v hd1 hv1 => ?_⟩ hw2).mono ?_
        · simp only [List.getElem?_append, Array.getElem?_append, List.length_append, List.length_map, Array.length_toList, Array.size_append, Array.size_map, hs0] at hd1 hv1
          split at hd1
          · next q1 =>
            rw [if_pos (by omega)] at hv1
            split at hd1
            · next q2 =>
              rw [if_pos (by omega)] at hv1
              exact h0 i d v hd1 hv1
            · next q2 =>
              rw [if_neg (by omega)] at hv1
              simp only [List.getElem?_map, Option.map_eq_some_iff, Array.getElem?_toList, Array.getElem?_map] at hd1 hv1
              obtain ⟨x, hx, rfl⟩ := hd1
              obtain ⟨y, hy, rfl⟩ := hv1
              rw [hx] at hy
              cases hy
              exact h.ev x
          · next q1 =>
            rw [if_neg (by omega)] at hv1
            exact h1 _ d v hd1 hv1
        · rintro e w' ⟨v, E', d, H', rfl, q1, q4, q5⟩
          have q1' : WRel B H' E' w' := ⟨q1.inj, q1.own, q1.wf, q1.heap, q1.out, q1.good, q1.g0, q1.gn, q1.bel, q1.phi.1⟩
          have hr2 : Rel B ⟨fr, H'⟩ E' a w' := ⟨h.sz, h.df, q1.phi.2, q1'⟩
          exact ⟨_, _, _, q5, hr2.put q1' (Env.le.refl _ _) (Env.own.refl _) (dst := o.dst) (by rw [← hnt]; exact hd) q4⟩
      · cases hk
    · next r m args ats ho =>
      split at hk
      · next t dd hf =>
        split at hk
        case isFalse => cases hk
        next hchk =>
        simp only [Bool.and_eq_true, decide_eq_true_eq] at hchk
        have hfv := h.ev r
        rw [hf] at hfv
        generalize hv : a.eval r = vf at hfv
        cases hfv with | @ifc _ _ _ v0 hr0 =>
        let B2 : Base := ⟨B.w0, B.G0, B.nt, H.length, fun w E => B.Φ w E ∧ ∀ t, DRep w E (fr.get t) (a.tmps.getD t undef), fun w E w' E' h1 h2 h3 => ⟨B.stab _ _ _ _ h1 h2 h3.1, fun t => (h3.2 t).move h1 h2⟩, fun w E n hn h3 => ⟨B.cut _ _ _ (by omega) h3.1, fun t => DRep.trunc 8 (D.undr_mono 8 hn (Fr.get_undr hchk.2 t)) (h3.2 t)⟩, B.df, fun w E h => B.gl w E h.1⟩
        have hw2 : WRel B2 H E w := ⟨h.wr.inj, h.wr.own, h.wr.wf, h.wr.heap, h.wr.out, h.wr.good, h.wr.g0, h.wr.gn, h.wr.bel, h.wr.phi, h.fr⟩
        have hlr : LRep w E (args.toList.map fr.ev) (args.map a.eval) := by
          refine ⟨by rw [List.length_map, Array.size_map]; exact Array.length_toList, fun i d v hd1 hv1 => ?_⟩
          simp only [List.getElem?_map, Option.map_eq_some_iff, Array.getElem?_toList, Array.getElem?_map] at hd1 hv1
          obtain ⟨x, hx, rfl⟩ := hd1
          obtain ⟨y, hy, rfl⟩ := hv1
          rw [hx] at hy
          cases hy
          exact h.ev x
        obtain ⟨f, u, hmeth, hh, hcall⟩ := hk.run B2 w E v0 (args.map a.eval) (Nat.le_refl _) hr0 hlr hw2
        have hex : (execOp a.eval o).run P w = .ok (.enter f (#[u] ++ args.map a.eval)) w := by
          obtain ⟨e1, e2⟩ := inv_args (.iface t v0) (args.map a.eval)
          have e3 : (program).run P w = .ok P w := rfl
          unfold execOp
          rw [ho]
          simp only [resolve, hv, Sem.run_bind, Sem.run_pure, Result.andThen_ok, invoke, e1, e2, callMethod, e3, hmeth]
          exact callFunc_here hh _ _
        unfold Oper.wp
        rw [hex]
        refine hcall.mono ?_
        rintro e w' ⟨v, E', d, H', rfl, q1, q4, q5⟩
        have q1' : WRel B H' E' w' := ⟨q1.inj, q1.own, q1.wf, q1.heap, q1.out, q1.good, q1.g0, q1.gn, q1.bel, q1.phi.1⟩
        have hr2 : Rel B ⟨fr, H'⟩ E' a w' := ⟨h.sz, h.df, q1.phi.2, q1'⟩
        exact ⟨_, _, _, q5, hr2.put q1' (Env.le.refl _ _) (Env.own.refl _) (dst := o.dst) (by rw [← hnt]; exact hd) q4⟩
      · cases hk
    · obtain ⟨d, nw, h1, h2⟩ := QR.effX _ (qopB_good hT own) hk
      exact h1.toE h.ev h.wr fun v w' E' q1 q2 q3 q4 => ⟨_, _, _, h2, h.put q1 q2 q3 (dst := o.dst) (by rw [← hnt]; exact hd) q4⟩
  · cases hk
theorem yielded_get {ops : Array Oper} {j t : Nat} {a : Act} (hj : (ops[j]?).bind (·.dst) = some t) (ht : t < a.tmps.size) : yielded ops a.tmps j = match a.tmps.getD t undef with | .bool b => some b | _ => none := by
  unfold yielded
  rw [hj]
  simp only [Option.bind_some]
  rw [Array.getElem?_eq_getElem ht]
  have : a.tmps.getD t undef = a.tmps[t] := by simp [ht]
  rw [this]
  cases a.tmps[t] <;> rfl
theorem vopsH_sound (hT : cx.T.ok P) (hnt : cx.nt = B.nt) (hh0 : B.h0 ≤ cx.h0) {ops : Array Oper} {o : Oper} {os : List Oper} {fr : Fr} {H : List Bk} {Kn : Fr → List Bk → Prop} (hk : vopsH P cx ops o fr H Kn) {E : Env} {a : Act} {w : World} (h : Rel B ⟨fr, H⟩ E a w) {Q : Exit → Act → World → Prop}
    (hn : ∀ fr' H' E' a' w', Kn fr' H' → Rel B ⟨fr', H'⟩ E' a' w' → wpList P ops Q os a' w') : wpList P ops Q (o :: os) a w := by
  have run : ∀ {fr : Fr}, Rel B ⟨fr, H⟩ E a w → (part2 fr o fun fr => vop P cx (baseB ops o) o fr H Kn) → o.wp P a w (wpList P ops Q os) Q := fun hr hp => by
    obtain ⟨fr', h1, h2⟩ := part2_sound hr hp
    exact Oper.wp_mono (fun a' w' ⟨fr2, H2, E2, q1, q2⟩ => hn _ _ _ _ _ q1 q2) (vop_sound hT hnt hh0 h1 h2 (Q := Q))
  have skip : ∀ {fr : Fr}, Rel B ⟨fr, H⟩ E a w → dstB cx.nt o.dst = true → Kn (fr.put o.dst (.tup [])) H → wpList P ops Q os (a.put o.dst undef) w := fun hr hd hp =>
    hn _ _ _ _ _ hp (hr.put hr.wr (Env.le.refl _ _) (Env.own.refl _) (by rw [← hnt]; exact hd) (DRep.tup rfl fun i d v h => by simp at h))
  unfold vopsH at hk
  unfold wpList
  split at hk
  · next hg =>
    rw [if_pos (by unfold Region.wanted; rw [hg])]
    exact .inl (run h hk)
  · next j b hg =>
    split at hk
    · next t hj =>
      split at hk
      · next hc =>
        simp only [Bool.and_eq_true, decide_eq_true_eq] at hc
        obtain ⟨fr', hk2, hr⟩ := part1_sound h hk
        have hlt : t < a.tmps.size := by rw [h.sz, ← hnt]; exact hc.1
        have hy := yielded_get hj hlt
        have hrep := hr.fr t
        have hw : Region.wanted o (yielded ops a.tmps) = (yielded ops a.tmps j == some b) := by unfold Region.wanted; rw [hg]
        split at hk2
        · next c hlit =>
          simp only [hlit] at hrep
          generalize a.tmps.getD t undef = v at hrep hy
          cases hrep
          simp only [BE.den] at hy
          split at hk2
          · next e =>
            subst e
            rw [if_pos (by rw [hw, hy]; simp)]
            exact .inl (run hr hk2)
          · next e =>
            rw [if_neg (by rw [hw, hy]; simpa using e)]
            exact skip hr hc.2 hk2
        · next htup =>
          simp only [htup] at hrep
          generalize a.tmps.getD t undef = v at hrep hy
          cases hrep
          simp only at hy
          rw [if_neg (by rw [hw, hy]; simp)]
          exact skip hr hc.2 hk2
        · cases hk2
      · cases hk
    · cases hk
theorem vops_sound (hT : cx.T.ok P) (hnt : cx.nt = B.nt) (hh0 : B.h0 ≤ cx.h0) {ops : Array Oper} : ∀ (os : List Oper) {fr : Fr} {H : List Bk} {K : Fr → List Bk → Prop} (_ : vops P cx ops os fr H K) {E : Env} {a : Act} {w : World} (_ : Rel B ⟨fr, H⟩ E a w) {Q : Exit → Act → World → Prop}
    (_ : ∀ fr' H' E' a' w', K fr' H' → Rel B ⟨fr', H'⟩ E' a' w' → Q .normal a' w'), wpList P ops Q os a w
  | [], fr, H, K, hk, E, a, w, h, Q, hQ => hQ _ _ _ _ _ hk h
  | o :: os, fr, H, K, hk, E, a, w, h, Q, hQ => by
    unfold vops at hk
    split at hk
    · exact hk.run B E a w hnt hh0 h Q hQ
    · split at hk
      · exact hk.run B E a w hnt hh0 h Q hQ
      · exact vopsH_sound hT hnt hh0 hk h fun fr' H' E' a' w' q1 q2 => vops_sound hT hnt hh0 os q1 q2 hQ
theorem OpsP.go (hT : cx.T.ok P) {ops : Array Oper} {o : Oper} {os : List Oper} {fr : Fr} {H : List Bk} {K : Fr → List Bk → Prop} (h : vopsH P cx ops o fr H fun fr H => vops P cx ops os fr H K) : OpsP P cx ops (o :: os) fr H K :=
  ⟨fun B E a w hnt hh0 hr Q hQ => vopsH_sound hT hnt hh0 h hr fun fr' H' E' a' w' q1 q2 => vops_sound hT hnt hh0 os q1 q2 hQ⟩
end
end Go.Proofs.YtdhfakajlnidiaaGreat
namespace Go.Proofs.YtdhfakajlnidiaaGreat
open Go.RowKit

/-! A region that draws its order: each operation of its front, at any place that its edges allow, gives what it gives in the order of the text. -/
open Classical in
noncomputable def res (o : Oper) (ρ : Operand → D) (x : Operand) : D := if x ∈ o.op.operands then ρ x else .junk
theorem res_in {o : Oper} {ρ : Operand → D} {x : Operand} (h : x ∈ o.op.operands) : res o ρ x = ρ x := by unfold res; rw [if_pos h]
theorem qop_res (T : Tab) (H : List Bk) (ρ : Operand → D) (o : Oper) : qop T H (res o ρ) o = qop T H ρ o := by
  have key : ∀ x, x ∈ o.op.operands → res o ρ x = ρ x := fun x h => res_in h
  generalize res o ρ = ρ' at key
  have parts : ∀ ps : Array (Nat × Operand), (∀ p ∈ ps, p.2 ∈ o.op.operands) → evParts ps ρ' = evParts ps ρ := fun ps h => by
    unfold evParts
    refine List.map_congr_left fun p hp => ?_
    rw [key p.2 (h p (by simpa using hp))]
  have lists : ∀ ps : Array Operand, (∀ p ∈ ps, p ∈ o.op.operands) → ps.toList.map ρ' = ps.toList.map ρ := fun ps h =>
    List.map_congr_left fun p hp => key p (h p (by simpa using hp))
  unfold qop
  split
  · next x h => rw [key x (by simp [h, Op.operands])]
  · next x h => rw [key x (by simp [h, Op.operands])]
  · next c a b h => rw [key c (by simp [h, Op.operands]), key a (by simp [h, Op.operands]), key b (by simp [h, Op.operands])]
  · rfl
  · next x h => rw [key x (by simp [h, Op.operands])]
  · next t ps h => rw [parts ps fun p hp => by rw [h]; simp only [Op.operands]; simp; exact ⟨p.1, hp⟩]
  · next t l ps h => rw [parts ps fun p hp => by rw [h]; simp only [Op.operands]; simp; exact ⟨p.1, hp⟩]
  · next t x y h => rw [key x (by simp [h, Op.operands]), key y (by simp [h, Op.operands])]
  · next x h => rw [key x (by simp [h, Op.operands])]
  · next x y _ h => rw [key x (by rw [h]; simp [Op.operands]), key y (by rw [h]; simp [Op.operands])]
  · next x h => rw [key x (by simp [h, Op.operands])]
  · next x h => rw [key x (by simp [h, Op.operands])]
  · next f a b h => rw [lists a fun p hp => by rw [h]; simp [Op.operands, hp], lists b fun p hp => by rw [h]; simp [Op.operands, hp]]
  · next x f h => rw [key x (by simp [h, Op.operands])]
  · next x f h => rw [key x (by simp [h, Op.operands])]
  · next h => rw [key _ (by rw [h]; simp [Op.operands]), key _ (by rw [h]; simp [Op.operands])]
  · next x h => rw [key x (by simp [h, Op.operands])]
  · next h => rw [key _ (by rw [h]; simp [Op.operands]), key _ (by rw [h]; simp [Op.operands])]
  · next x i h => rw [key x (by simp [h, Op.operands])]
  · next t r h =>
    cases r with
    | none => rfl
    | some y => simp [key y (by simp [h, Op.operands])]
  · next h => rw [key _ (by rw [h]; simp [Op.operands]), key _ (by rw [h]; simp [Op.operands])]
  · next t x lo hi mx h =>
    have opt : ∀ q : Option Operand, (∀ y, q = some y → y ∈ o.op.operands) → q.map ρ' = q.map ρ := fun q hq => by
      cases q with
      | none => rfl
      | some y => simp [key y (hq y rfl)]
    rw [key x (by simp [h, Op.operands]), opt lo fun y hy => by rw [h, hy]; simp [Op.operands], opt hi fun y hy => by rw [h, hy]; simp [Op.operands], opt mx fun y hy => by rw [h, hy]; simp [Op.operands]]
  · next x h => rw [key x (by simp [h, Op.operands])]
  · next x _ _ _ h => rw [key x (by simp [h, Op.operands])]
  · next h => rw [key _ (by rw [h]; simp [Op.operands, Call.operands])]
  · next h => rw [key _ (by rw [h]; simp [Op.operands, Call.operands]), key _ (by rw [h]; simp [Op.operands, Call.operands])]
  · next h => rw [key _ (by rw [h]; simp [Op.operands, Call.operands]), key _ (by rw [h]; simp [Op.operands, Call.operands])]
  · rfl
/-- a call of a function that is known, in a region whose order is open -/
inductive PureP (P : Program) (n : Nat) (args : List D) (H : List Bk) (K : D → List Bk → Prop) : Prop
  | mk (d : D) (hp : Pure P n args d) (hd : args.all (D.dataB 8) = true) (hk : K d [])
  | lend (args' : List D) (d : D) (hp : Pure P n args' d) (hs : SnDs H [] args args') (hd : args'.all (D.dataB 8) = true) (hsc : d.scalB = true) (hk : K d [])
  | lendF (args' : List D) (d : D) (hp : PureF P n args' d) (hs : SnDs H [] args args') (hd : args'.all (D.dataB 8) = true) (hk : K d [])
  | new {n' ty ver : Nat} {nb : BE} {lo len : IE} {r : RE} (hp : CallP P n args [] fun d1 H1 => d1 = .osl n' 0 ver nb lo len ∧ H1 = [.row ty n' ver r]) (hd : args.all (D.dataB 8) = true) (hsc : ∀ e ∈ r.den, e.all D.scalB = true) (hv : 0 < ver) (hk : K (.osl n' H.length ver nb lo len) [.row ty n' ver r])
  | newD {n' ty ver : Nat} {nb : BE} {lo len : IE} {r : RE} (hp : CallP P n args [] fun d1 H1 => d1 = .osl n' 0 ver nb lo len ∧ H1 = [.row ty n' ver r]) (hd : args.all (D.dataB 8) = true) (hv : 0 < ver) (hk : K (.osl n' H.length ver nb lo len) [.row ty n' ver r])
/-- a block more that is known, in the same world -/
theorem WRel.lay {B : Base} {H : List Bk} {E : Env} {w : World} (h : WRel B H E w) {x k z : Nat} {c : Option Nat} {b' : Bk} (hx : x < H.length) (hk : E.κ x < k)
    (hc : ∀ d, c = some d → B.w0.heap.size ≤ d ∧ d < w.heap.size ∧ ¬ E.G d ∧ ∀ y, E.σ y ≠ some d) (hv : b'.ver k) (hb : ∀ d, c = some d → BRep w (E.upd x c k z) x d b') (hvirt : c = none → b'.virt) :
    WRel B (H.set x b') (E.upd x c k z) w ∧ E.own (E.upd x c k z) := by
  have hle : E.le w w (E.upd x c k z) := ⟨fun _ h => h, fun _ _ => rfl⟩
  have hown : E.own (E.upd x c k z) := by
    refine ⟨fun b => ?_, fun b e => ?_⟩
    · simp only [Env.upd]; split
      · next q => subst q; omega
      · exact Nat.le_refl _
    · simp only [Env.upd] at e ⊢
      by_cases q : b = x
      · subst q; simp at e; omega
      · simp [q]
  refine ⟨⟨fun p q d hp hq => ?_, fun p d hp => ?_, fun p hp => ?_, fun p b hp => ?_, fun p hp => ?_, h.good, h.g0, h.gn, h.bel, B.stab _ _ _ _ hle hown h.phi⟩, hown⟩
  · simp only [Env.upd] at hp hq
    split at hp <;> split at hq
    · omega
    · exact absurd hq ((hc d hp).2.2.2 q)
    · exact absurd hp ((hc d hq).2.2.2 p)
    · exact h.inj _ _ _ hp hq
  · simp only [Env.upd] at hp
    split at hp
    · obtain ⟨q1, q2, q3, _⟩ := hc d hp
      exact ⟨q1, q2, q3⟩
    · exact h.own _ _ hp
  · simp only [Env.upd] at hp ⊢
    split at hp
    · omega
    · next q => rw [if_neg q]; exact h.wf p hp
  · by_cases e : p = x
    · subst e
      rw [List.getElem?_set_self hx] at hp
      cases hp
      have k1 : (E.upd p c k z).κ p = k := by simp [Env.upd]
      have k2 : (E.upd p c k z).σ p = c := by simp [Env.upd]
      rw [k1, k2]
      exact .inr ⟨hv, fun d hd => hb d hd, hvirt⟩
    · rw [List.getElem?_set_ne (fun q => e q.symm)] at hp
      have k1 : (E.upd x c k z).κ p = E.κ p := by simp [Env.upd, e]
      have k2 : (E.upd x c k z).σ p = E.σ p := by simp [Env.upd, e]
      have k3 : (E.upd x c k z).ζ p = E.ζ p := by simp [Env.upd, e]
      rw [k1, k2]
      rcases h.heap p b hp with q | ⟨q1, q2, q3⟩
      · exact .inl q
      · exact .inr ⟨q1, fun d hd => (q2 d hd).move hle hown rfl k3, q3⟩
  · simp at hp
    have := h.out p hp
    simp only [Env.upd]
    rw [if_neg (by omega), if_neg (by omega)]
    exact this
theorem call_eval {P : Program} {ρ : Operand → D} {o : Oper} {f : Operand} {args : Array Operand} {ats : Array TypeId} (ho : o.op = .call ⟨.value f, args, ats⟩) {n : Nat} {first cap : List D} (hf : ρ f = .fn (.func n) first cap) (hh : Here P n) {w : World} {E : Env} {ev : Operand → Value} (hev : ∀ x, DRep w E (ρ x) (ev x)) :
    ∃ vs, (execOp ev o).run P w = .ok (.enter n vs) w ∧ LRep w E (first ++ args.toList.map ρ ++ cap) vs := by
  have hfv := hev f
  rw [hf] at hfv
  generalize hv : ev f = vf at hfv
  cases hfv with | @fn _ _ _ _ a0 a1 hs0 hs1 h0 h1 =>
  refine ⟨a0 ++ args.map ev ++ a1, ?_, by simp [hs0, hs1], fun i d v hd1 hv1 => ?_⟩
  · unfold execOp
    rw [ho]
    simp only [resolve, hv, Deferred.ofValue, Sem.run_bind, Sem.run_pure, Result.andThen_ok, invoke]
    exact callFunc_here hh _ _
  · simp only [List.getElem?_append, Array.getElem?_append, List.length_append, List.length_map, Array.length_toList, Array.size_append, Array.size_map, hs0] at hd1 hv1
    split at hd1
    · next q1 =>
      rw [if_pos (by omega)] at hv1
      split at hd1
      · next q2 =>
        rw [if_pos (by omega)] at hv1
        exact h0 i d v hd1 hv1
      · next q2 =>
        rw [if_neg (by omega)] at hv1
        simp only [List.getElem?_map, Option.map_eq_some_iff, Array.getElem?_toList, Array.getElem?_map] at hd1 hv1
        obtain ⟨x, hx, rfl⟩ := hd1
        obtain ⟨y, hy, rfl⟩ := hv1
        rw [hx] at hy
        cases hy
        exact hev x
    · next q1 =>
      rw [if_neg (by omega)] at hv1
      exact h1 _ d v hd1 hv1
theorem PureP.effL {P : Program} {H : List Bk} {ρ : Operand → D} {o : Oper} {f : Operand} {args : Array Operand} {ats : Array TypeId} (ho : o.op = .call ⟨.value f, args, ats⟩) {n : Nat} {first cap : List D} (hf : ρ f = .fn (.func n) first cap) {args' : List D} {d : D}
    (hp : Pure P n args' d) (hs : SnDs H [] (first ++ args.toList.map ρ ++ cap) args') (hd : args'.all (D.dataB 8) = true) (hsc : d.scalB = true) : OpX P H ρ o d [] := fun B Hx w E a hev hw hc hfr K Q hk => by
  obtain ⟨vs, hex, hl⟩ := call_eval (P := P) ho hf hp.1 hev
  unfold Oper.wp
  rw [hex]
  obtain ⟨h1, h2⟩ := hs.get
  refine (hp.2 w E.lent vs hw.lentLaid hw.lentGood ⟨by rw [← h1]; exact hl.1, fun i x v hx hv' => ?_⟩).mono ?_
  · have hlt := (List.getElem?_eq_some_iff.1 hx).1
    have hx0 : (first ++ args.toList.map ρ ++ cap)[i]? = some ((first ++ args.toList.map ρ ++ cap)[i]'(by omega)) := List.getElem?_eq_getElem (by omega)
    exact (h2 i _ x hx0 hx).lent (hc.heap hw.heap) (hl.2 i _ v hx0 hv') (List.all_eq_true.1 hd x (List.mem_of_getElem? hx))
  · rintro e w' ⟨v, G', rfl, q2, q3, q4, q5, q6⟩
    exact hk v w' E (hw.same q2) (Below.le_env (E := E) q2 hw.good fun _ h => h) (Env.own.refl _) (fun _ _ => ⟨rfl, rfl⟩) (D.scalB_rep hsc q6)
theorem PureP.effF {P : Program} {H : List Bk} {ρ : Operand → D} {o : Oper} {f : Operand} {args : Array Operand} {ats : Array TypeId} (ho : o.op = .call ⟨.value f, args, ats⟩) {n : Nat} {first cap : List D} (hf : ρ f = .fn (.func n) first cap) {args' : List D} {d : D}
    (hp : PureF P n args' d) (hs : SnDs H [] (first ++ args.toList.map ρ ++ cap) args') (hd : args'.all (D.dataB 8) = true) : OpX P H ρ o d [] := fun B Hx w E a hev hw hc hfr K Q hk => by
  obtain ⟨vs, hex, hl⟩ := call_eval (P := P) ho hf hp.1 hev
  unfold Oper.wp
  rw [hex]
  obtain ⟨h1, h2⟩ := hs.get
  refine (hp.2 w E.lent vs hw.lentLaid hw.lentGood ⟨by rw [← h1]; exact hl.1, fun i x v hx hv' => ?_⟩).mono ?_
  · have hlt := (List.getElem?_eq_some_iff.1 hx).1
    have hx0 : (first ++ args.toList.map ρ ++ cap)[i]? = some ((first ++ args.toList.map ρ ++ cap)[i]'(by omega)) := List.getElem?_eq_getElem (by omega)
    exact (h2 i _ x hx0 hx).lent (hc.heap hw.heap) (hl.2 i _ v hx0 hv') (List.all_eq_true.1 hd x (List.mem_of_getElem? hx))
  · rintro e w' ⟨v, G', rfl, q2, q3, q4⟩
    have hsz := q2.size
    have k1 := hw.kept (G' := fun b => E.G b ∨ G' b) q2 (fun b hb => .inl hb) (fun b hb => hb.imp id fun q => (q3 b q).1) (fun b hb => by
      rcases hb with q | q
      · have := hw.good b q; omega
      · exact (q3 b q).2)
    exact hk v w' ⟨fun b => E.G b ∨ G' b, E.σ, E.κ, E.ζ⟩ k1 (Below.le_env q2 hw.good fun b hb => .inl hb) ⟨fun _ => Nat.le_refl _, fun _ _ => ⟨rfl, fun _ _ => rfl⟩⟩ (fun _ _ => ⟨rfl, rfl⟩) (DRep.undata (E := ⟨fun b => E.G b ∨ G' b, E.σ, E.κ, E.ζ⟩) k1.wf (q4.move ⟨fun b hb => .inr hb, fun _ _ => rfl⟩ ⟨fun _ => Nat.le_refl _, fun _ _ => ⟨rfl, fun _ _ => rfl⟩⟩))
theorem PureP.effX {P : Program} {H : List Bk} {ρ : Operand → D} {o : Oper} {f : Operand} {args : Array Operand} {ats : Array TypeId} (ho : o.op = .call ⟨.value f, args, ats⟩) {n : Nat} {first cap : List D} (hf : ρ f = .fn (.func n) first cap) {d : D}
    (hp : Pure P n (first ++ args.toList.map ρ ++ cap) d) (hd : (first ++ args.toList.map ρ ++ cap).all (D.dataB 8) = true) : OpX P H ρ o d [] := fun B Hx w E a hev hw hc hfr K Q hk => by
  have hfv := hev f
  rw [hf] at hfv
  generalize hv : a.eval f = vf at hfv
  cases hfv with | @fn _ _ _ _ a0 a1 hs0 hs1 h0 h1 =>
  have hex : (execOp a.eval o).run P w = .ok (.enter n (a0 ++ args.map a.eval ++ a1)) w := by
    unfold execOp
    rw [ho]
    simp only [resolve, hv, Deferred.ofValue, Sem.run_bind, Sem.run_pure, Result.andThen_ok, invoke]
    exact callFunc_here hp.1 _ _
  unfold Oper.wp
  rw [hex]
  have hl : LRep w E (first ++ args.toList.map ρ ++ cap) (a0 ++ args.map a.eval ++ a1) := by
    refine ⟨by simp [hs0, hs1], fun i d v hd1 hv1 => ?_⟩
    simp only [List.getElem?_append, Array.getElem?_append, List.length_append, List.length_map, Array.length_toList, Array.size_append, Array.size_map, hs0] at hd1 hv1
    split at hd1
    · next q1 =>
      rw [if_pos (by omega)] at hv1
      split at hd1
      · next q2 =>
        rw [if_pos (by omega)] at hv1
        exact h0 i d v hd1 hv1
      · next q2 =>
        rw [if_neg (by omega)] at hv1
        simp only [List.getElem?_map, Option.map_eq_some_iff, Array.getElem?_toList, Array.getElem?_map] at hd1 hv1
        obtain ⟨x, hx, rfl⟩ := hd1
        obtain ⟨y, hy, rfl⟩ := hv1
        rw [hx] at hy
        cases hy
        exact hev x
    · next q1 =>
      rw [if_neg (by omega)] at hv1
      exact h1 _ d v hd1 hv1
  refine (hp.2 w E.G _ hw.laid hw.good ⟨hl.1, fun i x v h1 h2 => D.dataB_rep (E := E) (E' := Env.of E.G) rfl 8 (List.all_eq_true.1 hd x (List.mem_of_getElem? h1)) (hl.2 i x v h1 h2)⟩).mono ?_
  rintro e w' ⟨v, G', rfl, h2, h3, h4, h5, h6⟩
  exact hk v w' ⟨G', E.σ, E.κ, E.ζ⟩ (hw.kept h2 h3 h4 h5) (Below.le_env h2 hw.good h3) ⟨fun _ => Nat.le_refl _, fun _ _ => ⟨rfl, fun _ _ => rfl⟩⟩ (fun _ _ => ⟨rfl, rfl⟩) (DRep.undata (E := ⟨G', E.σ, E.κ, E.ζ⟩) hw.wf h6)
theorem PureP.effN {P : Program} {H : List Bk} {ρ : Operand → D} {o : Oper} {f : Operand} {args : Array Operand} {ats : Array TypeId} (ho : o.op = .call ⟨.value f, args, ats⟩) {n : Nat} {first cap : List D} (hf : ρ f = .fn (.func n) first cap) {n' ty ver : Nat} {nb : BE} {lo len : IE} {r : RE}
    (hp : CallP P n (first ++ args.toList.map ρ ++ cap) [] fun d1 H1 => d1 = .osl n' 0 ver nb lo len ∧ H1 = [.row ty n' ver r]) (hd : (first ++ args.toList.map ρ ++ cap).all (D.dataB 8) = true) (hv : 0 < ver) :
    OpX P H ρ o (.osl n' H.length ver nb lo len) [.row ty n' ver r] := fun B Hx w E a hev hw hc hfr K Q hk => by
  obtain ⟨vs, hex, hl⟩ := call_eval (P := P) ho hf hp.here hev
  unfold Oper.wp
  rw [hex]
  let B0 : Base := ⟨w, E.G, 0, 0, fun w E => Laid w E.G, fun _ _ _ _ h1 _ h3 => h3.le h1, fun _ _ _ _ h => h, [], fun _ _ h => h⟩
  have hw0 : WRel B0 [] (Env.of E.G) w := ⟨fun x y c h => by simp [Env.of] at h, fun x c h => by simp [Env.of] at h, fun _ _ => rfl, fun x b h => by simp at h, fun _ _ => ⟨rfl, rfl⟩, hw.good, fun _ h => h, fun _ h => .inl h, Below.refl _ _, hw.laid⟩
  refine (hp.run B0 w (Env.of E.G) vs (Nat.le_refl _) ⟨hl.1, fun i x v h1 h2 => D.dataB_rep (E := E) (E' := Env.of E.G) rfl 8 (List.all_eq_true.1 hd x (List.mem_of_getElem? h1)) (hl.2 i x v h1 h2)⟩ hw0).mono ?_
  rintro e w' ⟨v, E1, d1, H1, rfl, q1, q2, rfl, rfl⟩
  have hlaid : E1.κ 0 = ver ∧ (∀ c, E1.σ 0 = some c → BRep w' E1 0 c (.row ty n' ver r)) ∧ (E1.σ 0 = none → r.den = []) := by
    rcases q1.heap 0 _ rfl with ⟨z1, z2⟩ | ⟨z1, z2, z3⟩
    · cases q2 with
      | oslc hk h => rw [z2] at h; cases h
      | osln hk => omega
      | osls hk => omega
    · exact ⟨z1, z2, z3⟩
  obtain ⟨l1, l2, l3⟩ := hlaid
  obtain ⟨z1, z2⟩ := hfr H.length (Nat.le_refl _) (by simp)
  have hx0 : Hx[H.length]? = some (.row ty n' ver r) := hc.of (by simp) (by simp)
  have hxl := (List.getElem?_eq_some_iff.1 hx0).1
  have hbel : Below w.heap.size w w' := q1.bel
  have hk1 := hw.kept (G' := E1.G) hbel q1.g0 q1.gn q1.good
  obtain ⟨r1, r2⟩ := hk1.lay (x := H.length) (k := ver) (z := E1.ζ 0) (c := E1.σ 0) (b' := .row ty n' ver r) hxl (by show E.κ H.length < ver; omega) (fun d hd => by
      obtain ⟨y1, y2, y3⟩ := q1.own 0 d hd
      have hs0 := hw.bel.size
      have y1' : w.heap.size ≤ d := y1
      refine ⟨by omega, y2, y3, fun y hy => ?_⟩
      have := (hw.own y d hy).2.1
      omega) rfl (fun d hd => by
      obtain ⟨cs, t, y1, y2, y3, y4, y5⟩ := l2 d hd
      exact ⟨cs, t, y1, y2, by simpa [Env.upd] using y3, y4, y5⟩) l3
  have hset : Hx.set H.length (.row ty n' ver r) = Hx := by
    apply List.ext_getElem?
    intro i
    by_cases e : H.length = i
    · subst e
      rw [List.getElem?_set_self hxl, hx0]
    · rw [List.getElem?_set_ne e]
  rw [hset] at r1
  refine hk v w' _ r1 ⟨fun b hb => q1.g0 b hb, fun b hb => hbel.block b (hw.good b hb)⟩ ⟨r2.κ, r2.σ⟩ (fun y hy => ?_) ?_
  · have : y ≠ H.length := by simp at hy; omega
    simp [Env.upd, this]
  · cases q2 with
    | oslc hk h hnb hl hn hc hm hsz => exact .oslc (by simp [Env.upd]) (by simp [Env.upd, h]) hnb hl hn hc hm (by simpa [Env.upd] using hsz)
    | osln hk h hnb hl hn => exact .osln (by simp [Env.upd]) (by simp [Env.upd, h]) hnb hl hn
    | osls hk => omega
theorem qopB_res (own : Bool) (T : Tab) (H : List Bk) (ρ : Operand → D) (o : Oper) : qopB own T H (res o ρ) o = qopB own T H ρ o := by
  unfold qopB
  cases own <;> simp only [qop_res]
def vopq (P : Program) (cx : Cx) (own : Bool) (o : Oper) (fr : Fr) (H : List Bk) (K : Fr → List Bk → Prop) : Prop := match o.dst with
  | some t => if t < cx.nt then (match o.op with
    | .call ⟨.value f, args, _⟩ => (match fr.ev f with
      | .fn (.func n) first cap => PureP P n (first ++ args.toList.map fr.ev ++ cap) H fun d nw => K (fr.set t d) (H ++ nw)
      | _ => StuckP o (opnds fr o))
    | _ => (qopB own cx.T H fr.ev o).run o (opnds fr o) H.length fun d nw => K (fr.set t d) (H ++ nw)) else StuckP o []
  | none => StuckP o []
def vopsq (P : Program) (cx : Cx) (ops : Array Oper) : List Oper → Fr → List Bk → (Fr → List Bk → Prop) → Prop
  | [], fr, H, K => K fr H
  | o :: os, fr, H, K => match o.guard with
    | none => part2 fr o fun fr => vopq P cx (baseB ops o) o fr H fun fr H => vopsq P cx ops os fr H K
    | some (j, b) => match (ops[j]?).bind (·.dst), o.dst with
      | some t, some t' => if decide (t < cx.nt) && decide (t' < cx.nt) then part1 fr t fun fr => (match fr.get t with
        | .bool (.lit c) => if c = b then part2 fr o fun fr => vopq P cx (baseB ops o) o fr H fun fr H => vopsq P cx ops os fr H K else vopsq P cx ops os (fr.set t' (.tup [])) H K
        | .tup [] => vopsq P cx ops os (fr.set t' (.tup [])) H K
        | d => StuckP o [d]) else StuckP o []
      | _, _ => StuckP o []
/-- a frame that says as much -/
def FrLe (fr fr1 : Fr) : Prop := ∀ t w E v, DRep w E (fr.get t) v → DRep w E (fr1.get t) v
/-- what the guard of an operation says in a frame -/
def Guard (ops : Array Oper) (o : Oper) (fr : Fr) (run : Bool) : Prop := match o.guard with
  | none => run = true
  | some (j, b) => ∃ t, (ops[j]?).bind (·.dst) = some t ∧ ((∃ c, fr.get t = .bool (.lit c) ∧ run = decide (c = b)) ∨ (fr.get t = .tup [] ∧ run = false))
structure TStep where
  fr : Fr
  H : List Bk
  d : D
  nw : List Bk
  run : Bool
/-- what the operations do in the order of the text -/
inductive Trace (P : Program) (cx : Cx) (ops : Array Oper) : List Oper → Fr → List Bk → List TStep → Fr → List Bk → Prop
  | nil {fr H} : Trace P cx ops [] fr H [] fr H
  | cons {o os fr H fr1 t d nw run tr fr' H'} (hfr : FrLe fr fr1) (hg : Guard ops o fr1 run) (ht : o.dst = some t) (hlt : t < cx.nt) (hop : if run then OpX P H (res o fr1.ev) o d nw else d = .tup [] ∧ nw = [])
      (rest : Trace P cx ops os (fr1.set t d) (H ++ nw) tr fr' H') : Trace P cx ops (o :: os) fr H (⟨fr1, H, d, nw, run⟩ :: tr) fr' H'
section
variable {P : Program} {cx : Cx}
theorem lit_le {fr : Fr} {t : Nat} {e : BE} (ht : fr.get t = .bool e) {b : Bool} (hb : e.den = b) : FrLe fr (fr.set t (.bool (.lit b))) := fun k w E v hv => by
  rw [Fr.get_set]
  by_cases q : t = k
  · subst q
    rw [if_pos rfl]
    rw [ht] at hv
    cases hv
    rw [hb]
    exact .bool (e := .lit b)
  · rw [if_neg q]; exact hv
theorem part1_le {fr : Fr} {t : Nat} {F : Fr → Prop} (hp : part1 fr t F) : ∃ fr', F fr' ∧ FrLe fr fr' ∧ ∀ k, (∀ e, fr.get k ≠ .bool e) → fr'.get k = fr.get k := by
  unfold part1 at hp
  split at hp
  · exact ⟨fr, hp, fun _ _ _ _ h => h, fun _ _ => rfl⟩
  · next e _ he =>
    obtain ⟨h1, h2⟩ := hp
    have other : ∀ b k, (∀ e, fr.get k ≠ .bool e) → (fr.set t (.bool (.lit b))).get k = fr.get k := fun b k hk => by
      rw [Fr.get_set, if_neg]
      intro q
      subst q
      exact hk e he
    cases hb : e.den with
    | true => exact ⟨_, h1 hb, lit_le he hb, other _⟩
    | false => exact ⟨_, h2 hb, lit_le he hb, other _⟩
  · exact ⟨fr, hp, fun _ _ _ _ h => h, fun _ _ => rfl⟩
/-- behind the parting of a pick the literals stand as they stood -/
theorem part2_le {fr : Fr} {o : Oper} {F : Fr → Prop} (hp : part2 fr o F) : ∃ fr', F fr' ∧ FrLe fr fr' ∧ ∀ k, (∀ c, fr.get k = .bool (.lit c) → fr'.get k = .bool (.lit c)) := by
  unfold part2 at hp
  split at hp
  · next t ht =>
    unfold part1 at hp
    split at hp
    · exact ⟨fr, hp, fun _ _ _ _ h => h, fun _ _ h => h⟩
    · next e hne he =>
      obtain ⟨h1, h2⟩ := hp
      have other : ∀ b k c, fr.get k = .bool (.lit c) → (fr.set t (.bool (.lit b))).get k = .bool (.lit c) := fun b k c hk => by
        rw [Fr.get_set, if_neg, hk]
        intro q
        subst q
        rw [he] at hk
        cases hk
        exact hne c rfl
      cases hb : e.den with
      | true => exact ⟨_, h1 hb, lit_le he hb, other _⟩
      | false => exact ⟨_, h2 hb, lit_le he hb, other _⟩
    · exact ⟨fr, hp, fun _ _ _ _ h => h, fun _ _ h => h⟩
  · exact ⟨fr, hp, fun _ _ _ _ h => h, fun _ _ h => h⟩
theorem vopq_trace (hT : cx.T.ok P) {o : Oper} {fr : Fr} {H : List Bk} {K : Fr → List Bk → Prop} {own : Bool} (hk : vopq P cx own o fr H K) : ∃ t d nw, o.dst = some t ∧ t < cx.nt ∧ OpX P H (res o fr.ev) o d nw ∧ K (fr.set t d) (H ++ nw) := by
  unfold vopq at hk
  split at hk
  · next t ht =>
    split at hk
    · next hlt =>
      split at hk
      · next f args ats ho =>
        split at hk
        · next n first cap hf =>
          have e1 : res o fr.ev f = .fn (.func n) first cap := by rw [res_in (by rw [ho]; simp [Op.operands, Call.operands]), hf]
          have e2 : args.toList.map (res o fr.ev) = args.toList.map fr.ev := List.map_congr_left fun x hx => res_in (by rw [ho]; simp only [Op.operands, Call.operands]; simp; exact .inr (by simpa using hx))
          cases hk with
          | mk d hp hd hk => exact ⟨t, d, [], ht, hlt, PureP.effX ho e1 (by rw [e2]; exact hp) (by rw [e2]; exact hd), hk⟩
          | new hp hd hsc hv hk => exact ⟨t, _, _, ht, hlt, PureP.effN ho e1 (by rw [e2]; exact hp) (by rw [e2]; exact hd) hv, hk⟩
          | newD hp hd hv hk => exact ⟨t, _, _, ht, hlt, PureP.effN ho e1 (by rw [e2]; exact hp) (by rw [e2]; exact hd) hv, hk⟩
          | lendF args' d hp hs hd hk => exact ⟨t, d, [], ht, hlt, PureP.effF ho e1 hp (by rw [e2]; exact hs) hd, hk⟩
          | lend args' d hp hs hd hsc hk => exact ⟨t, d, [], ht, hlt, PureP.effL ho e1 hp (by rw [e2]; exact hs) hd hsc, hk⟩
        · cases hk
      · obtain ⟨d, nw, h1, h2⟩ := QR.effX (ρ := res o fr.ev) (P := P) _ (by rw [← qopB_res]; exact qopB_good hT own) hk
        exact ⟨t, d, nw, ht, hlt, h1, h2⟩
    · cases hk
  · cases hk
theorem vopsq_trace (hT : cx.T.ok P) {ops : Array Oper} : ∀ (os : List Oper) {fr : Fr} {H : List Bk} {K : Fr → List Bk → Prop}, vopsq P cx ops os fr H K → ∃ tr fr' H', Trace P cx ops os fr H tr fr' H' ∧ K fr' H'
  | [], fr, H, K, hk => ⟨[], fr, H, .nil, hk⟩
  | o :: os, fr, H, K, hk => by
    unfold vopsq at hk
    split at hk
    · next hg =>
      obtain ⟨fr1, h1, h2, _⟩ := part2_le hk
      obtain ⟨t, d, nw, h3, h4, h5, h6⟩ := vopq_trace hT h1
      obtain ⟨tr, fr', H', h7, h8⟩ := vopsq_trace hT os h6
      exact ⟨_, fr', H', .cons (run := true) h2 (by unfold Guard; rw [hg]) h3 h4 (by rw [if_pos rfl]; exact h5) h7, h8⟩
    · next j b hg =>
      split at hk
      · next t t' hj ht' =>
        split at hk
        · next hc =>
          simp only [Bool.and_eq_true, decide_eq_true_eq] at hc
          obtain ⟨fr1, h1, h2, _⟩ := part1_le hk
          have skip : vopsq P cx ops os (fr1.set t' (.tup [])) H K → Guard ops o fr1 false → ∃ tr fr' H', Trace P cx ops (o :: os) fr H tr fr' H' ∧ K fr' H' := fun q g => by
            obtain ⟨tr, fr', H', h7, h8⟩ := vopsq_trace hT os q
            exact ⟨_, fr', H', .cons (run := false) (d := .tup []) (nw := []) h2 g ht' hc.2 (by simp) (by rw [List.append_nil]; exact h7), h8⟩
          split at h1
          · next c hlit =>
            split at h1
            · next e =>
              obtain ⟨fr2, k1, k2, k3⟩ := part2_le h1
              obtain ⟨t2, d, nw, h3, h4, h5, h6⟩ := vopq_trace hT k1
              obtain ⟨tr, fr', H', h7, h8⟩ := vopsq_trace hT os h6
              exact ⟨_, fr', H', .cons (run := true) (fun t w E v hv => k2 t w E v (h2 t w E v hv)) (by unfold Guard; rw [hg]; exact ⟨t, hj, .inl ⟨c, k3 t c hlit, by simp [e]⟩⟩) h3 h4 (by rw [if_pos rfl]; exact h5) h7, h8⟩
            · next e => exact skip h1 (by unfold Guard; rw [hg]; exact ⟨t, hj, .inl ⟨c, hlit, by simp [e]⟩⟩)
          · next htup => exact skip h1 (by unfold Guard; rw [hg]; exact ⟨t, hj, .inr ⟨htup, rfl⟩⟩)
          · cases h1
        · cases hk
      · cases hk
end
end Go.Proofs.YtdhfakajlnidiaaGreat
namespace Go.Proofs.YtdhfakajlnidiaaGreat
open Go.RowKit

/-! All the orders of the front of a region. -/
section
variable {P : Program} {ops : Array Oper} {md : Region.Mode} {n : Nat}
theorem wpAny_joint (T : TailW md ops n) {Q : Exit → Act → World → Prop} (J : List Nat → Act → World → Prop)
    (step : ∀ (U : List Nat) (i : Nat) (o : Oper), U.Nodup → i ∈ U → i < n → ops[i]? = some o → (∀ e ∈ o.after, Region.binds md e = true → e.on ∉ U) → ∀ (a : Act) (w : World), J U a w → wpOp P ops Q i (J (U.erase i)) a w) {g : Nat}
    (hend : ∀ (listed : Array Bool) (a : Act) (w : World), listed.size = ops.size → (∀ t, listed.getD t true = false ↔ n ≤ t ∧ t < ops.size) → J [] a w → wpAny P md ops Q g listed a w) :
    ∀ (f : Nat) (U : List Nat) (listed : Array Bool) (a : Act) (w : World), U.length = f → U.Nodup → listed.size = ops.size → (∀ t, listed.getD t true = false ↔ t ∈ U ∨ (n ≤ t ∧ t < ops.size)) → (∀ t ∈ U, t < n) → (∀ (j : Nat) (o' : Oper), j < n → j ∉ U → ops[j]? = some o' → ∀ e ∈ o'.after, Region.binds md e = true → e.on ∉ U) → J U a w → wpAny P md ops Q (f + g) listed a w
  | 0, U, listed, a, w, hU, _, hs, hu, _, _, hJ => by
    rw [Nat.zero_add]
    have : U = [] := List.length_eq_zero_iff.1 hU
    subst this
    exact hend listed a w hs (fun t => by simpa using hu t) hJ
  | f + 1, U, listed, a, w, hU, hnd, hs, hu, hUn, hcl, hJ => by
    rw [show f + 1 + g = (f + g) + 1 by omega]
    have hnn := T.le
    have hex : ∀ (j : Nat), j ∈ U → ∃ r ∈ U, r ∈ Region.ready md ops listed := by
      intro j
      induction j using Nat.strongRecOn with
      | _ j ih =>
        intro hj
        have hjn := hUn j hj
        obtain ⟨o, ho⟩ : ∃ o, ops[j]? = some o := ⟨_, Array.getElem?_eq_getElem (by omega)⟩
        by_cases hall : ∀ e ∈ o.after, Region.binds md e = true → listed.getD e.on false = true
        · exact ⟨j, hj, mem_ready.2 ⟨(hu j).2 (.inl hj), o, ho, hall⟩⟩
        · simp only [Classical.not_forall] at hall
          obtain ⟨e, he, hb, hne⟩ := hall
          have hlt := T.back j o ho e he hb
          have : listed.getD e.on true = false := by
            have hsz : e.on < listed.size := by omega
            simp [hsz] at hne ⊢; exact hne
          rcases (hu e.on).1 this with q | q
          · exact ih e.on hlt q
          · omega
    obtain ⟨j0, hj0⟩ : ∃ j0, j0 ∈ U := by
      cases U with
      | nil => simp at hU
      | cons x xs => exact ⟨x, by simp⟩
    obtain ⟨r, hrU, hr⟩ := hex j0 hj0
    refine ⟨fun h0 => (by rw [h0] at hr; cases hr), fun i hi => ?_⟩
    obtain ⟨hun, o, hoi, hall⟩ := mem_ready.1 hi
    have hin : i < n := by
      rcases Nat.lt_or_ge i n with q | q
      · exact q
      · refine absurd hrU (T.through hoi q hcl hUn (fun e he hb => ?_) r)
        have h3 := hall e he hb
        refine ⟨fun q2 => ?_, ?_⟩
        · rw [getD_flip' ((hu e.on).2 (.inl q2))] at h3
          cases h3
        · have h4 := T.back i o hoi e he hb
          rcases Nat.lt_or_ge e.on n with q2 | q2
          · exact q2
          · have h5 := (Array.getElem?_eq_some_iff.1 hoi).1
            rw [getD_flip' ((hu e.on).2 (.inr ⟨q2, by omega⟩))] at h3
            cases h3
    have hiU : i ∈ U := by
      rcases (hu i).1 hun with q | q
      · exact q
      · omega
    refine wpOp_mono (fun a' w' hJ' => ?_) (step U i o hnd hiU hin hoi (fun e he hb q => by
      have h1 := hall e he hb
      rw [getD_flip' ((hu e.on).2 (.inl q))] at h1
      cases h1) a w hJ)
    refine wpAny_joint T J step hend f (U.erase i) _ a' w' ?_ (hnd.erase i) (by simpa using hs) (fun t => ?_) (fun t ht => hUn t (List.mem_of_mem_erase ht)) (fun j o' hj hjU ho' e he hb => ?_) hJ'
    · rw [List.length_erase_of_mem hiU]; omega
    · by_cases e : i = t
      · subst e
        have hsz : i < listed.size := by omega
        have : i ∉ U.erase i := fun q => by rw [hnd.mem_erase_iff] at q; exact q.1 rfl
        simp [hsz, this]; omega
      · rw [getD_set_ne true e, hu t, hnd.mem_erase_iff]
        constructor
        · rintro (q | q)
          · exact .inl ⟨fun q2 => e q2.symm, q⟩
          · exact .inr q
        · rintro (q | q)
          · exact .inl q.2
          · exact .inr q
    · intro q0
      have q := List.mem_of_mem_erase q0
      by_cases ej : j = i
      · subst ej
        rw [hoi] at ho'
        cases ho'
        have h3 := hall e he hb
        rw [getD_flip' ((hu e.on).2 (.inl q))] at h3
        cases h3
      · exact hcl j o' hj (fun q2 => hjU ((hnd.mem_erase_iff).2 ⟨ej, q2⟩)) ho' e he hb q
end
/-- the front is such that each operation waits for those whose slots it reads -/
def isT (t : Nat) : Operand → Bool
  | .tmp t' => t' == t
  | _ => false
def readsB (ds : List Nat) (o : Oper) : Bool := (List.range ds.length).all fun j => !(o.op.operands.any (isT (ds.getD j 0))) || waitsOn .any o j
def guardsB (o : Oper) : Bool := match o.guard with | none => true | some (j, _) => waitsOn .any o j
def drawnB (ops : Array Oper) (ds : List Nat) : Bool := decide ds.Nodup && (List.range ds.length).all fun i => match ops[i]? with | some o => (o.dst == some (ds.getD i 0)) && readsB ds o && guardsB o | none => false
theorem Trace.get {P : Program} {cx : Cx} {ops : Array Oper} {os : List Oper} {fr fr' : Fr} {H H' : List Bk} {tr : List TStep} (h : Trace P cx ops os fr H tr fr' H') :
    tr.length = os.length ∧ (∃ nws, H' = H ++ nws) ∧
    (∀ (i : Nat) s, tr[i]? = some s → ∃ o t, os[i]? = some o ∧ o.dst = some t ∧ t < cx.nt ∧ Guard ops o s.fr s.run ∧ (if s.run then OpX P s.H (res o s.fr.ev) o s.d s.nw else s.d = .tup [] ∧ s.nw = []) ∧ (∃ p, s.H = H ++ p) ∧ (∃ p, H' = s.H ++ s.nw ++ p) ∧
      (∀ (j : Nat) s', j < i → tr[j]? = some s' → ∃ p, s.H = s'.H ++ s'.nw ++ p) ∧
      ∀ t w E v, (∀ (j : Nat) s' o', j < i → tr[j]? = some s' → os[j]? = some o' → o'.dst = some t → DRep w E s'.d v ∨ ∃ (k : Nat) (o2 : Oper), j < k ∧ k < i ∧ os[k]? = some o2 ∧ o2.dst = some t) → (DRep w E (fr.get t) v ∨ ∃ (k : Nat) (o2 : Oper), k < i ∧ os[k]? = some o2 ∧ o2.dst = some t) → DRep w E (s.fr.get t) v) ∧
    ∀ t w E v, (∀ (j : Nat) s' o', tr[j]? = some s' → os[j]? = some o' → o'.dst = some t → DRep w E s'.d v ∨ ∃ (k : Nat) (o2 : Oper), j < k ∧ os[k]? = some o2 ∧ o2.dst = some t) → (DRep w E (fr.get t) v ∨ ∃ (k : Nat) (o2 : Oper), os[k]? = some o2 ∧ o2.dst = some t) → DRep w E (fr'.get t) v := by
  induction h with
  | nil => exact ⟨rfl, ⟨[], by simp⟩, fun i s h => by simp at h, fun t w E v _ h => by
      rcases h with h | ⟨k, o2, h, _⟩
      · exact h
      · simp at h⟩
  | @cons o os fr H fr1 t d nw run tr fr' H' hfr hg ht hlt hop rest ih =>
    obtain ⟨h1, ⟨nws, h2⟩, h3, h4⟩ := ih
    refine ⟨by simp [h1], ⟨nw ++ nws, by rw [h2]; simp⟩, fun i s hs => ?_, fun t' w E v ha hb => ?_⟩
    · cases i with
      | zero =>
        simp only [List.getElem?_cons_zero, Option.some.injEq] at hs
        subst hs
        refine ⟨o, t, rfl, ht, hlt, hg, hop, ⟨[], by simp⟩, ⟨nws, h2⟩, fun j s' hj => by omega, fun t' w E v _ hb => ?_⟩
        rcases hb with hb | ⟨k, o2, hk, _⟩
        · exact hfr t' w E v hb
        · omega
      | succ i =>
        simp only [List.getElem?_cons_succ] at hs
        obtain ⟨o1, t1, g1, g2, g3, g4, g5, ⟨p, g6⟩, g7, g8, g9⟩ := h3 i s hs
        refine ⟨o1, t1, by simpa using g1, g2, g3, g4, g5, ⟨nw ++ p, by rw [g6]; simp⟩, g7, fun j s' hj hs' => ?_, fun t' w E v ha hb => ?_⟩
        · cases j with
          | zero =>
            simp only [List.getElem?_cons_zero, Option.some.injEq] at hs'
            subst hs'
            exact ⟨p, g6⟩
          | succ j => exact g8 j s' (by omega) (by simpa using hs')
        · refine g9 t' w E v (fun j s' o' hj hs' ho' hd' => ?_) ?_
          · rcases ha (j + 1) s' o' (by omega) (by simpa using hs') (by simpa using ho') hd' with q | ⟨k, o2, q1, q2, q3, q4⟩
            · exact .inl q
            · cases k with
              | zero => omega
              | succ k => exact .inr ⟨k, o2, by omega, by omega, by simpa using q3, q4⟩
          · rw [Fr.get_set]
            by_cases e : t = t'
            · subst e
              rw [if_pos rfl]
              rcases ha 0 _ o (by omega) rfl rfl ht with q | ⟨k, o2, q1, q2, q3, q4⟩
              · exact .inl q
              · cases k with
                | zero => omega
                | succ k => exact .inr ⟨k, o2, by omega, by simpa using q3, q4⟩
            · rw [if_neg e]
              rcases hb with hb | ⟨k, o2, q1, q2, q3⟩
              · exact .inl (hfr t' w E v hb)
              · cases k with
                | zero =>
                  simp only [List.getElem?_cons_zero, Option.some.injEq] at q2
                  subst q2
                  rw [ht] at q3
                  exact absurd (Option.some.inj q3) e
                | succ k => exact .inr ⟨k, o2, by omega, by simpa using q2, q3⟩
    · refine h4 t' w E v (fun j s' o' hs' ho' hd' => ?_) ?_
      · rcases ha (j + 1) s' o' (by simpa using hs') (by simpa using ho') hd' with q | ⟨k, o2, q1, q3, q4⟩
        · exact .inl q
        · cases k with
          | zero => omega
          | succ k => exact .inr ⟨k, o2, by omega, by simpa using q3, q4⟩
      · rw [Fr.get_set]
        by_cases e : t = t'
        · subst e
          rw [if_pos rfl]
          rcases ha 0 _ o rfl rfl ht with q | ⟨k, o2, q1, q3, q4⟩
          · exact .inl q
          · cases k with
            | zero => omega
            | succ k => exact .inr ⟨k, o2, by simpa using q3, q4⟩
        · rw [if_neg e]
          rcases hb with hb | ⟨k, o2, q2, q3⟩
          · exact .inl (hfr t' w E v hb)
          · cases k with
            | zero =>
              simp only [List.getElem?_cons_zero, Option.some.injEq] at q2
              subst q2
              rw [ht] at q3
              exact absurd (Option.some.inj q3) e
            | succ k => exact .inr ⟨k, o2, by simpa using q2, q3⟩
end Go.Proofs.YtdhfakajlnidiaaGreat
namespace Go.Proofs.YtdhfakajlnidiaaGreat
open Go.RowKit

def hasT : List Nat → Nat → Bool
  | [], _ => false
  | a :: l, n => if a = n then true else hasT l n
def tmpsOf : List Operand → List Nat
  | [] => []
  | .tmp t :: r => t :: tmpsOf r
  | _ :: r => tmpsOf r
/-- the front of a region ends at the first operation that writes a slot which was read or that has an effect -/
def frontGo : List Nat → List Oper → Nat
  | _, [] => 0
  | rs, o :: os => match o.dst, o.op with
    | none, _ => 0
    | _, .store .. => 0
    | _, .call ⟨.builtin .append, _, _⟩ => 0
    | _, .call ⟨.builtin .copy, _, _⟩ => 0
    | some t, _ => if hasT rs t then 0 else frontGo (tmpsOf o.op.operands.toList ++ rs) os + 1
def frontLen (os : List Oper) : Nat := frontGo [] os
def dstsOf : List Oper → List Nat
  | [] => []
  | o :: os => (o.dst.getD 0) :: dstsOf os
/-- a call behind which the operations stand in one order is not of the front -/
def callCut (ops : Array Oper) (k : Nat) : List Oper → Option Nat
  | [] => none
  | o :: os => match o.op with
    | .call ⟨.value _, _, _⟩ => if tailWB .any ops k then some k else callCut ops (k + 1) os
    | _ => callCut ops (k + 1) os
def frontLenA (ops : Array Oper) : Nat := match callCut ops 0 (ops.toList.take (frontLen ops.toList)) with
  | some k => k
  | none => frontLen ops.toList
def drawOK (ops : Array Oper) : Bool := tailWB .any ops (frontLenA ops) && drawnB ops (dstsOf (ops.toList.take (frontLenA ops)))
/-- a great region: its order is looked at apart -/
structure DrawP (ops : Array Oper) (K : Unit → Prop) : Prop where
  ok : drawOK ops = true
  k : K ()
/-- a region whose operations stand in no order that is known here: it is walked by FootP.intro -/
structure FootP (P : Program) (cx : Cx) (ops : Array Oper) (fr : Fr) (H : List Bk) (K : Fr → List Bk → Prop) : Prop where
  run : ∀ (B : Base) (E : Env) (a : Act) (w : World), cx.nt = B.nt → B.h0 ≤ cx.h0 → Rel B ⟨fr, H⟩ E a w → ∀ Q : Exit → Act → World → Prop, (∀ fr' H' E' a' w', K fr' H' → Rel B ⟨fr', H'⟩ E' a' w' → Q .normal a' w') → ∀ id, (Code.region id ops true).wp P Q a w
def argOf (t : Nat) : List Oper → Bool
  | [] => false
  | o :: os => match o.op with
    | .call ⟨.value _, ⟨l⟩, _⟩ => if hasT (tmpsOf l) t then true else argOf t os
    | _ => argOf t os
/-- a slice is made and handed to a call -/
def giveB (ops : List Oper) : List Oper → Bool
  | [] => false
  | o :: os => match o.op, o.dst with
    | .makeSlice .., some t => if argOf t ops then true else giveB ops os
    | _, _ => giveB ops os
/-- a region that draws its order -/
def vdraw (P : Program) (cx : Cx) (ops : Array Oper) (fr : Fr) (H : List Bk) (K : Fr → List Bk → Prop) : Prop :=
  match decide (ops.size ≤ 24) with
  | true => if drawOK ops && !giveB ops.toList ops.toList then
      vopsq P cx ops (ops.toList.take (frontLenA ops)) fr H fun fr H => vops P cx ops (ops.toList.drop (frontLenA ops)) fr H K
    else FootP P cx ops fr H K
  | false => DrawP ops fun _ => vopsq P cx ops (ops.toList.take (frontLenA ops)) fr H fun fr H => vops P cx ops (ops.toList.drop (frontLenA ops)) fr H K
theorem vdraw_get {P : Program} {cx : Cx} {ops : Array Oper} {fr : Fr} {H : List Bk} {K : Fr → List Bk → Prop} (h : vdraw P cx ops fr H K) : (drawOK ops = true ∧ vopsq P cx ops (ops.toList.take (frontLenA ops)) fr H fun fr H => vops P cx ops (ops.toList.drop (frontLenA ops)) fr H K) ∨ FootP P cx ops fr H K := by
  unfold vdraw at h
  split at h
  · split at h
    · next hc => simp only [Bool.and_eq_true] at hc; exact .inl ⟨hc.1, h⟩
    · exact .inr h
  · exact .inl ⟨h.ok, h.k⟩
theorem WRel.drew {B : Base} {H : List Bk} {E : Env} {w : World} (h : WRel B H E w) : WRel B H E w.drew ∧ E.le w w.drew E := by
  have hle : E.le w w.drew E := ⟨fun _ h => h, fun _ _ => rfl⟩
  refine ⟨⟨h.inj, h.own, h.wf, fun x b hx => ?_, h.out, h.good, h.g0, h.gn, h.bel.drew, B.stab _ _ _ _ hle (Env.own.refl _) h.phi⟩, hle⟩
  rcases h.heap x b hx with q | ⟨q1, q2, q3⟩
  · exact .inl q
  · exact .inr ⟨q1, fun c hc => (q2 c hc).move hle (Env.own.refl _) rfl rfl, q3⟩
theorem dstsOf_len : ∀ l : List Oper, (dstsOf l).length = l.length
  | [] => rfl
  | _ :: l => by simp [dstsOf, dstsOf_len l]
theorem frontGo_le : ∀ (rs : List Nat) (l : List Oper), frontGo rs l ≤ l.length
  | _, [] => Nat.le_refl _
  | rs, o :: l => by
    unfold frontGo
    split
    case h_5 t _ _ _ _ =>
      have := frontGo_le (tmpsOf o.op.operands.toList ++ rs) l
      split <;> simp <;> omega
    all_goals simp
theorem frontLen_le (l : List Oper) : frontLen l ≤ l.length := frontGo_le [] l
theorem callCut_le {ops : Array Oper} : ∀ {l : List Oper} {k n : Nat}, callCut ops k l = some n → n < k + l.length
  | [], k, n, h => by simp [callCut] at h
  | o :: l, k, n, h => by
    unfold callCut at h
    split at h
    · split at h
      · cases h; simp
      · have := callCut_le h; simp; omega
    · have := callCut_le h; simp; omega
theorem frontLenA_le (ops : Array Oper) : frontLenA ops ≤ ops.toList.length := by
  unfold frontLenA
  have h0 := frontLen_le ops.toList
  split
  · next k h =>
    have := callCut_le h
    rw [List.length_take] at this
    omega
  · exact h0
section
variable {P : Program} {cx : Cx} {B : Base}
theorem vdraw_sound (hT : cx.T.ok P) (hm : P.follows .mixedOrders = true) (hnt : cx.nt = B.nt) (hh0 : B.h0 ≤ cx.h0) {id : Nat} {ops : Array Oper} {fr : Fr} {H : List Bk} {K : Fr → List Bk → Prop} (hk : vdraw P cx ops fr H K) {E : Env} {a : Act} {w : World} (h : Rel B ⟨fr, H⟩ E a w) {Q : Exit → Act → World → Prop}
    (hQ : ∀ fr' H' E' a' w', K fr' H' → Rel B ⟨fr', H'⟩ E' a' w' → Q .normal a' w') : (Code.region id ops true).wp P Q a w := by
  rcases vdraw_get hk with ⟨hc, hk⟩ | hk
  case inr => exact hk.run B E a w hnt hh0 h Q hQ id
  unfold drawOK at hc
  generalize hn : frontLenA ops = n at *
  have hnle : n ≤ ops.size := by have := frontLenA_le ops; rw [hn] at this; simpa using this
  simp only [Bool.and_eq_true] at hc
  have T := tailWB_spec hc.1
  obtain ⟨tr, fr', H', ht, hK⟩ := vopsq_trace hT _ hk
  obtain ⟨hlen, ⟨nws, hnws⟩, hstep, hfin⟩ := ht.get
  generalize hds : dstsOf (ops.toList.take n) = ds at *
  have hdl : ds.length = n := by rw [← hds, dstsOf_len]; simp; omega
  have htl : tr.length = n := by rw [hlen]; simp; omega
  have hdr := hc.2
  unfold drawnB at hdr
  simp only [Bool.and_eq_true, decide_eq_true_eq] at hdr
  obtain ⟨hnd, hall⟩ := hdr
  have hop : ∀ i, i < n → ∃ o, ops[i]? = some o ∧ (ops.toList.take n)[i]? = some o ∧ o.dst = ds[i]? ∧ readsB ds o = true ∧ guardsB o = true := fun i hi => by
    have := List.all_eq_true.1 hall i (List.mem_range.2 (by omega))
    have ho : ops[i]? = some (ops[i]'(by omega)) := Array.getElem?_eq_getElem (by omega)
    rw [ho] at this
    simp only [Bool.and_eq_true, beq_iff_eq] at this
    refine ⟨_, ho, by rw [List.getElem?_take, if_pos hi, Array.getElem?_toList, ho], ?_, this.1.2, this.2⟩
    rw [this.1.1, List.getD_eq_getElem?_getD, List.getElem?_eq_getElem (by omega)]
    rfl
  have hdst : ∀ i o, (ops.toList.take n)[i]? = some o → i < n ∧ o.dst = ds[i]? := fun i o ho => by
    have hi : i < n := by have := (List.getElem?_eq_some_iff.1 ho).1; simp at this; omega
    obtain ⟨o', _, h2, h3, _⟩ := hop i hi
    rw [ho] at h2
    cases h2
    exact ⟨hi, h3⟩
  have uniq : ∀ {i j : Nat} {t : Nat}, ds[i]? = some t → ds[j]? = some t → i = j := fun {i j t} h1 h2 => by
    obtain ⟨a1, a2⟩ := List.getElem?_eq_some_iff.1 h1
    obtain ⟨b1, b2⟩ := List.getElem?_eq_some_iff.1 h2
    exact (List.getElem_inj hnd).1 (a2.trans b2.symm)
  let J : List Nat → Act → World → Prop := fun U a' w' => ∃ E', WRel B H' E' w' ∧ a'.tmps.size = B.nt ∧ a'.defers = B.df ∧ (∀ t, t ∉ ds → DRep w' E' (fr.get t) (a'.tmps.getD t undef)) ∧
    (∀ (j : Nat) s t, j < n → j ∉ U → tr[j]? = some s → ds[j]? = some t → DRep w' E' s.d (a'.tmps.getD t undef)) ∧ (∀ (j : Nat) s, j ∈ U → tr[j]? = some s → Fresh E' s.H.length (s.H.length + s.nw.length))
  have slotD : ∀ {U : List Nat} {a' : Act} {w' : World} {E' : Env}, (∀ t, t ∉ ds → DRep w' E' (fr.get t) (a'.tmps.getD t undef)) → (∀ (j : Nat) s t, j < n → j ∉ U → tr[j]? = some s → ds[j]? = some t → DRep w' E' s.d (a'.tmps.getD t undef)) →
      ∀ (i : Nat) s, tr[i]? = some s → ∀ t, (∀ j, ds[j]? = some t → j ∉ U ∧ j < i) → DRep w' E' (s.fr.get t) (a'.tmps.getD t undef) := by
    intro U a' w' E' q1 q2 i s hs t hj
    obtain ⟨o, t1, g1, g2, g3, g4, g5, g6, g7, g8, g9⟩ := hstep i s hs
    refine g9 t w' E' _ (fun j s' o' hji hs' ho' hd' => .inl ?_) ?_
    · obtain ⟨k1, k2⟩ := hdst j o' ho'
      exact q2 j s' t k1 (hj j (by rw [← k2, hd'])).1 hs' (by rw [← k2, hd'])
    · by_cases e : t ∈ ds
      · obtain ⟨j, hj'⟩ := List.getElem?_of_mem e
        have hjn : j < n := by have := (List.getElem?_eq_some_iff.1 hj').1; omega
        obtain ⟨o', _, k2, k3, _⟩ := hop j hjn
        exact .inr ⟨j, o', (hj j hj').2, k2, by rw [k3, hj']⟩
      · exact .inl (q1 t e)
  have jput : ∀ {U : List Nat} {i : Nat} {s : TStep} {t : Nat}, i ∈ U → U.Nodup → i < n → tr[i]? = some s → ds[i]? = some t → ∀ {a' : Act} {w' w2 : World} {E' E2 : Env} {v : Value}, a'.tmps.size = B.nt → a'.defers = B.df → t < B.nt → (∀ t, t ∉ ds → DRep w' E' (fr.get t) (a'.tmps.getD t undef)) →
      (∀ (j : Nat) s t, j < n → j ∉ U → tr[j]? = some s → ds[j]? = some t → DRep w' E' s.d (a'.tmps.getD t undef)) → (∀ (j : Nat) s, j ∈ U → tr[j]? = some s → Fresh E' s.H.length (s.H.length + s.nw.length)) →
      WRel B H' E2 w2 → E'.le w' w2 E2 → E'.own E2 → (∀ x, x < s.H.length ∨ s.H.length + s.nw.length ≤ x → E2.σ x = E'.σ x ∧ E2.κ x = E'.κ x) → DRep w2 E2 s.d v → J (U.erase i) (a'.put (some t) v) w2 := by
    intro U i s t hiU hUnd hin hs hti a' w' w2 E' E2 v q1 q2 q3 q4 q5 q6 k1 k2 k3 k4 k5
    refine ⟨E2, k1, put_size.trans q1, put_defers'.trans q2, fun t' ht' => ?_, fun j s' t' hj hjU hs' htj => ?_, fun j s' hjU hs' => ?_⟩
    · have hne : t ≠ t' := fun e => ht' (by rw [← e]; exact List.mem_of_getElem? hti)
      rw [show (a'.put (some t) v).tmps.getD t' undef = a'.tmps.getD t' undef from eval_put_ne hne]
      exact (q4 t' ht').move k2 k3
    · by_cases e : j = i
      · subst e
        rw [hs] at hs'
        cases hs'
        rw [hti] at htj
        cases htj
        rw [show (a'.put (some t) v).tmps.getD t undef = v from eval_put_same (by omega)]
        exact k5
      · have hne : t ≠ t' := fun q => e (uniq htj (by rw [hti, q]))
        rw [show (a'.put (some t) v).tmps.getD t' undef = a'.tmps.getD t' undef from eval_put_ne hne]
        exact (q5 j s' t' hj (fun q => hjU ((hUnd.mem_erase_iff).2 ⟨e, q⟩)) hs' htj).move k2 k3
    · have hne : j ≠ i ∧ j ∈ U := (hUnd.mem_erase_iff).1 hjU
      have hf := q6 j s' hne.2 hs'
      intro x hx1 hx2
      have : x < s.H.length ∨ s.H.length + s.nw.length ≤ x := by
        rcases Nat.lt_or_ge j i with q | q
        · obtain ⟨_, _, _, _, _, _, _, _, _, g8, _⟩ := hstep i s hs
          obtain ⟨p, hp⟩ := g8 j s' q hs'
          left
          rw [hp]
          simp
          omega
        · obtain ⟨_, _, _, _, _, _, _, _, _, g8, _⟩ := hstep j s' hs'
          obtain ⟨p, hp⟩ := g8 i s (by omega) hs
          right
          have := congrArg List.length hp
          simp at this
          omega
      obtain ⟨e1, e2⟩ := k4 x this
      obtain ⟨f1, f2⟩ := hf x hx1 hx2
      exact ⟨e1.trans f1, e2.trans f2⟩
  refine wp_region_any hm ?_
  have esz : ops.size = n + (ops.toList.drop n).length := by simp; omega
  rw [show wpAny P .any ops Q ops.size = wpAny P .any ops Q (n + (ops.toList.drop n).length) by rw [← esz]]
  refine wpAny_joint T J ?_ ?_ n (List.range n) _ a w.drew (by simp) List.nodup_range (by simp) (fun t => ?_) (fun t ht => by simpa using ht) (fun j o' hj hjn => absurd (List.mem_range.2 hj) hjn) ?_
  · intro U i o hUnd hiU hin ho hwait a' w' ⟨E', q1, q2, q3, q4, q5, q6⟩
    obtain ⟨s, hs⟩ : ∃ s, tr[i]? = some s := ⟨_, List.getElem?_eq_getElem (by omega)⟩
    obtain ⟨o1, t1, g1, g2, g3, g4, g5, g6, ⟨p7, g7⟩, g8, g9⟩ := hstep i s hs
    obtain ⟨o2, k1, k2, k3, k4, k5⟩ := hop i hin
    rw [ho] at k1
    cases k1
    rw [k2] at g1
    cases g1
    have hti : ds[i]? = some t1 := by rw [← k3, g2]
    have wait : ∀ {j : Nat}, waitsOn .any o j = true → j ∉ U ∧ j < i := fun hw => by
      obtain ⟨e, he, hb, rfl⟩ := waitsOn_spec hw
      exact ⟨hwait e he hb, T.back i o ho e he hb⟩
    have hwanted : Region.wanted o (yielded ops a'.tmps) = s.run := by
      unfold Guard at g4
      unfold Region.wanted
      split at g4
      · next hg => rw [hg, g4]
      · next j b hg =>
        rw [hg]
        obtain ⟨tj, hj1, hj2⟩ := g4
        have hwj : waitsOn .any o j = true := by unfold guardsB at k5; rw [hg] at k5; exact k5
        obtain ⟨hjU, hji⟩ := wait hwj
        obtain ⟨oj, m1, m2, m3, _⟩ := hop j (by omega)
        have htj : ds[j]? = some tj := by rw [← m3]; rw [m1] at hj1; simpa using hj1
        have hrep := slotD q4 q5 i s hs tj fun j' hj' => by rw [uniq hj' htj]; exact ⟨hjU, hji⟩
        obtain ⟨sj, hsj⟩ : ∃ s, tr[j]? = some s := ⟨_, List.getElem?_eq_getElem (by omega)⟩
        obtain ⟨_, tj', n1, n2, n3, _⟩ := hstep j sj hsj
        rw [m2] at n1
        cases n1
        rw [m3, htj] at n2
        cases n2
        have hy := yielded_get (a := a') hj1 (by rw [q2, ← hnt]; exact n3)
        show (yielded ops a'.tmps j == some b) = s.run
        rw [hy]
        generalize a'.tmps.getD tj undef = v at hrep
        rcases hj2 with ⟨c, hc1, hc2⟩ | ⟨hc1, hc2⟩
        · rw [hc1] at hrep
          cases hrep
          simp only [BE.den]
          rw [hc2]
          by_cases e : c = b <;> simp [e]
        · rw [hc1] at hrep
          cases hrep
          rw [hc2]
          rfl
    unfold wpOp
    rw [ho]
    simp only
    rw [hwanted]
    cases hrun : s.run with
    | true =>
      rw [if_pos rfl]
      rw [hrun, if_pos rfl] at g5
      refine .inl (g5 B H' w' E' a' (fun x => ?_) q1 (fun x b hx => .inr (by rw [g7, List.getElem?_append_left (by have := (List.getElem?_eq_some_iff.1 hx).1; exact this)]; exact hx)) (q6 i s hiU hs) _ Q fun v w2 E2 m1 m2 m3 m4 m5 => ?_)
      · unfold res
        split
        · next hx =>
          cases x with
          | tmp t =>
            refine slotD q4 q5 i s hs t fun j hj => ?_
            have hjn : j < ds.length := (List.getElem?_eq_some_iff.1 hj).1
            have := List.all_eq_true.1 k4 j (List.mem_range.2 hjn)
            have hany : o.op.operands.any (isT (ds.getD j 0)) = true := by
              refine Array.any_eq_true'.2 ⟨.tmp t, hx, ?_⟩
              simp [isT, List.getD_eq_getElem?_getD, hj]
            rw [hany] at this
            exact wait (by simpa using this)
          | const v => exact D.ofV_rep v
          | global g => exact (q1.laid.get _).undata q1.wf
          | func f => exact .fn rfl rfl (fun i d v h => by simp at h) (fun i d v h => by simp at h)
        · exact .junk
      · rw [g2]
        exact jput hiU hUnd hin hs hti q2 q3 (by rw [← hnt]; exact g3) q4 q5 q6 m1 m2 m3 m4 m5
    | false =>
      rw [if_neg (by simp)]
      rw [hrun] at g5
      simp only [Bool.false_eq_true, if_false] at g5
      rw [g2]
      exact jput hiU hUnd hin hs hti q2 q3 (by rw [← hnt]; exact g3) q4 q5 q6 q1 (Env.le.refl _ _) (Env.own.refl _) (fun _ _ => ⟨rfl, rfl⟩) (by rw [g5.1]; exact DRep.tup rfl fun i d v h => by simp at h)
  · intro listed a' w' hs hu ⟨E', q1, q2, q3, q4, q5, q6⟩
    refine wpAny_tail T (ops.toList.drop n) n listed a' w' (Nat.le_refl _) (fun j => by simp [List.getElem?_drop]) hs hu ?_
    refine vops_sound hT hnt hh0 _ hK (E := E') ⟨q2, q3, fun t => ?_, q1⟩ hQ
    refine hfin t w' E' _ (fun j s' o' hs' ho' hd' => .inl ?_) ?_
    · obtain ⟨k1, k2⟩ := hdst j o' ho'
      exact q5 j s' t k1 (by simp) hs' (by rw [← k2, hd'])
    · by_cases e : t ∈ ds
      · obtain ⟨j, hj'⟩ := List.getElem?_of_mem e
        have hjn : j < n := by have := (List.getElem?_eq_some_iff.1 hj').1; omega
        obtain ⟨o', _, k2, k3, _⟩ := hop j hjn
        exact .inr ⟨j, o', k2, by rw [k3, hj']⟩
      · exact .inl (q4 t e)
  · simp only [List.mem_range]
    rcases Nat.lt_or_ge t ops.size with q | q
    · simp [q]; omega
    · simp [show ¬ t < ops.size by omega]; omega
  · obtain ⟨d1, d2⟩ := (h.wr.ext nws).drew
    refine ⟨E, by rw [hnws]; exact d1, h.sz, h.df, fun t _ => (h.fr t).move d2 (Env.own.refl _), fun j s t hj hjU => absurd (List.mem_range.2 hj) hjU, fun j s hjU hs => ?_⟩
    intro x hx1 _
    obtain ⟨_, _, _, _, _, _, _, ⟨p, g6⟩, _⟩ := hstep j s hs
    exact h.wr.out x (by rw [g6] at hx1; simp at hx1; show H.length ≤ x; omega)
end
/-! Code. -/
inductive StuckC (c : Code) : Prop
/-- a piece of code from a state, and what follows -/
structure CodeP (P : Program) (cx : Cx) (c : Code) (fr : Fr) (H : List Bk) (K : Exit → Fr → List Bk → Prop) : Prop where
  run : ∀ (B : Base) (E : Env) (a : Act) (w : World), cx.nt = B.nt ∧ B.h0 ≤ cx.h0 → Rel B ⟨fr, H⟩ E a w → c.wp P (fun e a' w' => ∃ fr' H' E', K e fr' H' ∧ Rel B ⟨fr', H'⟩ E' a' w') a w
def thenK (F : Fr → List Bk → Prop) (K : Exit → Fr → List Bk → Prop) (e : Exit) (fr : Fr) (H : List Bk) : Prop := match e with
  | .normal => F fr H
  | e => K e fr H
def blockK (id : Nat) (K : Exit → Fr → List Bk → Prop) (e : Exit) (fr : Fr) (H : List Bk) : Prop := match e with
  | .exit i => if i = id then K .normal fr H else K (.exit i) fr H
  | e => K e fr H
def vc (P : Program) (cx : Cx) : Code → Fr → List Bk → (Exit → Fr → List Bk → Prop) → Prop
  | .skip, fr, H, K => K .normal fr H
  | .region id ops draw, fr, H, K => if draw then vdraw P cx ops fr H (K .normal) else vops P cx ops ops.toList fr H (K .normal)
  | .seq a b, fr, H, K => vc P cx a fr H (thenK (fun fr H => vc P cx b fr H K) K)
  | .cond c a b, fr, H, K => (match fr.ev c with
    | .bool (.lit true) => vc P cx a fr H K
    | .bool (.lit false) => vc P cx b fr H K
    | .bool e => SplitP e (vc P cx a fr H K) (vc P cx b fr H K)
    | _ => StuckC (.cond c .skip .skip))
  | .block id c, fr, H, K => vc P cx c fr H (blockK id K)
  | .loop c, fr, H, K => CodeP P cx (.loop c) fr H K
  | .exit i, fr, H, K => K (.exit i) fr H
  | .ret, fr, H, K => K .ret fr H
  | .label _, fr, H, K => K .normal fr H
  | c, fr, H, K => CodeP P cx c fr H K
section
variable {P : Program} {cx : Cx}
theorem vc_sound (hT : cx.T.ok P) (hm : P.follows .mixedOrders = true) : ∀ (c : Code) {fr : Fr} {H : List Bk} {K : Exit → Fr → List Bk → Prop}, vc P cx c fr H K → CodeP P cx c fr H K
  | .skip, fr, H, K, hk => ⟨fun B E a w hnt h => wp_skip ⟨fr, H, E, hk, h⟩⟩
  | .region id ops draw, fr, H, K, hk => by
    unfold vc at hk
    split at hk
    · next hd => subst hd; exact ⟨fun B E a w hnt h => vdraw_sound hT hm hnt.1 hnt.2 hk h fun fr' H' E' a' w' q1 q2 => ⟨fr', H', E', q1, q2⟩⟩
    · next hd =>
      have : draw = false := by simpa using hd
      subst this
      exact ⟨fun B E a w hnt h => wp_region_list (vops_sound hT hnt.1 hnt.2 _ hk h fun fr' H' E' a' w' q1 q2 => ⟨fr', H', E', q1, q2⟩)⟩
  | .seq c d, fr, H, K, hk => by
    unfold vc at hk
    refine ⟨fun B E a w hnt h => wp_seq (Code.wp_mono (fun e a' w' ⟨fr', H', E', q1, q2⟩ => ?_) ((vc_sound hT hm c hk).run B E a w hnt h))⟩
    cases e <;> first | exact (vc_sound hT hm d q1).run B E' a' w' hnt q2 | exact ⟨fr', H', E', q1, q2⟩
  | .cond x c d, fr, H, K, hk => by
    refine ⟨fun B E a w hnt h => ?_⟩
    have hx := h.ev x
    unfold vc at hk
    split at hk
    · next he =>
      rw [he] at hx
      generalize hv : a.eval x = v at hx
      cases hx
      exact wp_cond_true hv ((vc_sound hT hm c hk).run B E a w hnt h)
    · next he =>
      rw [he] at hx
      generalize hv : a.eval x = v at hx
      cases hx
      exact wp_cond_false hv ((vc_sound hT hm d hk).run B E a w hnt h)
    · next e _ _ he =>
      rw [he] at hx
      generalize hv : a.eval x = v at hx
      cases hx
      obtain ⟨h1, h2⟩ := hk
      exact wp_cond_split hv (fun q => (vc_sound hT hm c (h1 q)).run B E a w hnt h) (fun q => (vc_sound hT hm d (h2 q)).run B E a w hnt h)
    · cases hk
  | .block id c, fr, H, K, hk => by
    unfold vc at hk
    refine ⟨fun B E a w hnt h => wp_block (Code.wp_mono (fun e a' w' ⟨fr', H', E', q1, q2⟩ => ?_) ((vc_sound hT hm c hk).run B E a w hnt h))⟩
    cases e with
    | exit i =>
      simp only [blockK] at q1
      simp only [Exit.inBlock]
      split at q1
      · next e => rw [if_pos e]; exact ⟨fr', H', E', q1, q2⟩
      · next e => rw [if_neg e]; exact ⟨fr', H', E', q1, q2⟩
    | _ => exact ⟨fr', H', E', q1, q2⟩
  | .loop c, fr, H, K, hk => hk
  | .exit i, fr, H, K, hk => ⟨fun B E a w hnt h => wp_exit ⟨fr, H, E, hk, h⟩⟩
  | .ret, fr, H, K, hk => ⟨fun B E a w hnt h => wp_ret ⟨fr, H, E, hk, h⟩⟩
  | .label _, fr, H, K, hk => ⟨fun B E a w hnt h => wp_label ⟨fr, H, E, hk, h⟩⟩
  | .rangeFunc .., fr, H, K, hk => hk
  | .scope _, fr, H, K, hk => hk
  | .goto _, fr, H, K, hk => hk
  | .refuse _, fr, H, K, hk => hk
end
end Go.Proofs.YtdhfakajlnidiaaGreat
namespace Go.Proofs.YtdhfakajlnidiaaGreat
open Go.RowKit

/-! One state behind another: what a loop's head says. -/
inductive OEq : Option D → Option D → Prop
  | none : OEq none none
  | some {d d' : D} (h : DEq d d') : OEq (some d) (some d')
theorem MapOK.eqv {w : World} {E : Env} {kk : IntKind} {es : List MapEntry} {clock : Nat} {F F' : Int → Option D} (h : MapOK w E kk es clock F) (hq : ∀ x, OEq (F x) (F' x)) : MapOK w E kk es clock F' := by
  refine ⟨fun e he => ?_, fun x d hd => ?_, h.apart, h.clock⟩
  · obtain ⟨x, d, h1, h2, h3, h4⟩ := h.val e he
    have q := hq x
    rw [h3] at q
    generalize hF : F' x = y at q
    cases q with | some hd => exact ⟨x, _, h1, h2, hF, hd.rep h4⟩
  · have q := hq x
    rw [hd] at q
    generalize hF : F x = y at q
    cases q with | some hd => exact h.has x _ hF
inductive BkEq (H H' : List Bk) : Bk → Bk → Prop
  | mp {kk : IntKind} {m m' : ME} (hs : m.size = m'.size) (h : ∀ x, OEq (m.den x) (m'.den x)) : BkEq H H' (.mp kk m) (.mp kk m')
  | mpk0 {kk : IntKind} {ks : List IntKind} {k2 : IntKind} {F : List Int → Option Int} {n : IE} (hF : ∀ L, F L = none) (hn : n.den = 0) : BkEq H H' (.mp kk (.lits [])) (.mpk ks k2 F n)
  | mpkf {ks : List IntKind} {k2 : IntKind} {F F' : List Int → Option Int} {n n' : IE} (hF : ∀ L, F L = F' L) (hn : n.den = n'.den) : BkEq H H' (.mpk ks k2 F n) (.mpk ks k2 F' n')
  | refl (b : Bk) : BkEq H H' b b
  | dead (b : Bk) : BkEq H H' b .dead
  | arrf {k : IntKind} {m : Nat} {f f' : Nat → Int} (h : ∀ i, i < m → f i = f' i) : BkEq H H' (.arr k m f) (.arr k m f')
  | cells {l l' : List D} (h : SnDs H H' l l') : BkEq H H' (.cells l) (.cells l')
  | row {ty n ver : Nat} {r r' : RE} (h : r.den = r'.den) : BkEq H H' (.row ty n ver r) (.row ty n ver r')
  | cut {ty n ver k : Nat} {r r' : RE} (h : r.den.take k = r'.den) : BkEq H H' (.row ty n ver r) (.row ty n ver r')
  | rowe {ty n ver : Nat} {r r' : RE} (hl : r.den.length = r'.den.length) (h : ∀ (i : Nat) e e', r.den[i]? = some e → r'.den[i]? = some e' → e.length = e'.length ∧ ∀ (j : Nat) d d', e[j]? = some d → e'[j]? = some d' → DEq d d') : BkEq H H' (.row ty n ver r) (.row ty n ver r')
  | arr {l : List D} {n : Nat} {r : RE} (h : r.den.flatten = l) (hx : ∀ e ∈ r.den, e.length = n ∧ e.all (D.dataB 5) = true) : BkEq H H' (.cells l) (.row 1000000 n 1 r)
def Bk.below (n : Nat) : Bk → Bool
  | .cells l => l.all (D.undr 8 n)
  | _ => true
def FrEnt (H H' : List Bk) (fr : Fr) : Fr → Prop
  | [] => True
  | (t, d) :: r => SnD H H' (fr.get t) d ∧ FrEnt H H' fr r
def HEnt1 (H0 H0' : List Bk) : List Bk → List Bk → Prop
  | _, [] => True
  | [], _ :: _ => False
  | b :: H, b' :: H' => BkEq H0 H0' b b' ∧ HEnt1 H0 H0' H H'
def HEnt (H H' : List Bk) : Prop := HEnt1 H H' H H'
theorem FrEnt.get {H H' : List Bk} {fr : Fr} : ∀ {fr' : Fr}, FrEnt H H' fr fr' → ∀ t, SnD H H' (fr.get t) (fr'.get t)
  | [], _, t => .eq (.junk _)
  | (m, d) :: r, h, t => by
    simp only [Fr.get]
    by_cases e : m = t
    · subst e; rw [if_pos rfl]; exact h.1
    · rw [if_neg e]; exact FrEnt.get h.2 t
theorem HEnt1.get {H0 H0' : List Bk} : ∀ {H H' : List Bk}, HEnt1 H0 H0' H H' → H'.length ≤ H.length ∧ ∀ (i : Nat) b', H'[i]? = some b' → ∃ b, H[i]? = some b ∧ BkEq H0 H0' b b'
  | _, [], _ => ⟨Nat.zero_le _, fun i b h => by simp at h⟩
  | [], _ :: _, h => h.elim
  | b :: H, b' :: H', h => by
    obtain ⟨h1, h2⟩ := HEnt1.get h.2
    refine ⟨by simpa using h1, fun i x hx => ?_⟩
    cases i with
    | zero => simp at hx; subst hx; exact ⟨b, rfl, h.1⟩
    | succ i => simpa using h2 i x (by simpa using hx)
theorem HEnt.refl (H : List Bk) : HEnt H H := by
  unfold HEnt
  have key : ∀ (H0 H0' l : List Bk), HEnt1 H0 H0' l l := fun H0 H0' l => by
    induction l with
    | nil => trivial
    | cons b l ih => exact ⟨.refl b, ih⟩
  exact key _ _ _
def belowH (H' : List Bk) : Bool := H'.all (Bk.below H'.length)
def belowAll (fr' : Fr) (H' : List Bk) : Bool := fr'.all (fun p => p.2.undr 8 H'.length) && belowH H'
structure EntP (fr : Fr) (H : List Bk) (fr' : Fr) (H' : List Bk) : Prop where
  fr : FrEnt H H' fr fr'
  heap : HEnt H H'
  below : belowAll fr' H' = true
theorem Fr.get_below {n : Nat} {fr' : Fr} (h : fr'.all (fun p => p.2.undr 8 n) = true) (t : Nat) : (fr'.get t).undr 8 n = true := by
  induction fr' with
  | nil => rfl
  | cons p r ih =>
    obtain ⟨m, d⟩ := p
    simp only [List.all_cons, Bool.and_eq_true] at h
    simp only [Fr.get]
    split
    · exact h.1
    · exact ih h.2
/-- own blocks that are given up are data from now on -/
def Env.kill (E : Env) (H' : List Bk) : Env := ⟨fun b => E.G b ∨ ∃ x, goneB H' x = true ∧ E.σ x = some b, fun x => if goneB H' x then none else E.σ x, fun x => if goneB H' x then E.κ x + 1 else E.κ x, E.ζ⟩
theorem Env.kill_le (E : Env) (H' : List Bk) (w : World) : E.le w w (E.kill H') := ⟨fun _ h => .inl h, fun _ _ => rfl⟩
theorem Env.kill_own (E : Env) (H' : List Bk) : E.own (E.kill H') := by
  refine ⟨fun b => ?_, fun b e => ?_⟩
  · simp only [Env.kill]; split <;> omega
  · simp only [Env.kill] at e ⊢
    split at e
    · omega
    · next q => rw [if_neg q]; refine ⟨?_, fun _ _ => ?_⟩ <;> first | rfl | trivial
theorem goneB_len {H' : List Bk} {x : Nat} (h : ¬ goneB H' x = true) : x < H'.length := by
  rcases Nat.lt_or_ge x H'.length with q | q
  · exact q
  · exact absurd (by simp [goneB, List.getElem?_eq_none q]) h
theorem WRel.ent {B : Base} {H H' : List Bk} {E : Env} {w : World} (hw : WRel B H E w) (hh : B.h0 ≤ H'.length) (he : HEnt H H') (hb : belowH H' = true) :
    WRel B H' ((E.kill H').trunc H'.length) w ∧ ∀ {d d' : D} {v : Value}, SnD H H' d d' → d'.undr 8 H'.length = true → DRep w E d v → DRep w ((E.kill H').trunc H'.length) d' v := by
  obtain ⟨hle, hget⟩ := HEnt1.get he
  have move : ∀ {d d' : D} {v : Value}, SnD H H' d d' → DRep w E d v → DRep w (E.kill H') d' v := fun hs hr => hs.rep hw.heap (E.kill_le H' w) (E.kill_own H') (fun x c _ hg hc => .inr ⟨x, hg, hc⟩) hr
  refine ⟨?_, fun hs hu hr => DRep.trunc 8 hu (move hs hr)⟩
  have ldata : E.data.le w w (E.kill H').data := (E.kill_le H' w).data
  have sub : ∀ {x c}, ((E.kill H').trunc H'.length).σ x = some c → x < H'.length ∧ ¬ goneB H' x = true ∧ E.σ x = some c := fun {x c} hx => by
    simp only [Env.trunc, Env.kill] at hx
    split at hx
    · next q =>
      split at hx
      · cases hx
      · next q2 => exact ⟨q, q2, hx⟩
    · cases hx
  refine ⟨fun x y c hx hy => hw.inj x y c (sub hx).2.2 (sub hy).2.2, fun x c hx => ?_, fun b hb => ?_, fun x b' hx => ?_, fun x hx => ?_, fun b hb => ?_, fun b hb => .inl (hw.g0 b hb), fun b hb => ?_, hw.bel, B.cut _ _ _ hh (B.stab _ _ _ _ (E.kill_le H' w) (E.kill_own H') hw.phi)⟩
  · obtain ⟨h1, h2, h3⟩ := sub hx
    obtain ⟨q1, q2, q3⟩ := hw.own x c h3
    refine ⟨q1, q2, fun q => ?_⟩
    rcases q with q | ⟨y, hy, hc⟩
    · exact q3 q
    · exact h2 (by rw [hw.inj x y c h3 hc]; exact hy)
  · simp only [Env.trunc, Env.kill] at hb ⊢
    split
    · next q =>
      rw [if_pos q] at hb
      split
      · rfl
      · next q2 => rw [if_neg q2] at hb; exact hw.wf b hb
    · rfl
  · have hlt : x < H'.length := (List.getElem?_eq_some_iff.1 hx).1
    obtain ⟨b, h1, h2⟩ := hget x b' hx
    have hbb := List.all_eq_true.1 hb b' (List.mem_of_getElem? hx)
    by_cases hg : goneB H' x = true
    · have hb' : b' = .dead := by
        unfold goneB at hg
        rw [hx] at hg
        cases b' <;> first | rfl | cases hg
      subst hb'
      refine .inr ⟨trivial, fun c hc => trivial, fun _ => trivial⟩
    have e1 : ((E.kill H').trunc H'.length).κ x = E.κ x := by simp [Env.trunc, Env.kill, hlt, hg]
    have e2 : ((E.kill H').trunc H'.length).σ x = E.σ x := by simp [Env.trunc, Env.kill, hlt, hg]
    have e3 : ((E.kill H').trunc H'.length).ζ x = E.ζ x := rfl
    rw [e1, e2]
    have keep : ∀ {d : D} {v : Value}, DRep w E.data d v → DRep w ((E.kill H').trunc H'.length).data d v := fun h => h.move (E' := ((E.kill H').trunc H'.length).data) ⟨fun _ h => .inl h, fun _ _ => rfl⟩ Env.own.data
    rcases hw.heap x b h1 with q | ⟨q1, q2, q3⟩
    · exact .inl q
    · refine .inr ?_
      cases h2 with
      | refl =>
        refine ⟨q1, fun c hc => ?_, q3⟩
        have := q2 c hc
        cases b' with
        | cells l =>
          obtain ⟨cs, t, g1, g2, gz, g3⟩ := this
          exact ⟨cs, t, g1, g2, gz, fun i d hd => by
            obtain ⟨v, g4, g5⟩ := g3 i d hd
            simp only [Bk.below, List.all_eq_true] at hbb
            exact ⟨v, g4, DRep.trunc 8 (hbb d (List.mem_of_getElem? hd)) (move (.eq (.refl _)) g5)⟩⟩
        | row ty n ver r =>
          obtain ⟨cs, t, g0, g1, g2, gz, g3⟩ := this
          exact ⟨cs, t, g0, g1, g2, gz, fun i e he => ⟨(g3 i e he).1, fun j d hd => by obtain ⟨v, g4, g5⟩ := (g3 i e he).2 j d hd; exact ⟨v, g4, keep g5⟩⟩⟩
        | mp kk m =>
          obtain ⟨es, clock, g1, g2, g3, g4⟩ := this
          exact ⟨es, clock, g1, g2, g3, ⟨fun e he => by obtain ⟨x, d, k1, k2, k3, k4⟩ := g4.val e he; exact ⟨x, d, k1, k2, k3, keep k4⟩, g4.has, g4.apart, g4.clock⟩⟩
        | mpk ks k2 F n =>
          obtain ⟨es, clock, g1, g2, g3, g4⟩ := this
          exact ⟨es, clock, g1, g2, g3, g4⟩
        | arr k m f =>
          obtain ⟨cs, t, g1, g2, g3, g4⟩ := this
          exact ⟨cs, t, g1, g2, g3, g4⟩
        | dead => trivial
      | @arrf k m f f' hf =>
        refine ⟨q1, fun c hc => ?_, q3⟩
        obtain ⟨cs, t, g1, g2, g3, g4⟩ := q2 c hc
        exact ⟨cs, t, g1, g2, g3, fun i hi => by rw [← hf i hi]; exact g4 i hi⟩
      | dead => exact ⟨trivial, fun _ _ => trivial, fun _ => trivial⟩
      | mpk0 hF hn =>
        refine ⟨q1, fun c hc => ?_, fun _ => trivial⟩
        obtain ⟨es, clock, g1, g2, g3, g4⟩ := q2 c hc
        have h0 : es.toList = [] := by
          have h1 : es.size = 0 := by have h2 : (es.size : Int) = ((([] : List (Int × D)).length : Nat) : Int) := g2; simpa using h2
          exact List.length_eq_zero_iff.1 (by simpa using h1)
        have hz : (es.size : Int) = 0 := by rw [← Array.length_toList, h0]; rfl
        refine ⟨es, clock, g1, by rw [hn]; exact hz, g3, ?_⟩
        rw [h0]
        exact ⟨fun e he => by simp at he, fun L y hy => by (rw [hF] at hy; cases hy), .nil, fun e he => by simp at he⟩
      | mpkf hF hn =>
        refine ⟨q1, fun c hc => ?_, fun _ => trivial⟩
        obtain ⟨es, clock, g1, g2, g3, g4⟩ := q2 c hc
        exact ⟨es, clock, g1, by rw [g2, hn], g3, ⟨fun e he => by obtain ⟨L, y, k1, k2, k3, k4⟩ := g4.val e he; exact ⟨L, y, k1, k2, by rw [← hF]; exact k3, k4⟩, fun L y hy hk => g4.has L y (by rw [hF]; exact hy) hk, g4.apart, g4.clock⟩⟩
      | mp hs hq =>
        refine ⟨q1, fun c hc => ?_, fun _ => trivial⟩
        obtain ⟨es, clock, g1, g2, g3, g4⟩ := q2 c hc
        have g5 := g4.eqv hq
        exact ⟨es, clock, g1, by rw [g2, hs], g3, ⟨fun e he => by obtain ⟨x, d, k1, k2, k3, k4⟩ := g5.val e he; exact ⟨x, d, k1, k2, k3, keep k4⟩, g5.has, g5.apart, g5.clock⟩⟩
      | @cells l l' hl =>
        refine ⟨q1, fun c hc => ?_, q3⟩
        obtain ⟨cs, t, g1, g2, gz, g3⟩ := q2 c hc
        obtain ⟨k1, k2⟩ := hl.get
        refine ⟨cs, t, g1, by omega, by rw [← k1]; exact gz, fun i d hd => ?_⟩
        have hlt2 := (List.getElem?_eq_some_iff.1 hd).1
        have k3 : l[i]? = some (l[i]'(by omega)) := List.getElem?_eq_getElem (by omega)
        obtain ⟨v, g4, g5⟩ := g3 i _ k3
        simp only [Bk.below, List.all_eq_true] at hbb
        exact ⟨v, g4, DRep.trunc 8 (hbb d (List.mem_of_getElem? hd)) (move (k2 i _ d k3 hd) g5)⟩
      | @row ty n ver r r' hre =>
        refine ⟨q1, fun c hc => ?_, fun hn => by simpa [Bk.virt, hre] using q3 hn⟩
        obtain ⟨cs, t, g0, g1, g2, gz, g3⟩ := q2 c hc
        rw [hre] at gz g3
        exact ⟨cs, t, g0, g1, g2, gz, fun i e he => ⟨(g3 i e he).1, fun j d hd => by obtain ⟨v, g4, g5⟩ := (g3 i e he).2 j d hd; exact ⟨v, g4, keep g5⟩⟩⟩
      | @cut ty n ver k r r' hre =>
        refine ⟨q1, fun c hc => ?_, fun hn => by have := q3 hn; simp only [Bk.virt] at this ⊢; rw [← hre, this, List.take_nil]⟩
        obtain ⟨cs, t, g0, g1, g2, gz, g3⟩ := q2 c hc
        have hlen : r'.den.length ≤ r.den.length := by rw [← hre, List.length_take]; omega
        refine ⟨cs, t, g0, g1, g2, Nat.le_trans (Nat.mul_le_mul_right n hlen) gz, fun i e he => ?_⟩
        rw [← hre, List.getElem?_take] at he
        split at he
        · exact ⟨(g3 i e he).1, fun j d hd => by obtain ⟨v, g4, g5⟩ := (g3 i e he).2 j d hd; exact ⟨v, g4, keep g5⟩⟩
        · cases he
      | @rowe ty n ver r r' hl he =>
        refine ⟨q1, fun c hc => ?_, fun hn => by have := q3 hn; simp only [Bk.virt] at this ⊢; exact List.length_eq_zero_iff.1 (by rw [← hl, this]; rfl)⟩
        obtain ⟨cs, t, g0, g1, g2, gz, g3⟩ := q2 c hc
        refine ⟨cs, t, g0, g1, g2, by rw [← hl]; exact gz, fun i e' hi => ?_⟩
        have hlt2 := (List.getElem?_eq_some_iff.1 hi).1
        have hi0 : r.den[i]? = some (r.den[i]'(by omega)) := List.getElem?_eq_getElem (by omega)
        obtain ⟨k1, k2⟩ := he i _ e' hi0 hi
        obtain ⟨k3, k4⟩ := g3 i _ hi0
        refine ⟨by rw [← k1]; exact k3, fun j d' hd' => ?_⟩
        have hlt3 := (List.getElem?_eq_some_iff.1 hd').1
        have hj0 : (r.den[i]'(by omega))[j]? = some ((r.den[i]'(by omega))[j]'(by omega)) := List.getElem?_eq_getElem (by omega)
        obtain ⟨v, g4, g5⟩ := k4 j _ hj0
        exact ⟨v, g4, keep ((k2 j _ d' hj0 hd').rep g5)⟩
      | @arr l n r hfl hx' =>
        refine ⟨q1, fun c hc => ?_, fun hn => (q3 hn).elim⟩
        obtain ⟨cs, t, g1, g2, gz, g3⟩ := q2 c hc
        have hlen : r.den.length * n = l.length := by
          rw [← hfl]
          have : ∀ es : List (List D), (∀ e ∈ es, e.length = n) → es.flatten.length = es.length * n := fun es => by
            induction es with
            | nil => simp
            | cons e es ih =>
              intro h
              simp only [List.flatten_cons, List.length_append, List.length_cons]
              rw [ih fun e he => h e (by simp [he]), h e (by simp), Nat.add_mul]
              omega
          exact (this _ fun e he => (hx' e he).1).symm
        refine ⟨cs, t, .inl rfl, g1, by rw [e3]; omega, by omega, fun i e he => ?_⟩
        obtain ⟨k1, k2⟩ := hx' e (List.mem_of_getElem? he)
        refine ⟨k1, fun j d hd => ?_⟩
        obtain ⟨v, k3, k4⟩ := g3 (i * n + j) d (by rw [← hfl]; exact flatten_get _ (fun e he => (hx' e he).1) i e he j d hd)
        exact ⟨v, k3, keep (D.dataB_rep (E := E) (E' := E.data) rfl 5 (List.all_eq_true.1 k2 d (List.mem_of_getElem? hd)) k4)⟩
  · replace hx : H'.length ≤ x := hx
    simp only [Env.trunc]
    rw [if_neg (by omega), if_neg (by omega)]
    exact ⟨rfl, rfl⟩
  · rcases hb with hb | ⟨x, _, hx⟩
    · exact hw.good b hb
    · exact (hw.own x b hx).2.1
  · rcases hb with hb | ⟨x, _, hx⟩
    · exact hw.gn b hb
    · exact .inr (hw.own x b hx).1
theorem EntP.rel {B : Base} {fr fr' : Fr} {H H' : List Bk} (hh : B.h0 ≤ H'.length) (h : EntP fr H fr' H') {E : Env} {a : Act} {w : World} (hr : Rel B ⟨fr, H⟩ E a w) : Rel B ⟨fr', H'⟩ ((E.kill H').trunc H'.length) a w := by
  have hb := h.below
  unfold belowAll at hb
  simp only [Bool.and_eq_true] at hb
  obtain ⟨h1, h2⟩ := hr.wr.ent hh h.heap hb.2
  exact ⟨hr.sz, hr.df, fun t => h2 (h.fr.get t) (Fr.get_below hb.1 t) (hr.fr t), h1⟩
/-! A loop. -/
structure BackP {X : Type} (fr : X → Fr) (H : X → List Bk) (I : X → Prop) (μ : X → Nat) (x : X) (fr2 : Fr) (H2 : List Bk) : Prop where
  out : ∃ y, I y ∧ μ y < μ x ∧ EntP fr2 H2 (fr y) (H y)
def loopK {X : Type} (fr : X → Fr) (H : X → List Bk) (I : X → Prop) (μ : X → Nat) (x : X) (K : Exit → Fr → List Bk → Prop) (e : Exit) (fr2 : Fr) (H2 : List Bk) : Prop := match e with
  | .normal => BackP fr H I μ x fr2 H2
  | e => K e fr2 H2
theorem CodeP.loop {P : Program} {cx : Cx} (hT : cx.T.ok P) (hm : P.follows .mixedOrders = true) {c : Code} {fr : Fr} {H : List Bk} {K : Exit → Fr → List Bk → Prop} {X : Type} (fr' : X → Fr) (H' : X → List Bk) (I : X → Prop) (μ : X → Nat) (x0 : X) (hI : I x0) (hh : ∀ x, cx.h0 ≤ (H' x).length)
    (he : EntP fr H (fr' x0) (H' x0)) (round : ∀ x, I x → vc P cx c (fr' x) (H' x) (loopK fr' H' I μ x K)) : CodeP P cx (.loop c) fr H K := by
  refine ⟨fun B E a w hnt hr b k cs => ?_⟩
  have key : ∀ (n : Nat) (x : X), μ x = n → I x → ∀ (E : Env) (a : Act) (w : World), Rel B ⟨fr' x, H' x⟩ E a w →
      ∃ e a' w', (∃ fr'' H'' E', K e fr'' H'' ∧ Rel B ⟨fr'', H''⟩ E' a' w') ∧ Arrives P (lone (b.at a (.code c :: .inLoop c :: k)) cs w) b k cs e a' w' := by
    intro n
    induction n using Nat.strongRecOn with
    | _ n ih =>
      intro x hn hx E a w hr
      obtain ⟨e, a1, w1, ⟨fr2, H2, E2, hq, hr2⟩, harr⟩ := (vc_sound hT hm c (round x hx)).run B E a w hnt hr b (.inLoop c :: k) cs
      cases e with
      | normal =>
        obtain ⟨y, hy, hlt, hent⟩ := hq.out
        obtain ⟨e3, a3, w3, hq3, harr3⟩ := ih (μ y) (hn ▸ hlt) y rfl hy _ a1 w1 (hent.rel (Nat.le_trans hnt.2 (hh y)) hr2)
        exact ⟨e3, a3, w3, hq3, .of_steps (Steps.trans harr (.one step_inLoop)) harr3⟩
      | exit id => exact ⟨_, a1, w1, ⟨fr2, H2, E2, hq, hr2⟩, .pass (x := .inLoop c) rfl (fun _ _ => .inl (by simp)) harr⟩
      | goto l => exact ⟨_, a1, w1, ⟨fr2, H2, E2, hq, hr2⟩, .pass (x := .inLoop c) rfl (fun _ _ => .inl (by simp)) harr⟩
      | ret => exact ⟨_, a1, w1, ⟨fr2, H2, E2, hq, hr2⟩, .pass (x := .inLoop c) rfl (fun _ _ => .inl (by simp)) harr⟩
      | panic ch => exact ⟨_, a1, w1, ⟨fr2, H2, E2, hq, hr2⟩, .pass (x := .inLoop c) rfl (fun _ _ => .inl (by simp)) harr⟩
      | outgrown => exact ⟨_, a1, w1, ⟨fr2, H2, E2, hq, hr2⟩, .pass (x := .inLoop c) rfl (fun _ _ => .inl (by simp)) harr⟩
  obtain ⟨e, a', w', hq, harr⟩ := key _ x0 rfl hI _ a w (he.rel (Nat.le_trans hnt.2 (hh x0)) hr)
  exact ⟨e, a', w', hq, .of_steps (.one step_loop) harr⟩
/-! A function from its first step to its result. -/
inductive StuckX (e : Exit) : Prop
inductive RetP (H : List Bk) (got : List D) (want : List D) : Prop
  | mk (h : SnDs H [] got want) (hd : want.all (D.dataB 8) = true)
/-- what the results are: slots, or cells of the call's own -/
def resD (T : Tab) (fr : Fr) (H : List Bk) : ResultVar → Option D
  | .tmp t => some (fr.get t)
  | .cell x t => match qLoad2 T H t (fr.get x) with
    | .ret d => some d
    | _ => none
def resDs (T : Tab) (fr : Fr) (H : List Bk) : List ResultVar → Option (List D)
  | [] => some []
  | r :: rs => match resD T fr H r with
    | some d => (match resDs T fr H rs with | some l => some (d :: l) | none => none)
    | none => none
def retX (T : Tab) (rs : List ResultVar) (K : List D → List Bk → Prop) (fr : Fr) (H : List Bk) : Prop := match resDs T fr H rs with
  | some l => K l H
  | none => StuckX .ret
def retK (T : Tab) (rs : List ResultVar) (want : List D) (e : Exit) (fr : Fr) (H : List Bk) : Prop := match e with
  | .ret => retX T rs (fun l H => RetP H l want) fr H
  | .normal => retX T rs (fun l H => RetP H l want) fr H
  | e => StuckX e
def retD : List D → D
  | [d] => d
  | l => .tup l
def argFr (n : Nat) : List D → Fr
  | [] => []
  | d :: l => (n, d) :: argFr (n + 1) l
theorem argFr_get : ∀ (l : List D) (n t : Nat), (argFr n l).get t = if n ≤ t then (l[t - n]?).getD .junk else .junk
  | [], n, t => by simp [argFr, Fr.get]
  | d :: l, n, t => by
    simp only [argFr, Fr.get]
    by_cases e : n = t
    · subst e; simp
    · rw [if_neg e, argFr_get l (n + 1) t]
      by_cases h : n ≤ t
      · rw [if_pos (by omega), if_pos h, show t - n = (t - (n + 1)) + 1 by omega, List.getElem?_cons_succ]
      · rw [if_neg (by omega), if_neg h]
def rvB (nt : Nat) : ResultVar → Bool
  | .tmp t => decide (t < nt)
  | .cell x _ => decide (x < nt)
theorem loadVar_of {P : Program} {t : Nat} {u v : Value} {w w' : World} (h : (Instr.loadAt t u).run P w = .ok v w') : (do loadVar t (← asAddr u) : Sem Value).run P w = .ok v w' := by
  unfold Instr.loadAt at h
  cases u with
  | pointer q =>
    cases q with
    | some ad => simpa [Instr.sureAddr, asAddr] using h
    | none => simp [Instr.sureAddr, stuck, Result.andThen] at h
  | _ => simp [Instr.sureAddr, stuck, Result.andThen] at h
theorem resD_rep {P : Program} {T : Tab} (hT : T.ok P) {B : Base} {fr : Fr} {H : List Bk} {E : Env} {a : Act} {w : World} (hr : Rel B ⟨fr, H⟩ E a w) {r : ResultVar} {d : D} (hd : resD T fr H r = some d) :
    ∃ v, (match r with | .tmp t => (pure (a.tmps.getD t undef) : Sem Value) | .cell x t => (do loadVar t (← asAddr (a.tmps.getD x undef)))).run P w = .ok v w ∧ DRep w E d v := by
  cases r with
  | tmp t =>
    simp only [resD, Option.some.injEq] at hd
    subst hd
    exact ⟨_, by simp, hr.fr t⟩
  | cell x t =>
    simp only [resD] at hd
    split at hd
    · next d' hq =>
      cases hd
      have hg := qLoad2_good (P := P) (H := H) (ρ := fr.ev) (o := ⟨none, .load t (.tmp x), 0, "", #[], none⟩) hT rfl
      rw [show fr.ev (.tmp x) = fr.get x from rfl, hq] at hg
      obtain ⟨v, h1, h2⟩ := hg w E a.eval hr.ev hr.wr.wf hr.wr.heap
      refine ⟨v, ?_, h2⟩
      rw [execOp_load rfl] at h1
      have h3 : (Instr.loadAt t (a.eval (.tmp x))).run P w = .ok v w := by
        cases hl : (Instr.loadAt t (a.eval (.tmp x))).run P w with
        | ok v' w' =>
          rw [Sem.run_bind, hl] at h1
          simp only [Result.andThen_ok, Sem.run_pure, Result.ok.injEq, Next.value.injEq] at h1
          rw [h1.1, h1.2]
        | halt hh w' => rw [Sem.run_bind, hl] at h1; simp [Result.andThen] at h1
      exact loadVar_of h3
    · cases hd
theorem resDs_rep {P : Program} {T : Tab} (hT : T.ok P) {B : Base} {fr : Fr} {H : List Bk} {E : Env} {a : Act} {w : World} (hr : Rel B ⟨fr, H⟩ E a w) {f : ResultVar → Sem Value}
    (hf : ∀ r, f r = match r with | .tmp t => (pure (a.tmps.getD t undef) : Sem Value) | .cell x t => (do loadVar t (← asAddr (a.tmps.getD x undef)))) : ∀ (rs : List ResultVar) (ds : List D), resDs T fr H rs = some ds →
    ∃ vs, (rs.mapM f).run P w = .ok vs w ∧ vs.length = ds.length ∧ ∀ (i : Nat) d v, ds[i]? = some d → vs[i]? = some v → DRep w E d v
  | [], ds, h => by
    simp only [resDs, Option.some.injEq] at h
    subst h
    exact ⟨[], by simp, rfl, fun i d v h => by simp at h⟩
  | r :: rs, ds, h => by
    simp only [resDs] at h
    split at h
    · next d hd =>
      split at h
      · next l hl =>
        cases h
        obtain ⟨v, h1, h2⟩ := resD_rep hT hr hd
        obtain ⟨vs, h3, h4, h5⟩ := resDs_rep hT hr hf rs l hl
        refine ⟨v :: vs, ?_, by simp [h4], fun i d' v' h6 h7 => ?_⟩
        · rw [← hf] at h1
          rw [List.mapM_cons]
          simp only [Sem.run_bind, h1, Result.andThen_ok, h3, Sem.run_pure]
        · cases i with
          | zero => simp at h6 h7; subst h6; subst h7; exact h2
          | succ i => exact h5 i d' v' (by simpa using h6) (by simpa using h7)
      · cases h
    · cases h
theorem results_rep {P : Program} {T : Tab} (hT : T.ok P) {fn : Func} {B : Base} {fr : Fr} {H : List Bk} {E : Env} {a : Act} {w : World} (hr : Rel B ⟨fr, H⟩ E a w) {ds : List D} (hd : resDs T fr H fn.results.toList = some ds) :
    ∃ (v : Value) (vs : List Value), (results fn a.tmps).run P w = .ok v w ∧ (if vs.length = 1 then v = vs.headD undef else v = .tuple vs.toArray) ∧ vs.length = ds.length ∧ ∀ (i : Nat) d v, ds[i]? = some d → vs[i]? = some v → DRep w E d v := by
  have hf : ∃ f : ResultVar → Sem Value, (∀ r, f r = match r with | .tmp t => (pure (a.tmps.getD t undef) : Sem Value) | .cell x t => (do loadVar t (← asAddr (a.tmps.getD x undef)))) ∧
      results fn a.tmps = (do let vs ← fn.results.mapM f; pure (if h : vs.size = 1 then vs[0] else .tuple vs)) := ⟨_, fun r => by cases r <;> rfl, rfl⟩
  obtain ⟨f, hf, hres⟩ := hf
  obtain ⟨vs, h1, h2, h3⟩ := resDs_rep hT hr hf _ _ hd
  refine ⟨if vs.length = 1 then vs.headD undef else .tuple vs.toArray, vs, ?_, by split <;> simp_all, h2, h3⟩
  rw [hres, Array.mapM_eq_mapM_toList]
  simp only [Sem.run_bind, Sem.run_map]
  rw [h1]
  simp only [Result.andThen_ok, Sem.run_pure]
  congr 1
  split
  · next h1 =>
    rw [if_pos (by simpa using h1)]
    cases vs with
    | nil => simp at h1
    | cons x r => rfl
  · next h1 =>
    rw [if_neg (by simpa using h1)]
theorem retD_rep {w : World} {E : Env} {v : Value} {vs : List Value} {ds : List D} (h1 : if vs.length = 1 then v = vs.headD undef else v = .tuple vs.toArray) (h2 : vs.length = ds.length) (h3 : ∀ (i : Nat) d v, ds[i]? = some d → vs[i]? = some v → DRep w E d v) : DRep w E (retD ds) v := by
  match ds, vs, h2, h3, h1 with
  | [], [], _, rep, h1 => simp at h1; rw [h1]; exact .tup rfl fun i d v h => by simp at h
  | [d], [u], _, rep, h1 => simp at h1; rw [h1]; exact rep 0 d u rfl rfl
  | d :: d2 :: r, v :: v2 :: r2, hlen, rep, h1 =>
    rw [if_neg (by simp)] at h1
    rw [h1]
    exact .tup (by simpa using hlen.symm) fun i d v h1 h2 => rep i d v h1 (by simpa using h2)
theorem enter_rel {B : Base} {fn : Func} {args : List D} {H : List Bk} {E : Env} {w : World} {vs : Array Value} (hl : args.length ≤ fn.ntmps) (hv : LRep w E args vs) (hw : WRel B H E w) (hB : B.nt = fn.ntmps) (hD : B.df = []) : Rel B ⟨argFr 0 args, H⟩ E { tmps := vs ++ Array.replicate (fn.ntmps - vs.size) undef, defers := [] } w := by
  have hsz : vs.size + (fn.ntmps - vs.size) = fn.ntmps := by have := hv.1; omega
  refine ⟨by simp [hsz, hB], hD.symm, fun t => ?_, hw⟩
  simp only [argFr_get]
  rw [if_pos (Nat.zero_le _), Nat.sub_zero]
  cases ht : args[t]? with
  | none => exact .junk
  | some d =>
    have hlt := (List.getElem?_eq_some_iff.1 ht).1
    have hv1 : vs[t]? = some (vs[t]'(by have := hv.1; omega)) := Array.getElem?_eq_getElem _
    have := hv.2 t d _ ht hv1
    have e : (vs ++ Array.replicate (fn.ntmps - vs.size) undef).getD t undef = vs[t]'(by have := hv.1; omega) := by
      have : t < vs.size := by have := hv.1; omega
      simp [Array.getElem?_append_left this, this]
    rw [e]
    exact this
theorem Pure.intro {P : Program} {f : Nat} {fn : Func} {c : Code} {args want : List D} {T : Tab} (hT : T.ok P) (hm : P.follows .mixedOrders = true) (hf : P.funcs[f]? = some fn) (hb : fn.body = some c) (hn : (fn.name == "runtime.NumGoroutine") = false) {rs : List ResultVar}
    (hr : fn.results.toList = rs) (hl : decide (args.length ≤ fn.ntmps) = true)
    (h : vc P ⟨T, fn.ntmps, 0⟩ c (argFr 0 args) [] (retK T rs want)) : Pure P f args (retD want) := by
  simp only [decide_eq_true_eq] at hl
  refine ⟨⟨fn, c, hf, hb, hn⟩, fun w G vs hL hG hv => ?_⟩
  let B : Base := ⟨w, G, fn.ntmps, 0, fun w E => Laid w E.G, fun _ _ _ _ h1 _ h3 => h3.le h1, fun _ _ _ _ h => h, [], fun _ _ h => h⟩
  have h0 := enter_rel (B := B) (fn := fn) hl hv (H := []) ⟨fun x y c h => by simp [Env.of] at h, fun x c h => by simp [Env.of] at h, fun _ _ => rfl, fun x b h => by simp at h, fun _ _ => ⟨rfl, rfl⟩, hG, fun _ h => h, fun _ h => .inl h, Below.refl _ _, hL⟩ rfl rfl
  refine calls_of_wp hf hb (Code.wp_mono (fun e a' w' ⟨fr', H', E', q1, q2⟩ => ?_) ((vc_sound hT hm c h).run B _ _ _ ⟨rfl, Nat.le_refl _⟩ h0))
  have fin : retX T rs (fun l H => RetP H l want) fr' H' → a'.defers = [] ∧ ∃ v, (results fn a'.tmps).run P w' = .ok v w' ∧ ∃ (v' : Value) (G' : Nat → Prop), Ending.returned v = .returned v' ∧ Below w.heap.size w w' ∧ (∀ b, G b → G' b) ∧ (∀ b, G' b → G b ∨ w.heap.size ≤ b) ∧ (∀ b, G' b → b < w'.heap.size) ∧ DRep w' (Env.of G') (retD want) v' := by
    intro hs
    unfold retX at hs
    split at hs
    · next ds hds =>
      obtain ⟨hs, hdat⟩ := hs
      have hwr := q2.wr
      obtain ⟨v, us, g1, g2, g3, g4⟩ := results_rep hT (fn := fn) q2 (by rw [hr]; exact hds)
      obtain ⟨k1, k2⟩ := hs.get
      refine ⟨q2.df, v, g1, v, E'.lent, rfl, hwr.bel, fun b hb => .inl (hwr.g0 b hb), fun b hb => ?_, hwr.lentGood, ?_⟩
      · rcases hb with hb | ⟨x, hx⟩
        · exact hwr.gn b hb
        · exact .inr (hwr.own x b hx).1
      · refine retD_rep g2 (by omega) fun i d u h1 h2 => ?_
        have hlt := (List.getElem?_eq_some_iff.1 h1).1
        have h3 : ds[i]? = some (ds[i]'(by omega)) := List.getElem?_eq_getElem (by omega)
        exact (k2 i _ d h3 h1).lent hwr.heap (g4 i _ u h3 h2) (List.all_eq_true.1 hdat d (List.mem_of_getElem? h1))
    · cases hs
  cases e with
  | ret => exact fin q1
  | normal => exact fin q1
  | exit i => cases q1
  | goto l => cases q1
  | panic ch => cases q1
  | outgrown => cases q1
/-! A call that is walked on the spot: the callee sees the caller's own blocks. -/
def retI (T : Tab) (rs : List ResultVar) (K : D → List Bk → Prop) (e : Exit) (fr : Fr) (H : List Bk) : Prop := match e with
  | .ret => retX T rs (fun l H => K (retD l) H) fr H
  | .normal => retX T rs (fun l H => K (retD l) H) fr H
  | e => StuckX e
theorem CallP.inl {P : Program} {f : Nat} {fn : Func} {c : Code} {args : List D} {H : List Bk} {K : D → List Bk → Prop} {T : Tab} (hT : T.ok P) (hm : P.follows .mixedOrders = true) (hf : P.funcs[f]? = some fn) (hb : fn.body = some c) (hn : (fn.name == "runtime.NumGoroutine") = false) {rs : List ResultVar}
    (hr : fn.results.toList = rs) (hl : decide (args.length ≤ fn.ntmps) = true)
    (h : vc P ⟨T, fn.ntmps, H.length⟩ c (argFr 0 args) H (retI T rs K)) : CallP P f args H K := by
  simp only [decide_eq_true_eq] at hl
  refine ⟨⟨fn, c, hf, hb, hn⟩, fun B w E vs hh hv hw => ?_⟩
  let B2 : Base := ⟨B.w0, B.G0, fn.ntmps, B.h0, B.Φ, B.stab, B.cut, [], B.gl⟩
  have h0 := enter_rel (B := B2) (fn := fn) hl hv (H := H) ⟨hw.inj, hw.own, hw.wf, hw.heap, hw.out, hw.good, hw.g0, hw.gn, hw.bel, hw.phi⟩ rfl rfl
  refine calls_of_wp hf hb (Code.wp_mono (fun e a' w' ⟨fr', H', E', q1, q2⟩ => ?_) ((vc_sound hT hm c h).run B2 _ _ _ ⟨rfl, hh⟩ h0))
  have fin : retX T rs (fun l H => K (retD l) H) fr' H' → a'.defers = [] ∧ ∃ v, (results fn a'.tmps).run P w' = .ok v w' ∧ ∃ (v' : Value) (E2 : Env) (d : D) (H2 : List Bk), Ending.returned v = .returned v' ∧ WRel B H2 E2 w' ∧ DRep w' E2 d v' ∧ K d H2 := by
    intro hK
    unfold retX at hK
    split at hK
    · next ds hds =>
      have hwr := q2.wr
      obtain ⟨v, us, g1, g2, g3, g4⟩ := results_rep hT (fn := fn) q2 (by rw [hr]; exact hds)
      exact ⟨q2.df, v, g1, v, E', _, H', rfl, ⟨hwr.inj, hwr.own, hwr.wf, hwr.heap, hwr.out, hwr.good, hwr.g0, hwr.gn, hwr.bel, hwr.phi⟩, retD_rep g2 g3 g4, hK⟩
    · cases hK
  cases e with
  | ret => exact fin q1
  | normal => exact fin q1
  | exit i => cases q1
  | goto l => cases q1
  | panic ch => cases q1
  | outgrown => cases q1
/-- behind a call or ahead of it, own blocks are given up, or said in other words -/
structure CallEnt (h0 : Nat) (H : List Bk) (got : D) (K : D → List Bk → Prop) (want : D) (H' : List Bk) : Prop where
  d : SnD H H' got want
  heap : HEnt H H'
  len : h0 ≤ H'.length
  below : (want.undr 8 H'.length && belowH H') = true
  k : K want H'
theorem CallP.post {P : Program} {f : Nat} {args : List D} {H : List Bk} {K : D → List Bk → Prop} (h : CallP P f args H fun d H1 => ∃ want H', CallEnt H.length H1 d K want H') : CallP P f args H K := by
  refine ⟨h.here, fun B w E vs hh hv hw => (h.run B w E vs hh hv hw).mono ?_⟩
  rintro e w' ⟨v, E', d, H1, rfl, q1, q2, want, H', q3⟩
  have hb := q3.below
  simp only [Bool.and_eq_true] at hb
  obtain ⟨k1, k2⟩ := q1.ent (Nat.le_trans hh q3.len) q3.heap hb.2
  exact ⟨v, _, want, H', rfl, k1, k2 q3.d hb.1 q2, q3.k⟩
theorem CallP.pre {P : Program} {f : Nat} {args : List D} {H : List Bk} {K : D → List Bk → Prop} (args' : List D) (H' : List Bk) (hs : SnDs H H' args args') (he : HEnt H H') (hlen : H'.length = H.length) (hb : (args'.all (D.undr 8 H'.length) && belowH H') = true) (h : CallP P f args' H' K) : CallP P f args H K := by
  refine ⟨h.here, fun B w E vs hh hv hw => ?_⟩
  simp only [Bool.and_eq_true] at hb
  obtain ⟨k1, k2⟩ := hw.ent (H' := H') (by omega) he hb.2
  obtain ⟨h1, h2⟩ := hs.get
  refine h.run B w _ vs (by omega) ⟨by rw [← h1]; exact hv.1, fun i x v hx hv' => ?_⟩ k1
  have hlt := (List.getElem?_eq_some_iff.1 hx).1
  have hx0 : args[i]? = some (args[i]'(by omega)) := List.getElem?_eq_getElem (by omega)
  exact k2 (h2 i _ x hx0 hx) (List.all_eq_true.1 hb.1 x (List.mem_of_getElem? hx)) (hv.2 i _ v hx0 hv')
theorem CodeP.pre {P : Program} {cx : Cx} {c : Code} {fr : Fr} {H : List Bk} {K : Exit → Fr → List Bk → Prop} (fr' : Fr) (H' : List Bk) (he : EntP fr H fr' H') (hh : cx.h0 ≤ H'.length) (h : CodeP P cx c fr' H' K) : CodeP P cx c fr H K :=
  ⟨fun B E a w hnt hr => h.run B _ a w hnt (he.rel (Nat.le_trans hnt.2 hh) hr)⟩
/-- own blocks are given up in the midst of a region -/
theorem OpsP.pre {P : Program} {cx : Cx} {ops : Array Oper} {os : List Oper} {fr : Fr} {H : List Bk} {K : Fr → List Bk → Prop} (hT : cx.T.ok P) (fr' : Fr) (H' : List Bk) (he : EntP fr H fr' H') (hh : cx.h0 ≤ H'.length) (h : vops P cx ops os fr' H' K) : OpsP P cx ops os fr H K :=
  ⟨fun B E a w hnt hh0 hr Q hQ => vops_sound hT hnt hh0 os h (he.rel (Nat.le_trans hh0 hh) hr) hQ⟩
/-! A deferred call of a function with what it captured. -/
structure DefP (P : Program) (f : Nat) (args : List D) (H : List Bk) (K : D → List Bk → Prop) : Prop where
  here : Here P f
  run : ∀ (B : Base) (w : World) (E : Env) (vs : Array Value), B.h0 ≤ H.length → LRep w E args vs → WRel B H E w →
    CallsD P f vs .returning w fun e u' w' => u' = .returning ∧ ∃ v E' d H', e = .returned v ∧ WRel B H' E' w' ∧ DRep w' E' d v ∧ K d H'
theorem DefP.inl {P : Program} {f : Nat} {fn : Func} {c : Code} {args : List D} {H : List Bk} {K : D → List Bk → Prop} {T : Tab} (hT : T.ok P) (hm : P.follows .mixedOrders = true) (hf : P.funcs[f]? = some fn) (hb : fn.body = some c) (hn : (fn.name == "runtime.NumGoroutine") = false) {rs : List ResultVar}
    (hr : fn.results.toList = rs) (hl : decide (args.length ≤ fn.ntmps) = true)
    (h : vc P ⟨T, fn.ntmps, H.length⟩ c (argFr 0 args) H (retI T rs K)) : DefP P f args H K := by
  simp only [decide_eq_true_eq] at hl
  refine ⟨⟨fn, c, hf, hb, hn⟩, fun B w E vs hh hv hw => ?_⟩
  let B2 : Base := ⟨B.w0, B.G0, fn.ntmps, B.h0, B.Φ, B.stab, B.cut, [], B.gl⟩
  have h0 := enter_rel (B := B2) (fn := fn) hl hv (H := H) ⟨hw.inj, hw.own, hw.wf, hw.heap, hw.out, hw.good, hw.g0, hw.gn, hw.bel, hw.phi⟩ rfl rfl
  refine callsD_of_wp hf hb (Code.wp_mono (fun e a' w' ⟨fr', H', E', q1, q2⟩ => ?_) ((vc_sound hT hm c h).run B2 _ _ _ ⟨rfl, hh⟩ h0))
  have fin : retX T rs (fun l H => K (retD l) H) fr' H' → a'.defers = [] ∧ ∃ v, (results fn a'.tmps).run P w' = .ok v w' ∧ ∃ (v' : Value) (E2 : Env) (d : D) (H2 : List Bk), Ending.returned v = .returned v' ∧ WRel B H2 E2 w' ∧ DRep w' E2 d v' ∧ K d H2 := by
    intro hK
    unfold retX at hK
    split at hK
    · next ds hds =>
      have hwr := q2.wr
      obtain ⟨v, us, g1, g2, g3, g4⟩ := results_rep hT (fn := fn) q2 (by rw [hr]; exact hds)
      exact ⟨q2.df, v, g1, v, E', _, H', rfl, ⟨hwr.inj, hwr.own, hwr.wf, hwr.heap, hwr.out, hwr.good, hwr.g0, hwr.gn, hwr.bel, hwr.phi⟩, retD_rep g2 g3 g4, hK⟩
    · cases hK
  cases e with
  | ret => exact fin q1
  | normal => exact fin q1
  | exit i => cases q1
  | goto l => cases q1
  | panic ch => cases q1
  | outgrown => cases q1
/-- the end of a function with one deferred call -/
def retKD (P : Program) (T : Tab) (rs : List ResultVar) (want : List D) (n : Nat) (caps : List D) (e : Exit) (fr : Fr) (H : List Bk) : Prop := match e with
  | .ret => if fr.all (fun p => p.2.undr 8 H.length) && caps.all (D.undr 8 H.length) then DefP P n caps H fun _ H2 => retX T rs (fun l H => RetP H l want) fr H2 else StuckX .ret
  | .normal => if fr.all (fun p => p.2.undr 8 H.length) && caps.all (D.undr 8 H.length) then DefP P n caps H fun _ H2 => retX T rs (fun l H => RetP H l want) fr H2 else StuckX .ret
  | e => StuckX e
end Go.Proofs.YtdhfakajlnidiaaGreat
