/- Part 3 of the walks and laws that these claims rest on. No condition. -/
import Derived.LoopN
import Derived.Test.YtffmgfehaahlhaaDoorProg
import Derived.Test.YtffmgfehaahlhaaDoorPart2
set_option linter.all false
set_option linter.unusedSimpArgs false
set_option linter.unusedVariables false
set_option linter.unnecessarySimpa false
namespace Go.Proofs.YtffmgfehaahlhaaDoor
open Go.RowKit

/-! One state behind another: what a loop's head says. -/
inductive OEq : Option D → Option D → Prop
  | none : OEq none none
  | some {d d' : D} (h : DEq d d') : OEq (some d) (some d')
theorem MapOK.eqv {w : World} {E : Env} {kk : IntKind} {es : List MapEntry} {clock : Nat} {F F' : Int → Option D} (h : MapOK w E kk es clock F) (hq : ∀ x, OEq (F x) (F' x)) : MapOK w E kk es clock F' := by
  refine ⟨fun e he => ?_, fun x d hd => ?_, h.apart, h.clock⟩
  · obtain ⟨x, d, h1, h2, h3, h4⟩ := h.val e he
    have q := hq x
    rw [h3] at q
    generalize hF : F' x = y at q
    cases q with | some hd => exact ⟨x, _, h1, h2, hF, hd.rep h4⟩
  · have q := hq x
    rw [hd] at q
    generalize hF : F x = y at q
    cases q with | some hd => exact h.has x _ hF
inductive BkEq (H H' : List Bk) : Bk → Bk → Prop
  | mp {kk : IntKind} {m m' : ME} (hs : m.size = m'.size) (h : ∀ x, OEq (m.den x) (m'.den x)) : BkEq H H' (.mp kk m) (.mp kk m')
  | refl (b : Bk) : BkEq H H' b b
  | dead (b : Bk) : BkEq H H' b .dead
  | arrf {k : IntKind} {m : Nat} {f f' : Nat → Int} (h : ∀ i, i < m → f i = f' i) : BkEq H H' (.arr k m f) (.arr k m f')
  | cells {l l' : List D} (h : SnDs H H' l l') : BkEq H H' (.cells l) (.cells l')
  | row {ty n ver : Nat} {r r' : RE} (h : r.den = r'.den) : BkEq H H' (.row ty n ver r) (.row ty n ver r')
  | rowe {ty n ver : Nat} {r r' : RE} (hl : r.den.length = r'.den.length) (h : ∀ (i : Nat) e e', r.den[i]? = some e → r'.den[i]? = some e' → e.length = e'.length ∧ ∀ (j : Nat) d d', e[j]? = some d → e'[j]? = some d' → DEq d d') : BkEq H H' (.row ty n ver r) (.row ty n ver r')
  | arr {l : List D} {n : Nat} {r : RE} (h : r.den.flatten = l) (hx : ∀ e ∈ r.den, e.length = n ∧ e.all (D.dataB 5) = true) : BkEq H H' (.cells l) (.row 1000000 n 1 r)
def Bk.below (n : Nat) : Bk → Bool
  | .cells l => l.all (D.undr 8 n)
  | _ => true
def FrEnt (H H' : List Bk) (fr : Fr) : Fr → Prop
  | [] => True
  | (t, d) :: r => SnD H H' (fr.get t) d ∧ FrEnt H H' fr r
def HEnt1 (H0 H0' : List Bk) : List Bk → List Bk → Prop
  | _, [] => True
  | [], _ :: _ => False
  | b :: H, b' :: H' => BkEq H0 H0' b b' ∧ HEnt1 H0 H0' H H'
def HEnt (H H' : List Bk) : Prop := HEnt1 H H' H H'
theorem FrEnt.get {H H' : List Bk} {fr : Fr} : ∀ {fr' : Fr}, FrEnt H H' fr fr' → ∀ t, SnD H H' (fr.get t) (fr'.get t)
  | [], _, t => .eq (.junk _)
  | (m, d) :: r, h, t => by
    simp only [Fr.get]
    by_cases e : m = t
    · subst e; rw [if_pos rfl]; exact h.1
    · rw [if_neg e]; exact FrEnt.get h.2 t
theorem HEnt1.get {H0 H0' : List Bk} : ∀ {H H' : List Bk}, HEnt1 H0 H0' H H' → H'.length ≤ H.length ∧ ∀ (i : Nat) b', H'[i]? = some b' → ∃ b, H[i]? = some b ∧ BkEq H0 H0' b b'
  | _, [], _ => ⟨Nat.zero_le _, fun i b h => by simp at h⟩
  | [], _ :: _, h => h.elim
  | b :: H, b' :: H', h => by
    obtain ⟨h1, h2⟩ := HEnt1.get h.2
    refine ⟨by simpa using h1, fun i x hx => ?_⟩
    cases i with
    | zero => simp at hx; subst hx; exact ⟨b, rfl, h.1⟩
    | succ i => simpa using h2 i x (by simpa using hx)
theorem HEnt.refl (H : List Bk) : HEnt H H := by
  unfold HEnt
  have key : ∀ (H0 H0' l : List Bk), HEnt1 H0 H0' l l := fun H0 H0' l => by
    induction l with
    | nil => trivial
    | cons b l ih => exact ⟨.refl b, ih⟩
  exact key _ _ _
def belowH (H' : List Bk) : Bool := H'.all (Bk.below H'.length)
def belowAll (fr' : Fr) (H' : List Bk) : Bool := fr'.all (fun p => p.2.undr 8 H'.length) && belowH H'
structure EntP (fr : Fr) (H : List Bk) (fr' : Fr) (H' : List Bk) : Prop where
  fr : FrEnt H H' fr fr'
  heap : HEnt H H'
  below : belowAll fr' H' = true
theorem Fr.get_below {n : Nat} {fr' : Fr} (h : fr'.all (fun p => p.2.undr 8 n) = true) (t : Nat) : (fr'.get t).undr 8 n = true := by
  induction fr' with
  | nil => rfl
  | cons p r ih =>
    obtain ⟨m, d⟩ := p
    simp only [List.all_cons, Bool.and_eq_true] at h
    simp only [Fr.get]
    split
    · exact h.1
    · exact ih h.2
/-- own blocks that are given up are data from now on -/
def Env.kill (E : Env) (H' : List Bk) : Env := ⟨fun b => E.G b ∨ ∃ x, goneB H' x = true ∧ E.σ x = some b, fun x => if goneB H' x then none else E.σ x, fun x => if goneB H' x then E.κ x + 1 else E.κ x, E.ζ⟩
theorem Env.kill_le (E : Env) (H' : List Bk) (w : World) : E.le w w (E.kill H') := ⟨fun _ h => .inl h, fun _ _ => rfl⟩
theorem Env.kill_own (E : Env) (H' : List Bk) : E.own (E.kill H') := by
  refine ⟨fun b => ?_, fun b e => ?_⟩
  · simp only [Env.kill]; split <;> omega
  · simp only [Env.kill] at e ⊢
    split at e
    · omega
    · next q => rw [if_neg q]; refine ⟨?_, fun _ _ => ?_⟩ <;> first | rfl | trivial
theorem goneB_len {H' : List Bk} {x : Nat} (h : ¬ goneB H' x = true) : x < H'.length := by
  rcases Nat.lt_or_ge x H'.length with q | q
  · exact q
  · exact absurd (by simp [goneB, List.getElem?_eq_none q]) h
theorem WRel.ent {B : Base} {H H' : List Bk} {E : Env} {w : World} (hw : WRel B H E w) (hh : B.h0 ≤ H'.length) (he : HEnt H H') (hb : belowH H' = true) :
    WRel B H' ((E.kill H').trunc H'.length) w ∧ ∀ {d d' : D} {v : Value}, SnD H H' d d' → d'.undr 8 H'.length = true → DRep w E d v → DRep w ((E.kill H').trunc H'.length) d' v := by
  obtain ⟨hle, hget⟩ := HEnt1.get he
  have move : ∀ {d d' : D} {v : Value}, SnD H H' d d' → DRep w E d v → DRep w (E.kill H') d' v := fun hs hr => hs.rep hw.heap (E.kill_le H' w) (E.kill_own H') (fun x c _ hg hc => .inr ⟨x, hg, hc⟩) hr
  refine ⟨?_, fun hs hu hr => DRep.trunc 8 hu (move hs hr)⟩
  have ldata : E.data.le w w (E.kill H').data := (E.kill_le H' w).data
  have sub : ∀ {x c}, ((E.kill H').trunc H'.length).σ x = some c → x < H'.length ∧ ¬ goneB H' x = true ∧ E.σ x = some c := fun {x c} hx => by
    simp only [Env.trunc, Env.kill] at hx
    split at hx
    · next q =>
      split at hx
      · cases hx
      · next q2 => exact ⟨q, q2, hx⟩
    · cases hx
  refine ⟨fun x y c hx hy => hw.inj x y c (sub hx).2.2 (sub hy).2.2, fun x c hx => ?_, fun b hb => ?_, fun x b' hx => ?_, fun x hx => ?_, fun b hb => ?_, fun b hb => .inl (hw.g0 b hb), fun b hb => ?_, hw.bel, B.cut _ _ _ hh (B.stab _ _ _ _ (E.kill_le H' w) (E.kill_own H') hw.phi)⟩
  · obtain ⟨h1, h2, h3⟩ := sub hx
    obtain ⟨q1, q2, q3⟩ := hw.own x c h3
    refine ⟨q1, q2, fun q => ?_⟩
    rcases q with q | ⟨y, hy, hc⟩
    · exact q3 q
    · exact h2 (by rw [hw.inj x y c h3 hc]; exact hy)
  · simp only [Env.trunc, Env.kill] at hb ⊢
    split
    · next q =>
      rw [if_pos q] at hb
      split
      · rfl
      · next q2 => rw [if_neg q2] at hb; exact hw.wf b hb
    · rfl
  · have hlt : x < H'.length := (List.getElem?_eq_some_iff.1 hx).1
    obtain ⟨b, h1, h2⟩ := hget x b' hx
    have hbb := List.all_eq_true.1 hb b' (List.mem_of_getElem? hx)
    by_cases hg : goneB H' x = true
    · have hb' : b' = .dead := by
        unfold goneB at hg
        rw [hx] at hg
        cases b' <;> first | rfl | cases hg
      subst hb'
      refine .inr ⟨trivial, fun c hc => trivial, fun _ => trivial⟩
    have e1 : ((E.kill H').trunc H'.length).κ x = E.κ x := by simp [Env.trunc, Env.kill, hlt, hg]
    have e2 : ((E.kill H').trunc H'.length).σ x = E.σ x := by simp [Env.trunc, Env.kill, hlt, hg]
    have e3 : ((E.kill H').trunc H'.length).ζ x = E.ζ x := rfl
    rw [e1, e2]
    have keep : ∀ {d : D} {v : Value}, DRep w E.data d v → DRep w ((E.kill H').trunc H'.length).data d v := fun h => h.move (E' := ((E.kill H').trunc H'.length).data) ⟨fun _ h => .inl h, fun _ _ => rfl⟩ Env.own.data
    rcases hw.heap x b h1 with q | ⟨q1, q2, q3⟩
    · exact .inl q
    · refine .inr ?_
      cases h2 with
      | refl =>
        refine ⟨q1, fun c hc => ?_, q3⟩
        have := q2 c hc
        cases b' with
        | cells l =>
          obtain ⟨cs, t, g1, g2, gz, g3⟩ := this
          exact ⟨cs, t, g1, g2, gz, fun i d hd => by
            obtain ⟨v, g4, g5⟩ := g3 i d hd
            simp only [Bk.below, List.all_eq_true] at hbb
            exact ⟨v, g4, DRep.trunc 8 (hbb d (List.mem_of_getElem? hd)) (move (.eq (.refl _)) g5)⟩⟩
        | row ty n ver r =>
          obtain ⟨cs, t, g0, g1, g2, gz, g3⟩ := this
          exact ⟨cs, t, g0, g1, g2, gz, fun i e he => ⟨(g3 i e he).1, fun j d hd => by obtain ⟨v, g4, g5⟩ := (g3 i e he).2 j d hd; exact ⟨v, g4, keep g5⟩⟩⟩
        | mp kk m =>
          obtain ⟨es, clock, g1, g2, g3, g4⟩ := this
          exact ⟨es, clock, g1, g2, g3, ⟨fun e he => by obtain ⟨x, d, k1, k2, k3, k4⟩ := g4.val e he; exact ⟨x, d, k1, k2, k3, keep k4⟩, g4.has, g4.apart, g4.clock⟩⟩
        | arr k m f =>
          obtain ⟨cs, t, g1, g2, g3, g4⟩ := this
          exact ⟨cs, t, g1, g2, g3, g4⟩
        | dead => trivial
      | @arrf k m f f' hf =>
        refine ⟨q1, fun c hc => ?_, q3⟩
        obtain ⟨cs, t, g1, g2, g3, g4⟩ := q2 c hc
        exact ⟨cs, t, g1, g2, g3, fun i hi => by rw [← hf i hi]; exact g4 i hi⟩
      | dead => exact ⟨trivial, fun _ _ => trivial, fun _ => trivial⟩
      | mp hs hq =>
        refine ⟨q1, fun c hc => ?_, fun _ => trivial⟩
        obtain ⟨es, clock, g1, g2, g3, g4⟩ := q2 c hc
        have g5 := g4.eqv hq
        exact ⟨es, clock, g1, by rw [g2, hs], g3, ⟨fun e he => by obtain ⟨x, d, k1, k2, k3, k4⟩ := g5.val e he; exact ⟨x, d, k1, k2, k3, keep k4⟩, g5.has, g5.apart, g5.clock⟩⟩
      | @cells l l' hl =>
        refine ⟨q1, fun c hc => ?_, q3⟩
        obtain ⟨cs, t, g1, g2, gz, g3⟩ := q2 c hc
        obtain ⟨k1, k2⟩ := hl.get
        refine ⟨cs, t, g1, by omega, by rw [← k1]; exact gz, fun i d hd => ?_⟩
        have hlt2 := (List.getElem?_eq_some_iff.1 hd).1
        have k3 : l[i]? = some (l[i]'(by omega)) := List.getElem?_eq_getElem (by omega)
        obtain ⟨v, g4, g5⟩ := g3 i _ k3
        simp only [Bk.below, List.all_eq_true] at hbb
        exact ⟨v, g4, DRep.trunc 8 (hbb d (List.mem_of_getElem? hd)) (move (k2 i _ d k3 hd) g5)⟩
      | @row ty n ver r r' hre =>
        refine ⟨q1, fun c hc => ?_, fun hn => by simpa [Bk.virt, hre] using q3 hn⟩
        obtain ⟨cs, t, g0, g1, g2, gz, g3⟩ := q2 c hc
        rw [hre] at gz g3
        exact ⟨cs, t, g0, g1, g2, gz, fun i e he => ⟨(g3 i e he).1, fun j d hd => by obtain ⟨v, g4, g5⟩ := (g3 i e he).2 j d hd; exact ⟨v, g4, keep g5⟩⟩⟩
      | @rowe ty n ver r r' hl he =>
        refine ⟨q1, fun c hc => ?_, fun hn => by have := q3 hn; simp only [Bk.virt] at this ⊢; exact List.length_eq_zero_iff.1 (by rw [← hl, this]; rfl)⟩
        obtain ⟨cs, t, g0, g1, g2, gz, g3⟩ := q2 c hc
        refine ⟨cs, t, g0, g1, g2, by rw [← hl]; exact gz, fun i e' hi => ?_⟩
        have hlt2 := (List.getElem?_eq_some_iff.1 hi).1
        have hi0 : r.den[i]? = some (r.den[i]'(by omega)) := List.getElem?_eq_getElem (by omega)
        obtain ⟨k1, k2⟩ := he i _ e' hi0 hi
        obtain ⟨k3, k4⟩ := g3 i _ hi0
        refine ⟨by rw [← k1]; exact k3, fun j d' hd' => ?_⟩
        have hlt3 := (List.getElem?_eq_some_iff.1 hd').1
        have hj0 : (r.den[i]'(by omega))[j]? = some ((r.den[i]'(by omega))[j]'(by omega)) := List.getElem?_eq_getElem (by omega)
        obtain ⟨v, g4, g5⟩ := k4 j _ hj0
        exact ⟨v, g4, keep ((k2 j _ d' hj0 hd').rep g5)⟩
      | @arr l n r hfl hx' =>
        refine ⟨q1, fun c hc => ?_, fun hn => (q3 hn).elim⟩
        obtain ⟨cs, t, g1, g2, gz, g3⟩ := q2 c hc
        have hlen : r.den.length * n = l.length := by
          rw [← hfl]
          have : ∀ es : List (List D), (∀ e ∈ es, e.length = n) → es.flatten.length = es.length * n := fun es => by
            induction es with
            | nil => simp
            | cons e es ih =>
              intro h
              simp only [List.flatten_cons, List.length_append, List.length_cons]
              rw [ih fun e he => h e (by simp [he]), h e (by simp), Nat.add_mul]
              omega
          exact (this _ fun e he => (hx' e he).1).symm
        refine ⟨cs, t, .inl rfl, g1, by rw [e3]; omega, by omega, fun i e he => ?_⟩
        obtain ⟨k1, k2⟩ := hx' e (List.mem_of_getElem? he)
        refine ⟨k1, fun j d hd => ?_⟩
        obtain ⟨v, k3, k4⟩ := g3 (i * n + j) d (by rw [← hfl]; exact flatten_get _ (fun e he => (hx' e he).1) i e he j d hd)
        exact ⟨v, k3, keep (D.dataB_rep (E := E) (E' := E.data) rfl 5 (List.all_eq_true.1 k2 d (List.mem_of_getElem? hd)) k4)⟩
  · replace hx : H'.length ≤ x := hx
    simp only [Env.trunc]
    rw [if_neg (by omega), if_neg (by omega)]
    exact ⟨rfl, rfl⟩
  · rcases hb with hb | ⟨x, _, hx⟩
    · exact hw.good b hb
    · exact (hw.own x b hx).2.1
  · rcases hb with hb | ⟨x, _, hx⟩
    · exact hw.gn b hb
    · exact .inr (hw.own x b hx).1
theorem EntP.rel {B : Base} {fr fr' : Fr} {H H' : List Bk} (hh : B.h0 ≤ H'.length) (h : EntP fr H fr' H') {E : Env} {a : Act} {w : World} (hr : Rel B ⟨fr, H⟩ E a w) : Rel B ⟨fr', H'⟩ ((E.kill H').trunc H'.length) a w := by
  have hb := h.below
  unfold belowAll at hb
  simp only [Bool.and_eq_true] at hb
  obtain ⟨h1, h2⟩ := hr.wr.ent hh h.heap hb.2
  exact ⟨hr.sz, hr.df, fun t => h2 (h.fr.get t) (Fr.get_below hb.1 t) (hr.fr t), h1⟩
/-! A loop. -/
structure BackP {X : Type} (fr : X → Fr) (H : X → List Bk) (I : X → Prop) (μ : X → Nat) (x : X) (fr2 : Fr) (H2 : List Bk) : Prop where
  out : ∃ y, I y ∧ μ y < μ x ∧ EntP fr2 H2 (fr y) (H y)
def loopK {X : Type} (fr : X → Fr) (H : X → List Bk) (I : X → Prop) (μ : X → Nat) (x : X) (K : Exit → Fr → List Bk → Prop) (e : Exit) (fr2 : Fr) (H2 : List Bk) : Prop := match e with
  | .normal => BackP fr H I μ x fr2 H2
  | e => K e fr2 H2
theorem CodeP.loop {P : Program} {cx : Cx} (hT : cx.T.ok P) (hm : P.follows .mixedOrders = true) {c : Code} {fr : Fr} {H : List Bk} {K : Exit → Fr → List Bk → Prop} {X : Type} (fr' : X → Fr) (H' : X → List Bk) (I : X → Prop) (μ : X → Nat) (x0 : X) (hI : I x0) (hh : ∀ x, cx.h0 ≤ (H' x).length)
    (he : EntP fr H (fr' x0) (H' x0)) (round : ∀ x, I x → vc P cx c (fr' x) (H' x) (loopK fr' H' I μ x K)) : CodeP P cx (.loop c) fr H K := by
  refine ⟨fun B E a w hnt hr b k cs => ?_⟩
  have key : ∀ (n : Nat) (x : X), μ x = n → I x → ∀ (E : Env) (a : Act) (w : World), Rel B ⟨fr' x, H' x⟩ E a w →
      ∃ e a' w', (∃ fr'' H'' E', K e fr'' H'' ∧ Rel B ⟨fr'', H''⟩ E' a' w') ∧ Arrives P (lone (b.at a (.code c :: .inLoop c :: k)) cs w) b k cs e a' w' := by
    intro n
    induction n using Nat.strongRecOn with
    | _ n ih =>
      intro x hn hx E a w hr
      obtain ⟨e, a1, w1, ⟨fr2, H2, E2, hq, hr2⟩, harr⟩ := (vc_sound hT hm c (round x hx)).run B E a w hnt hr b (.inLoop c :: k) cs
      cases e with
      | normal =>
        obtain ⟨y, hy, hlt, hent⟩ := hq.out
        obtain ⟨e3, a3, w3, hq3, harr3⟩ := ih (μ y) (hn ▸ hlt) y rfl hy _ a1 w1 (hent.rel (Nat.le_trans hnt.2 (hh y)) hr2)
        exact ⟨e3, a3, w3, hq3, .of_steps (Steps.trans harr (.one step_inLoop)) harr3⟩
      | exit id => exact ⟨_, a1, w1, ⟨fr2, H2, E2, hq, hr2⟩, .pass (x := .inLoop c) rfl (fun _ _ => .inl (by simp)) harr⟩
      | goto l => exact ⟨_, a1, w1, ⟨fr2, H2, E2, hq, hr2⟩, .pass (x := .inLoop c) rfl (fun _ _ => .inl (by simp)) harr⟩
      | ret => exact ⟨_, a1, w1, ⟨fr2, H2, E2, hq, hr2⟩, .pass (x := .inLoop c) rfl (fun _ _ => .inl (by simp)) harr⟩
      | panic ch => exact ⟨_, a1, w1, ⟨fr2, H2, E2, hq, hr2⟩, .pass (x := .inLoop c) rfl (fun _ _ => .inl (by simp)) harr⟩
      | outgrown => exact ⟨_, a1, w1, ⟨fr2, H2, E2, hq, hr2⟩, .pass (x := .inLoop c) rfl (fun _ _ => .inl (by simp)) harr⟩
  obtain ⟨e, a', w', hq, harr⟩ := key _ x0 rfl hI _ a w (he.rel (Nat.le_trans hnt.2 (hh x0)) hr)
  exact ⟨e, a', w', hq, .of_steps (.one step_loop) harr⟩
/-! A function from its first step to its result. -/
inductive StuckX (e : Exit) : Prop
inductive RetP (H : List Bk) (got : List D) (want : List D) : Prop
  | mk (h : SnDs H [] got want) (hd : want.all (D.dataB 8) = true)
/-- what the results are: slots, or cells of the call's own -/
def resD (T : Tab) (fr : Fr) (H : List Bk) : ResultVar → Option D
  | .tmp t => some (fr.get t)
  | .cell x t => match qLoad2 T H t (fr.get x) with
    | .ret d => some d
    | _ => none
def resDs (T : Tab) (fr : Fr) (H : List Bk) : List ResultVar → Option (List D)
  | [] => some []
  | r :: rs => match resD T fr H r with
    | some d => (match resDs T fr H rs with | some l => some (d :: l) | none => none)
    | none => none
def retX (T : Tab) (rs : List ResultVar) (K : List D → List Bk → Prop) (fr : Fr) (H : List Bk) : Prop := match resDs T fr H rs with
  | some l => K l H
  | none => StuckX .ret
def retK (T : Tab) (rs : List ResultVar) (want : List D) (e : Exit) (fr : Fr) (H : List Bk) : Prop := match e with
  | .ret => retX T rs (fun l H => RetP H l want) fr H
  | .normal => retX T rs (fun l H => RetP H l want) fr H
  | e => StuckX e
def retD : List D → D
  | [d] => d
  | l => .tup l
def argFr (n : Nat) : List D → Fr
  | [] => []
  | d :: l => (n, d) :: argFr (n + 1) l
theorem argFr_get : ∀ (l : List D) (n t : Nat), (argFr n l).get t = if n ≤ t then (l[t - n]?).getD .junk else .junk
  | [], n, t => by simp [argFr, Fr.get]
  | d :: l, n, t => by
    simp only [argFr, Fr.get]
    by_cases e : n = t
    · subst e; simp
    · rw [if_neg e, argFr_get l (n + 1) t]
      by_cases h : n ≤ t
      · rw [if_pos (by omega), if_pos h, show t - n = (t - (n + 1)) + 1 by omega, List.getElem?_cons_succ]
      · rw [if_neg (by omega), if_neg h]
def rvB (nt : Nat) : ResultVar → Bool
  | .tmp t => decide (t < nt)
  | .cell x _ => decide (x < nt)
theorem loadVar_of {P : Program} {t : Nat} {u v : Value} {w w' : World} (h : (Instr.loadAt t u).run P w = .ok v w') : (do loadVar t (← asAddr u) : Sem Value).run P w = .ok v w' := by
  unfold Instr.loadAt at h
  cases u with
  | pointer q =>
    cases q with
    | some ad => simpa [Instr.sureAddr, asAddr] using h
    | none => simp [Instr.sureAddr, stuck, Result.andThen] at h
  | _ => simp [Instr.sureAddr, stuck, Result.andThen] at h
theorem resD_rep {P : Program} {T : Tab} (hT : T.ok P) {B : Base} {fr : Fr} {H : List Bk} {E : Env} {a : Act} {w : World} (hr : Rel B ⟨fr, H⟩ E a w) {r : ResultVar} {d : D} (hd : resD T fr H r = some d) :
    ∃ v, (match r with | .tmp t => (pure (a.tmps.getD t undef) : Sem Value) | .cell x t => (do loadVar t (← asAddr (a.tmps.getD x undef)))).run P w = .ok v w ∧ DRep w E d v := by
  cases r with
  | tmp t =>
    simp only [resD, Option.some.injEq] at hd
    subst hd
    exact ⟨_, by simp, hr.fr t⟩
  | cell x t =>
    simp only [resD] at hd
    split at hd
    · next d' hq =>
      cases hd
      have hg := qLoad2_good (P := P) (H := H) (ρ := fr.ev) (o := ⟨none, .load t (.tmp x), 0, "", #[], none⟩) hT rfl
      rw [show fr.ev (.tmp x) = fr.get x from rfl, hq] at hg
      obtain ⟨v, h1, h2⟩ := hg w E a.eval hr.ev hr.wr.wf hr.wr.heap
      refine ⟨v, ?_, h2⟩
      rw [execOp_load rfl] at h1
      have h3 : (Instr.loadAt t (a.eval (.tmp x))).run P w = .ok v w := by
        cases hl : (Instr.loadAt t (a.eval (.tmp x))).run P w with
        | ok v' w' =>
          rw [Sem.run_bind, hl] at h1
          simp only [Result.andThen_ok, Sem.run_pure, Result.ok.injEq, Next.value.injEq] at h1
          rw [h1.1, h1.2]
        | halt hh w' => rw [Sem.run_bind, hl] at h1; simp [Result.andThen] at h1
      exact loadVar_of h3
    · cases hd
theorem resDs_rep {P : Program} {T : Tab} (hT : T.ok P) {B : Base} {fr : Fr} {H : List Bk} {E : Env} {a : Act} {w : World} (hr : Rel B ⟨fr, H⟩ E a w) {f : ResultVar → Sem Value}
    (hf : ∀ r, f r = match r with | .tmp t => (pure (a.tmps.getD t undef) : Sem Value) | .cell x t => (do loadVar t (← asAddr (a.tmps.getD x undef)))) : ∀ (rs : List ResultVar) (ds : List D), resDs T fr H rs = some ds →
    ∃ vs, (rs.mapM f).run P w = .ok vs w ∧ vs.length = ds.length ∧ ∀ (i : Nat) d v, ds[i]? = some d → vs[i]? = some v → DRep w E d v
  | [], ds, h => by
    simp only [resDs, Option.some.injEq] at h
    subst h
    exact ⟨[], by simp, rfl, fun i d v h => by simp at h⟩
  | r :: rs, ds, h => by
    simp only [resDs] at h
    split at h
    · next d hd =>
      split at h
      · next l hl =>
        cases h
        obtain ⟨v, h1, h2⟩ := resD_rep hT hr hd
        obtain ⟨vs, h3, h4, h5⟩ := resDs_rep hT hr hf rs l hl
        refine ⟨v :: vs, ?_, by simp [h4], fun i d' v' h6 h7 => ?_⟩
        · rw [← hf] at h1
          rw [List.mapM_cons]
          simp only [Sem.run_bind, h1, Result.andThen_ok, h3, Sem.run_pure]
        · cases i with
          | zero => simp at h6 h7; subst h6; subst h7; exact h2
          | succ i => exact h5 i d' v' (by simpa using h6) (by simpa using h7)
      · cases h
    · cases h
theorem results_rep {P : Program} {T : Tab} (hT : T.ok P) {fn : Func} {B : Base} {fr : Fr} {H : List Bk} {E : Env} {a : Act} {w : World} (hr : Rel B ⟨fr, H⟩ E a w) {ds : List D} (hd : resDs T fr H fn.results.toList = some ds) :
    ∃ (v : Value) (vs : List Value), (results fn a.tmps).run P w = .ok v w ∧ (if vs.length = 1 then v = vs.headD undef else v = .tuple vs.toArray) ∧ vs.length = ds.length ∧ ∀ (i : Nat) d v, ds[i]? = some d → vs[i]? = some v → DRep w E d v := by
  have hf : ∃ f : ResultVar → Sem Value, (∀ r, f r = match r with | .tmp t => (pure (a.tmps.getD t undef) : Sem Value) | .cell x t => (do loadVar t (← asAddr (a.tmps.getD x undef)))) ∧
      results fn a.tmps = (do let vs ← fn.results.mapM f; pure (if h : vs.size = 1 then vs[0] else .tuple vs)) := ⟨_, fun r => by cases r <;> rfl, rfl⟩
  obtain ⟨f, hf, hres⟩ := hf
  obtain ⟨vs, h1, h2, h3⟩ := resDs_rep hT hr hf _ _ hd
  refine ⟨if vs.length = 1 then vs.headD undef else .tuple vs.toArray, vs, ?_, by split <;> simp_all, h2, h3⟩
  rw [hres, Array.mapM_eq_mapM_toList]
  simp only [Sem.run_bind, Sem.run_map]
  rw [h1]
  simp only [Result.andThen_ok, Sem.run_pure]
  congr 1
  split
  · next h1 =>
    rw [if_pos (by simpa using h1)]
    cases vs with
    | nil => simp at h1
    | cons x r => rfl
  · next h1 =>
    rw [if_neg (by simpa using h1)]
theorem retD_rep {w : World} {E : Env} {v : Value} {vs : List Value} {ds : List D} (h1 : if vs.length = 1 then v = vs.headD undef else v = .tuple vs.toArray) (h2 : vs.length = ds.length) (h3 : ∀ (i : Nat) d v, ds[i]? = some d → vs[i]? = some v → DRep w E d v) : DRep w E (retD ds) v := by
  match ds, vs, h2, h3, h1 with
  | [], [], _, rep, h1 => simp at h1; rw [h1]; exact .tup rfl fun i d v h => by simp at h
  | [d], [u], _, rep, h1 => simp at h1; rw [h1]; exact rep 0 d u rfl rfl
  | d :: d2 :: r, v :: v2 :: r2, hlen, rep, h1 =>
    rw [if_neg (by simp)] at h1
    rw [h1]
    exact .tup (by simpa using hlen.symm) fun i d v h1 h2 => rep i d v h1 (by simpa using h2)
theorem enter_rel {B : Base} {fn : Func} {args : List D} {H : List Bk} {E : Env} {w : World} {vs : Array Value} (hl : args.length ≤ fn.ntmps) (hv : LRep w E args vs) (hw : WRel B H E w) (hB : B.nt = fn.ntmps) (hD : B.df = []) : Rel B ⟨argFr 0 args, H⟩ E { tmps := vs ++ Array.replicate (fn.ntmps - vs.size) undef, defers := [] } w := by
  have hsz : vs.size + (fn.ntmps - vs.size) = fn.ntmps := by have := hv.1; omega
  refine ⟨by simp [hsz, hB], hD.symm, fun t => ?_, hw⟩
  simp only [argFr_get]
  rw [if_pos (Nat.zero_le _), Nat.sub_zero]
  cases ht : args[t]? with
  | none => exact .junk
  | some d =>
    have hlt := (List.getElem?_eq_some_iff.1 ht).1
    have hv1 : vs[t]? = some (vs[t]'(by have := hv.1; omega)) := Array.getElem?_eq_getElem _
    have := hv.2 t d _ ht hv1
    have e : (vs ++ Array.replicate (fn.ntmps - vs.size) undef).getD t undef = vs[t]'(by have := hv.1; omega) := by
      have : t < vs.size := by have := hv.1; omega
      simp [Array.getElem?_append_left this, this]
    rw [e]
    exact this
theorem Pure.intro {P : Program} {f : Nat} {fn : Func} {c : Code} {args want : List D} {T : Tab} (hT : T.ok P) (hm : P.follows .mixedOrders = true) (hf : P.funcs[f]? = some fn) (hb : fn.body = some c) (hn : (fn.name == "runtime.NumGoroutine") = false) {rs : List ResultVar}
    (hr : fn.results.toList = rs) (hl : decide (args.length ≤ fn.ntmps) = true)
    (h : vc P ⟨T, fn.ntmps, 0⟩ c (argFr 0 args) [] (retK T rs want)) : Pure P f args (retD want) := by
  simp only [decide_eq_true_eq] at hl
  refine ⟨⟨fn, c, hf, hb, hn⟩, fun w G vs hL hG hv => ?_⟩
  let B : Base := ⟨w, G, fn.ntmps, 0, fun w E => Laid w E.G, fun _ _ _ _ h1 _ h3 => h3.le h1, fun _ _ _ _ h => h, [], fun _ _ h => h⟩
  have h0 := enter_rel (B := B) (fn := fn) hl hv (H := []) ⟨fun x y c h => by simp [Env.of] at h, fun x c h => by simp [Env.of] at h, fun _ _ => rfl, fun x b h => by simp at h, fun _ _ => ⟨rfl, rfl⟩, hG, fun _ h => h, fun _ h => .inl h, Below.refl _ _, hL⟩ rfl rfl
  refine calls_of_wp hf hb (Code.wp_mono (fun e a' w' ⟨fr', H', E', q1, q2⟩ => ?_) ((vc_sound hT hm c h).run B _ _ _ ⟨rfl, Nat.le_refl _⟩ h0))
  have fin : retX T rs (fun l H => RetP H l want) fr' H' → a'.defers = [] ∧ ∃ v, (results fn a'.tmps).run P w' = .ok v w' ∧ ∃ (v' : Value) (G' : Nat → Prop), Ending.returned v = .returned v' ∧ Below w.heap.size w w' ∧ (∀ b, G b → G' b) ∧ (∀ b, G' b → G b ∨ w.heap.size ≤ b) ∧ (∀ b, G' b → b < w'.heap.size) ∧ DRep w' (Env.of G') (retD want) v' := by
    intro hs
    unfold retX at hs
    split at hs
    · next ds hds =>
      obtain ⟨hs, hdat⟩ := hs
      have hwr := q2.wr
      obtain ⟨v, us, g1, g2, g3, g4⟩ := results_rep hT (fn := fn) q2 (by rw [hr]; exact hds)
      obtain ⟨k1, k2⟩ := hs.get
      refine ⟨q2.df, v, g1, v, E'.lent, rfl, hwr.bel, fun b hb => .inl (hwr.g0 b hb), fun b hb => ?_, hwr.lentGood, ?_⟩
      · rcases hb with hb | ⟨x, hx⟩
        · exact hwr.gn b hb
        · exact .inr (hwr.own x b hx).1
      · refine retD_rep g2 (by omega) fun i d u h1 h2 => ?_
        have hlt := (List.getElem?_eq_some_iff.1 h1).1
        have h3 : ds[i]? = some (ds[i]'(by omega)) := List.getElem?_eq_getElem (by omega)
        exact (k2 i _ d h3 h1).lent hwr.heap (g4 i _ u h3 h2) (List.all_eq_true.1 hdat d (List.mem_of_getElem? h1))
    · cases hs
  cases e with
  | ret => exact fin q1
  | normal => exact fin q1
  | exit i => cases q1
  | goto l => cases q1
  | panic ch => cases q1
  | outgrown => cases q1
/-! A call that is walked on the spot: the callee sees the caller's own blocks. -/
def retI (T : Tab) (rs : List ResultVar) (K : D → List Bk → Prop) (e : Exit) (fr : Fr) (H : List Bk) : Prop := match e with
  | .ret => retX T rs (fun l H => K (retD l) H) fr H
  | .normal => retX T rs (fun l H => K (retD l) H) fr H
  | e => StuckX e
theorem CallP.inl {P : Program} {f : Nat} {fn : Func} {c : Code} {args : List D} {H : List Bk} {K : D → List Bk → Prop} {T : Tab} (hT : T.ok P) (hm : P.follows .mixedOrders = true) (hf : P.funcs[f]? = some fn) (hb : fn.body = some c) (hn : (fn.name == "runtime.NumGoroutine") = false) {rs : List ResultVar}
    (hr : fn.results.toList = rs) (hl : decide (args.length ≤ fn.ntmps) = true)
    (h : vc P ⟨T, fn.ntmps, H.length⟩ c (argFr 0 args) H (retI T rs K)) : CallP P f args H K := by
  simp only [decide_eq_true_eq] at hl
  refine ⟨⟨fn, c, hf, hb, hn⟩, fun B w E vs hh hv hw => ?_⟩
  let B2 : Base := ⟨B.w0, B.G0, fn.ntmps, B.h0, B.Φ, B.stab, B.cut, [], B.gl⟩
  have h0 := enter_rel (B := B2) (fn := fn) hl hv (H := H) ⟨hw.inj, hw.own, hw.wf, hw.heap, hw.out, hw.good, hw.g0, hw.gn, hw.bel, hw.phi⟩ rfl rfl
  refine calls_of_wp hf hb (Code.wp_mono (fun e a' w' ⟨fr', H', E', q1, q2⟩ => ?_) ((vc_sound hT hm c h).run B2 _ _ _ ⟨rfl, hh⟩ h0))
  have fin : retX T rs (fun l H => K (retD l) H) fr' H' → a'.defers = [] ∧ ∃ v, (results fn a'.tmps).run P w' = .ok v w' ∧ ∃ (v' : Value) (E2 : Env) (d : D) (H2 : List Bk), Ending.returned v = .returned v' ∧ WRel B H2 E2 w' ∧ DRep w' E2 d v' ∧ K d H2 := by
    intro hK
    unfold retX at hK
    split at hK
    · next ds hds =>
      have hwr := q2.wr
      obtain ⟨v, us, g1, g2, g3, g4⟩ := results_rep hT (fn := fn) q2 (by rw [hr]; exact hds)
      exact ⟨q2.df, v, g1, v, E', _, H', rfl, ⟨hwr.inj, hwr.own, hwr.wf, hwr.heap, hwr.out, hwr.good, hwr.g0, hwr.gn, hwr.bel, hwr.phi⟩, retD_rep g2 g3 g4, hK⟩
    · cases hK
  cases e with
  | ret => exact fin q1
  | normal => exact fin q1
  | exit i => cases q1
  | goto l => cases q1
  | panic ch => cases q1
  | outgrown => cases q1
/-- behind a call or ahead of it, own blocks are given up, or said in other words -/
structure CallEnt (h0 : Nat) (H : List Bk) (got : D) (K : D → List Bk → Prop) (want : D) (H' : List Bk) : Prop where
  d : SnD H H' got want
  heap : HEnt H H'
  len : h0 ≤ H'.length
  below : (want.undr 8 H'.length && belowH H') = true
  k : K want H'
theorem CallP.post {P : Program} {f : Nat} {args : List D} {H : List Bk} {K : D → List Bk → Prop} (h : CallP P f args H fun d H1 => ∃ want H', CallEnt H.length H1 d K want H') : CallP P f args H K := by
  refine ⟨h.here, fun B w E vs hh hv hw => (h.run B w E vs hh hv hw).mono ?_⟩
  rintro e w' ⟨v, E', d, H1, rfl, q1, q2, want, H', q3⟩
  have hb := q3.below
  simp only [Bool.and_eq_true] at hb
  obtain ⟨k1, k2⟩ := q1.ent (Nat.le_trans hh q3.len) q3.heap hb.2
  exact ⟨v, _, want, H', rfl, k1, k2 q3.d hb.1 q2, q3.k⟩
theorem CallP.pre {P : Program} {f : Nat} {args : List D} {H : List Bk} {K : D → List Bk → Prop} (args' : List D) (H' : List Bk) (hs : SnDs H H' args args') (he : HEnt H H') (hlen : H'.length = H.length) (hb : (args'.all (D.undr 8 H'.length) && belowH H') = true) (h : CallP P f args' H' K) : CallP P f args H K := by
  refine ⟨h.here, fun B w E vs hh hv hw => ?_⟩
  simp only [Bool.and_eq_true] at hb
  obtain ⟨k1, k2⟩ := hw.ent (H' := H') (by omega) he hb.2
  obtain ⟨h1, h2⟩ := hs.get
  refine h.run B w _ vs (by omega) ⟨by rw [← h1]; exact hv.1, fun i x v hx hv' => ?_⟩ k1
  have hlt := (List.getElem?_eq_some_iff.1 hx).1
  have hx0 : args[i]? = some (args[i]'(by omega)) := List.getElem?_eq_getElem (by omega)
  exact k2 (h2 i _ x hx0 hx) (List.all_eq_true.1 hb.1 x (List.mem_of_getElem? hx)) (hv.2 i _ v hx0 hv')
theorem CodeP.pre {P : Program} {cx : Cx} {c : Code} {fr : Fr} {H : List Bk} {K : Exit → Fr → List Bk → Prop} (fr' : Fr) (H' : List Bk) (he : EntP fr H fr' H') (hh : cx.h0 ≤ H'.length) (h : CodeP P cx c fr' H' K) : CodeP P cx c fr H K :=
  ⟨fun B E a w hnt hr => h.run B _ a w hnt (he.rel (Nat.le_trans hnt.2 hh) hr)⟩
/-- own blocks are given up in the midst of a region -/
theorem OpsP.pre {P : Program} {cx : Cx} {ops : Array Oper} {os : List Oper} {fr : Fr} {H : List Bk} {K : Fr → List Bk → Prop} (hT : cx.T.ok P) (fr' : Fr) (H' : List Bk) (he : EntP fr H fr' H') (hh : cx.h0 ≤ H'.length) (h : vops P cx ops os fr' H' K) : OpsP P cx ops os fr H K :=
  ⟨fun B E a w hnt hh0 hr Q hQ => vops_sound hT hnt hh0 os h (he.rel (Nat.le_trans hh0 hh) hr) hQ⟩
/-! A deferred call of a function with what it captured. -/
structure DefP (P : Program) (f : Nat) (args : List D) (H : List Bk) (K : D → List Bk → Prop) : Prop where
  here : Here P f
  run : ∀ (B : Base) (w : World) (E : Env) (vs : Array Value), B.h0 ≤ H.length → LRep w E args vs → WRel B H E w →
    CallsD P f vs .returning w fun e u' w' => u' = .returning ∧ ∃ v E' d H', e = .returned v ∧ WRel B H' E' w' ∧ DRep w' E' d v ∧ K d H'
theorem DefP.inl {P : Program} {f : Nat} {fn : Func} {c : Code} {args : List D} {H : List Bk} {K : D → List Bk → Prop} {T : Tab} (hT : T.ok P) (hm : P.follows .mixedOrders = true) (hf : P.funcs[f]? = some fn) (hb : fn.body = some c) (hn : (fn.name == "runtime.NumGoroutine") = false) {rs : List ResultVar}
    (hr : fn.results.toList = rs) (hl : decide (args.length ≤ fn.ntmps) = true)
    (h : vc P ⟨T, fn.ntmps, H.length⟩ c (argFr 0 args) H (retI T rs K)) : DefP P f args H K := by
  simp only [decide_eq_true_eq] at hl
  refine ⟨⟨fn, c, hf, hb, hn⟩, fun B w E vs hh hv hw => ?_⟩
  let B2 : Base := ⟨B.w0, B.G0, fn.ntmps, B.h0, B.Φ, B.stab, B.cut, [], B.gl⟩
  have h0 := enter_rel (B := B2) (fn := fn) hl hv (H := H) ⟨hw.inj, hw.own, hw.wf, hw.heap, hw.out, hw.good, hw.g0, hw.gn, hw.bel, hw.phi⟩ rfl rfl
  refine callsD_of_wp hf hb (Code.wp_mono (fun e a' w' ⟨fr', H', E', q1, q2⟩ => ?_) ((vc_sound hT hm c h).run B2 _ _ _ ⟨rfl, hh⟩ h0))
  have fin : retX T rs (fun l H => K (retD l) H) fr' H' → a'.defers = [] ∧ ∃ v, (results fn a'.tmps).run P w' = .ok v w' ∧ ∃ (v' : Value) (E2 : Env) (d : D) (H2 : List Bk), Ending.returned v = .returned v' ∧ WRel B H2 E2 w' ∧ DRep w' E2 d v' ∧ K d H2 := by
    intro hK
    unfold retX at hK
    split at hK
    · next ds hds =>
      have hwr := q2.wr
      obtain ⟨v, us, g1, g2, g3, g4⟩ := results_rep hT (fn := fn) q2 (by rw [hr]; exact hds)
      exact ⟨q2.df, v, g1, v, E', _, H', rfl, ⟨hwr.inj, hwr.own, hwr.wf, hwr.heap, hwr.out, hwr.good, hwr.g0, hwr.gn, hwr.bel, hwr.phi⟩, retD_rep g2 g3 g4, hK⟩
    · cases hK
  cases e with
  | ret => exact fin q1
  | normal => exact fin q1
  | exit i => cases q1
  | goto l => cases q1
  | panic ch => cases q1
  | outgrown => cases q1
/-- the end of a function with one deferred call -/
def retKD (P : Program) (T : Tab) (rs : List ResultVar) (want : List D) (n : Nat) (caps : List D) (e : Exit) (fr : Fr) (H : List Bk) : Prop := match e with
  | .ret => if fr.all (fun p => p.2.undr 8 H.length) && caps.all (D.undr 8 H.length) then DefP P n caps H fun _ H2 => retX T rs (fun l H => RetP H l want) fr H2 else StuckX .ret
  | .normal => if fr.all (fun p => p.2.undr 8 H.length) && caps.all (D.undr 8 H.length) then DefP P n caps H fun _ H2 => retX T rs (fun l H => RetP H l want) fr H2 else StuckX .ret
  | e => StuckX e
end Go.Proofs.YtffmgfehaahlhaaDoor
namespace Go.Proofs.YtffmgfehaahlhaaDoor
open Go.RowKit

/-! A slice that is nil becomes a row of the call's own, with nothing in it. -/
theorem WRel.virtr {B : Base} {H : List Bk} {E : Env} {w : World} (hw : WRel B H E w) (e n : Nat) : WRel B (H ++ [.row e n 1 (.lits [])]) (E.upd H.length none 1 0) w ∧ E.le w w (E.upd H.length none 1 0) ∧ E.own (E.upd H.length none 1 0) := by
  have hκ := (hw.out H.length (Nat.le_refl _)).2
  obtain ⟨r1, r2, r3⟩ := (hw.ext [.dead]).redo (w' := w) (x := H.length) (k := 1) (z := 0) (c := none) (b' := .row e n 1 (.lits [])) (by simp) (by omega) (fun _ _ _ => rfl) (Nat.le_refl _) hw.bel (fun d hd => by cases hd) rfl (fun _ _ d hd => by cases hd) (fun _ => rfl)
  have hset : (H ++ [Bk.dead]).set H.length (.row e n 1 (.lits [])) = H ++ [.row e n 1 (.lits [])] := by
    rw [List.set_append_right _ _ (Nat.le_refl _)]; simp
  rw [hset] at r1
  exact ⟨r1, r2, r3⟩
theorem osl_virt {H : List Bk} {E : Env} {w : World} {n : Nat} {v : Value} (h : DRep w E .nils v) : DRep w (E.upd H.length none 1 0) (.osl n H.length 1 (.lit true) (.lit 0) (.lit 0)) v := by
  cases h
  exact .osln (by simp [Env.upd]) (by simp [Env.upd]) rfl rfl rfl
theorem CodeP.virt {P : Program} {cx : Cx} {c : Code} {fr : Fr} {H : List Bk} {K : Exit → Fr → List Bk → Prop} (t e n : Nat) (ht : fr.get t = .nils) (h : CodeP P cx c (fr.set t (.osl n H.length 1 (.lit true) (.lit 0) (.lit 0))) (H ++ [.row e n 1 (.lits [])]) K) : CodeP P cx c fr H K := by
  refine ⟨fun B E a w hnt hr => ?_⟩
  obtain ⟨r1, r2, r3⟩ := hr.wr.virtr e n
  refine h.run B _ a w hnt ⟨hr.sz, hr.df, fun k => ?_, r1⟩
  show DRep w _ (Fr.get (Fr.set fr t _) k) _
  rw [Fr.get_set]
  have hk := hr.fr k
  by_cases q : t = k
  · subst q
    rw [if_pos rfl]
    simp only [ht] at hk
    exact osl_virt hk
  · rw [if_neg q]
    exact hk.move r2 r3
theorem CodeP.virtc {P : Program} {cx : Cx} {c : Code} {fr : Fr} {H : List Bk} {K : Exit → Fr → List Bk → Prop} (b i e n : Nat) (l : List D) (hb : H[b]? = some (.cells l)) (hi : l[i]? = some .nils)
    (h : CodeP P cx c fr (H.set b (.cells (l.set i (.osl n H.length 1 (.lit true) (.lit 0) (.lit 0)))) ++ [.row e n 1 (.lits [])]) K) : CodeP P cx c fr H K := by
  refine ⟨fun B E a w hnt hr => ?_⟩
  obtain ⟨r1, r2, r3⟩ := hr.wr.virtr e n
  have hlt : b < H.length := (List.getElem?_eq_some_iff.1 hb).1
  refine h.run B _ a w hnt ⟨hr.sz, hr.df, fun k => (hr.fr k).move r2 r3, ⟨r1.inj, r1.own, r1.wf, fun x bk hx => ?_, fun x hx => r1.out x (by simpa using hx), r1.good, r1.g0, r1.gn, r1.bel, r1.phi⟩⟩
  by_cases q : x = b
  · subst q
    rw [List.getElem?_append_left (by simpa using hlt), List.getElem?_set_self hlt] at hx
    cases hx
    rcases r1.heap x (.cells l) (by rw [List.getElem?_append_left hlt]; exact hb) with q | ⟨q1, q2, q3⟩
    · exact .inl q
    · refine .inr ⟨q1, fun c' hc' => ?_, fun hn => (q3 hn).elim⟩
      obtain ⟨cs, t, g1, g2, gz, g3⟩ := q2 c' hc'
      have hne : ¬ x = H.length := by omega
      have hs0 : E.σ x = some c' := by simpa [Env.upd, hne] using hc'
      refine ⟨cs, t, g1, by simpa using g2, by simpa using gz, fun j d hd => ?_⟩
      rw [List.getElem?_set] at hd
      by_cases hj : i = j
      · subst hj
        simp only [if_true] at hd
        split at hd
        · cases hd
          rcases hr.wr.heap x (.cells l) hb with z | ⟨_, z, _⟩
          · rw [z.2] at hs0; cases hs0
          · obtain ⟨cs2, t2, k1, _, _, k3⟩ := z c' hs0
            obtain ⟨v, k4, k5⟩ := k3 i _ hi
            rw [g1] at k1
            cases k1
            exact ⟨v, k4, osl_virt k5⟩
        · cases hd
      · rw [if_neg hj] at hd
        exact g3 j d hd
  · refine r1.heap x bk ?_
    rcases Nat.lt_or_ge x H.length with z | z
    · rw [List.getElem?_append_left (by simpa using z), List.getElem?_set_ne (fun e => q e.symm)] at hx
      rw [List.getElem?_append_left z]
      exact hx
    · rw [List.getElem?_append_right (by simpa using z)] at hx
      rw [List.getElem?_append_right z]
      simpa using hx
/-! Conveniences: a loop whose head keeps what its body does not write; what the VCs say in plain numbers. -/
def writesL : List Oper → List Nat
  | [] => []
  | o :: os => match o.dst with | some t => t :: writesL os | none => writesL os
def writesC : Code → List Nat
  | .region _ ops _ => writesL ops.toList
  | .seq a b => writesC a ++ writesC b
  | .cond _ a b => writesC a ++ writesC b
  | .block _ c | .loop c | .scope c => writesC c
  | _ => []
def hasN : List Nat → Nat → Bool
  | [], _ => false
  | a :: l, n => if a = n then true else hasN l n
def keep (ws : List Nat) : Fr → Fr
  | [] => []
  | (t, d) :: r => if hasN ws t then keep ws r else (t, d) :: keep ws r
theorem CodeP.loopm {P : Program} {cx : Cx} (hT : cx.T.ok P) (hm : P.follows .mixedOrders = true) {c : Code} {fr : Fr} {H : List Bk} {K : Exit → Fr → List Bk → Prop} {X : Type} (mods : X → Fr) (heap : X → List Bk) (I : X → Prop) (μ : X → Nat) (x0 : X) (hI : I x0) (hh : ∀ x, cx.h0 ≤ (heap x).length)
    (he : EntP fr H (mods x0 ++ keep (writesC c) fr) (heap x0)) (round : ∀ x, I x → vc P cx c (mods x ++ keep (writesC c) fr) (heap x) (loopK (fun x => mods x ++ keep (writesC c) fr) heap I μ x K)) : CodeP P cx (.loop c) fr H K :=
  CodeP.loop hT hm _ heap I μ x0 hI hh he round
/-- the blocks stay as they are -/
theorem CodeP.loopc {P : Program} {cx : Cx} (hT : cx.T.ok P) (hm : P.follows .mixedOrders = true) {c : Code} {fr : Fr} {H : List Bk} {K : Exit → Fr → List Bk → Prop} {X : Type} (mods : X → Fr) (I : X → Prop) (μ : X → Nat) (x0 : X) (hI : I x0) (hh : cx.h0 ≤ H.length)
    (he : FrEnt H H fr (mods x0 ++ keep (writesC c) fr)) (hb : belowAll (mods x0 ++ keep (writesC c) fr) H = true) (round : ∀ x, I x → vc P cx c (mods x ++ keep (writesC c) fr) H (loopK (fun x => mods x ++ keep (writesC c) fr) (fun _ => H) I μ x K)) : CodeP P cx (.loop c) fr H K :=
  CodeP.loop hT hm _ (fun _ => H) I μ x0 hI (fun _ => hh) ⟨he, HEnt.refl H, hb⟩ round
theorem BackP.intro {X : Type} {fr : X → Fr} {H : X → List Bk} {I : X → Prop} {μ : X → Nat} {x : X} {fr2 : Fr} {H2 : List Bk} (y : X) (hy : I y) (hm : μ y < μ x) (he : EntP fr2 H2 (fr y) (H y)) : BackP fr H I μ x fr2 H2 := ⟨⟨y, hy, hm, he⟩⟩
/-- a loop that is walked round by round: for states without letters -/
def vcR (P : Program) (cx : Cx) (c : Code) : Nat → Fr → List Bk → (Exit → Fr → List Bk → Prop) → Prop
  | 0, _, _, _ => StuckC .skip
  | n + 1, fr, H, K => vc P cx c fr H fun e fr H => match e with
    | .normal => vcR P cx c n fr H K
    | e => K e fr H
theorem CodeP.rounds {P : Program} {cx : Cx} (hT : cx.T.ok P) (hm : P.follows .mixedOrders = true) {c : Code} : ∀ (n : Nat) {fr : Fr} {H : List Bk} {K : Exit → Fr → List Bk → Prop}, vcR P cx c n fr H K → CodeP P cx (.loop c) fr H K := by
  have key : ∀ (n : Nat) {fr : Fr} {H : List Bk} {K : Exit → Fr → List Bk → Prop}, vcR P cx c n fr H K → ∀ (B : Base) (E : Env) (a : Act) (w : World), cx.nt = B.nt ∧ B.h0 ≤ cx.h0 → Rel B ⟨fr, H⟩ E a w →
      Code.rounds P c (fun e a' w' => ∃ fr' H' E', K e fr' H' ∧ Rel B ⟨fr', H'⟩ E' a' w') n a w := by
    intro n
    induction n with
    | zero => intro fr H K h; cases h
    | succ n ih =>
      intro fr H K h B E a w hnt hr
      refine Code.wp_mono (fun e a' w' ⟨fr2, H2, E2, q1, q2⟩ => ?_) ((vc_sound hT hm c h).run B E a w hnt hr)
      cases e <;> first | exact ih q1 B E2 a' w' hnt q2 | exact ⟨fr2, H2, E2, q1, q2⟩
  exact fun n {fr H K} h => ⟨fun B E a w hnt hr => wp_loop_rounds n (key n h B E a w hnt hr)⟩
/-- the same function at arguments that say more, and what it gives in other words -/
theorem Pure.args {P : Program} {f : Nat} {args args' : List D} {d : D} (hs : DsEq args args') (h : Pure P f args' d) : Pure P f args d := by
  refine ⟨h.1, fun w G vs hL hG hv => h.2 w G vs hL hG ?_⟩
  obtain ⟨h1, h2⟩ := hs.get
  refine ⟨by rw [← h1]; exact hv.1, fun i d v hd hv' => ?_⟩
  have hlt := (List.getElem?_eq_some_iff.1 hd).1
  have h3 : args[i]? = some (args[i]'(by omega)) := List.getElem?_eq_getElem (by omega)
  exact (h2 i _ d h3 hd).rep (hv.2 i _ v h3 hv')
theorem Pure.res {P : Program} {f : Nat} {args : List D} {d d' : D} (h : Pure P f args d) (he : DEq d d') : Pure P f args d' := by
  refine ⟨h.1, fun w G vs hL hG hv => (h.2 w G vs hL hG hv).mono ?_⟩
  rintro e w' ⟨v, G', q1, q2, q3, q4, q5, q6⟩
  exact ⟨v, G', q1, q2, q3, q4, q5, he.rep q6⟩
theorem wrap_add1 {k : Nat} (h : k < 9223372036854775807) : IntKind.i64.wrap ((k : Int) + 1) = ((k + 1 : Nat) : Int) := by
  rw [IntKind.wrap_i64]; omega
theorem DEq.inc {k : Nat} (h : k < 9223372036854775807) : DEq (.int .i64 (.bin .add .i64 (.nat k) (.lit 1))) (.int .i64 (.nat (k + 1))) := .int (wrap_add1 h)
theorem SnD.refl {H H' : List Bk} (d : D) : SnD H H' d d := .eq (.refl d)
theorem SnD.nat0 {H H' : List Bk} : SnD H H' (.int .i64 (.lit 0)) (.int .i64 (.nat 0)) := .eq (.int rfl)
theorem SnD.inc {H H' : List Bk} {k : Nat} (h : k < 9223372036854775807) : SnD H H' (.int .i64 (.bin .add .i64 (.nat k) (.lit 1))) (.int .i64 (.nat (k + 1))) := .eq (DEq.inc h)
theorem DEq.nat0 : DEq (.int .i64 (.lit 0)) (.int .i64 (.nat 0)) := .int rfl
section
variable {a b : IE} {c d : BE}
theorem BE.lss_t : ((BE.cmp .lss a b).den = true) = (a.den < b.den) := by simp [BE.den, cmpDen]
theorem BE.lss_f : ((BE.cmp .lss a b).den = false) = (b.den ≤ a.den) := by simp [BE.den, cmpDen]
theorem BE.leq_t : ((BE.cmp .leq a b).den = true) = (a.den ≤ b.den) := by simp [BE.den, cmpDen]
theorem BE.leq_f : ((BE.cmp .leq a b).den = false) = (b.den < a.den) := by simp [BE.den, cmpDen]
theorem BE.gtr_t : ((BE.cmp .gtr a b).den = true) = (b.den < a.den) := by simp [BE.den, cmpDen]
theorem BE.gtr_f : ((BE.cmp .gtr a b).den = false) = (a.den ≤ b.den) := by simp [BE.den, cmpDen]
theorem BE.geq_t : ((BE.cmp .geq a b).den = true) = (b.den ≤ a.den) := by simp [BE.den, cmpDen]
theorem BE.geq_f : ((BE.cmp .geq a b).den = false) = (a.den < b.den) := by simp [BE.den, cmpDen]
theorem BE.eql_t : ((BE.cmp .eql a b).den = true) = (a.den = b.den) := by simp [BE.den, cmpDen]
theorem BE.eql_f : ((BE.cmp .eql a b).den = false) = (¬ a.den = b.den) := by simp [BE.den, cmpDen]
theorem BE.neq_t : ((BE.cmp .neq a b).den = true) = (¬ a.den = b.den) := by simp [BE.den, cmpDen]
theorem BE.neq_f : ((BE.cmp .neq a b).den = false) = (a.den = b.den) := by simp [BE.den, cmpDen]
theorem BE.not_t : ((BE.not c).den = true) = (c.den = false) := by simp [BE.den]
theorem BE.not_f : ((BE.not c).den = false) = (c.den = true) := by simp [BE.den]
theorem BE.seq_t {s t : ByteArray} : ((BE.seq s t).den = true) = (s = t) := by simp [BE.den]
theorem BE.seq_f {s t : ByteArray} : ((BE.seq s t).den = false) = (¬ s = t) := by simp [BE.den]
theorem BE.beq_t : ((BE.beq c d).den = true) = (c.den = d.den) := by simp [BE.den]
theorem BE.beq_f : ((BE.beq c d).den = false) = (¬ c.den = d.den) := by simp [BE.den]
theorem BE.var_d {x : Bool} : (BE.var x).den = x := rfl
theorem BE.lit_d {x : Bool} : (BE.lit x).den = x := rfl
theorem IE.var_d {x : Int} : (IE.var x).den = x := rfl
theorem IE.lit_d {x : Int} : (IE.lit x).den = x := rfl
theorem IE.nat_d {x : Nat} : (IE.nat x).den = x := rfl
theorem IE.len_d {α : Type} {l : List α} : (IE.len l).den = l.length := rfl
theorem IE.sum_d : (IE.sum a b).den = a.den + b.den := rfl
end
end Go.Proofs.YtffmgfehaahlhaaDoor
namespace Go.Proofs.YtffmgfehaahlhaaDoor
open Go.RowKit

/-! A function that defers one call of a closure, and ends. -/
theorem LRep.move {w w' : World} {E E' : Env} {l : List D} {vs : Array Value} (h : LRep w E l vs) (h1 : E.le w w' E') (h2 : E.own E') : LRep w' E' l vs := ⟨h.1, fun i d v hd hv => (h.2 i d v hd hv).move h1 h2⟩
theorem LRep.trunc {w : World} {E : Env} {l : List D} {vs : Array Value} {n : Nat} (hl : l.all (D.undr 8 n) = true) (h : LRep w E l vs) : LRep w (E.trunc n) l vs :=
  ⟨h.1, fun i d v hd hv => DRep.trunc 8 (List.all_eq_true.1 hl d (List.mem_of_getElem? hd)) (h.2 i d v hd hv)⟩
theorem undr_all_mono {l : List D} {n m : Nat} (hnm : n ≤ m) (hl : l.all (D.undr 8 n) = true) : l.all (D.undr 8 m) = true := List.all_eq_true.2 fun d hd => D.undr_mono 8 hnm (List.all_eq_true.1 hl d hd)
theorem Pure.introD {P : Program} {f : Nat} {fn : Func} {c1 c3 : Code} {rid : Nat} {o1 o2 : Oper} {t n : Nat} {xs : List Operand} {ats : Array TypeId} {args want : List D} {T : Tab} (hT : T.ok P) (hm : P.follows .mixedOrders = true) (hf : P.funcs[f]? = some fn) (hb : fn.body = some (c1.seq ((Code.region rid ⟨[o1, o2]⟩ false).seq c3)))
    (hn : (fn.name == "runtime.NumGoroutine") = false) {rs : List ResultVar} (hr : fn.results.toList = rs) (hl : decide (args.length ≤ fn.ntmps) = true)
    (g1 : o1.guard = none) (h1 : o1.op = .makeFunc (.func n) ⟨[]⟩ ⟨xs⟩) (d1 : o1.dst = some t) (g2 : o2.guard = none) (d2 : o2.dst = none) (h2 : o2.op = .defer ⟨.value (.tmp t), ⟨[]⟩, ats⟩) (ht : decide (t < fn.ntmps) = true)
    (h : vc P ⟨T, fn.ntmps, 0⟩ c1 (argFr 0 args) [] fun e fr H => match e with
      | .normal => ∃ fr1 H1, EntP fr H fr1 H1 ∧ (xs.map fr1.ev).all (D.undr 8 H1.length) = true ∧ vc P ⟨T, fn.ntmps, H1.length⟩ c3 (fr1.set t (.fn (.func n) [] (xs.map fr1.ev))) H1 (retKD P T rs want n (xs.map fr1.ev))
      | e => StuckX e) : Pure P f args (retD want) := by
  simp only [decide_eq_true_eq] at hl ht
  refine ⟨⟨fn, _, hf, hb, hn⟩, fun w G vs hL hG hv => ?_⟩
  let B : Base := ⟨w, G, fn.ntmps, 0, fun w E => Laid w E.G, fun _ _ _ _ h1 _ h3 => h3.le h1, fun _ _ _ _ h => h, [], fun _ _ h => h⟩
  have h0 := enter_rel (B := B) (fn := fn) hl hv (H := []) ⟨fun x y c h => by simp [Env.of] at h, fun x c h => by simp [Env.of] at h, fun _ _ => rfl, fun x b h => by simp at h, fun _ _ => ⟨rfl, rfl⟩, hG, fun _ h => h, fun _ h => .inl h, Below.refl _ _, hL⟩ rfl rfl
  refine calls_of_wp_defers hf hb (wp_seq (Code.wp_mono (fun e a' w' ⟨fr', H', E', q1, q2⟩ => ?_) ((vc_sound hT hm c1 h).run B _ _ _ ⟨rfl, Nat.le_refl _⟩ h0)))
  cases e with
  | normal =>
    obtain ⟨fr1, H1, qe, k1, k2⟩ := q1
    obtain ⟨E1, q3⟩ : ∃ E1, Rel B ⟨fr1, H1⟩ E1 a' w' := ⟨_, qe.rel (Nat.zero_le _) q2⟩
    clear qe q2 fr' H' E'
    have q2 := q3
    clear q3
    obtain ⟨fr', rfl⟩ : ∃ x, x = fr1 := ⟨_, rfl⟩
    obtain ⟨H', rfl⟩ : ∃ x, x = H1 := ⟨_, rfl⟩
    obtain ⟨E', rfl⟩ : ∃ x, x = E1 := ⟨_, rfl⟩
    refine wp_seq (wp_region_list ?_)
    generalize hcaps : xs.map fr'.ev = caps at k1 k2
    obtain ⟨cv, hcv⟩ : ∃ cv : Array Value, cv = (xs.map a'.eval).toArray := ⟨_, rfl⟩
    have hlr : LRep w' E' caps cv := by
      subst hcaps hcv
      refine ⟨by simp, fun i d v hd hv' => ?_⟩
      simp only [List.getElem?_map, List.getElem?_toArray, Option.map_eq_some_iff] at hd hv'
      obtain ⟨x, hx, rfl⟩ := hd
      obtain ⟨y, hy, rfl⟩ := hv'
      rw [hx] at hy
      cases hy
      exact q2.ev x
    have hfv : DRep w' E' (.fn (.func n) [] caps) (.func (.func n) #[] cv) := .fn (by simp) hlr.1 (fun i d v h => by simp at h) hlr.2
    have hp := q2.put q2.wr (Env.le.refl _ _) (Env.own.refl _) (dst := some t) (by simp [dstB, ht, B]) hfv
    have e1 : (execOp a'.eval o1).run P w' = .ok (.value (.func (.func n) #[] cv)) w' := by
      unfold execOp; rw [h1, hcv]; simp [Instr.makeFunc]
    let d0 : Deferred := ⟨.fn (.func n) cv, #[]⟩
    have e2 : (execOp (a'.put (some t) (.func (.func n) #[] cv)).eval o2).run P w' = .ok (.defer d0) w' := by
      unfold execOp
      rw [h2]
      have : (a'.put (some t) (.func (.func n) #[] cv)).eval (.tmp t) = .func (.func n) #[] cv := eval_put_same (by rw [q2.sz]; exact ht)
      simp [resolve, this, Deferred.ofValue]
      rfl
    have hnd : (a'.put (some t) (.func (.func n) #[] cv)).defers = [] := put_defers'.trans q2.df
    simp only [wpList, Region.wanted, g1, g2, if_true]
    refine .inl ?_
    unfold Oper.wp
    rw [e1, Oper.upon_value, d1]
    refine .inl ?_
    rw [e2, Oper.upon_defer, d2, hnd]
    generalize ha2 : a'.put (some t) (.func (.func n) #[] cv) = a2 at *
    let B2 : Base := ⟨w, G, fn.ntmps, H'.length, fun w E => Laid w E.G ∧ LRep w E caps cv, fun _ _ _ _ h1 h2 h3 => ⟨h3.1.le h1, h3.2.move h1 h2⟩, fun _ _ _ hn h3 => ⟨h3.1, h3.2.trunc (undr_all_mono hn k1)⟩, [d0], fun _ _ h => h.1⟩
    have hr2 : Rel B2 ⟨fr'.set t (.fn (.func n) [] caps), H'⟩ E' { tmps := a2.tmps, defers := [d0] } w' := ⟨hp.sz, rfl, hp.fr, ⟨hp.wr.inj, hp.wr.own, hp.wr.wf, hp.wr.heap, hp.wr.out, hp.wr.good, hp.wr.g0, hp.wr.gn, hp.wr.bel, hp.wr.laid, hlr⟩⟩
    show c3.wp P _ { tmps := a2.tmps, defers := [d0] } w'
    refine Code.wp_mono (fun e a3 w3 ⟨fr3, H3, E3, q3, q4⟩ => ?_) ((vc_sound hT hm c3 k2).run B2 _ _ _ ⟨rfl, Nat.le_refl _⟩ hr2)
    have hd3 : a3.defers = [d0] := q4.df
    have fin : retKD P T rs want n caps .ret fr3 H3 → Leaves P fn a3.tmps (fun e w' => ∃ (v : Value) (G' : Nat → Prop), e = Ending.returned v ∧ Below w.heap.size w w' ∧ (∀ b, G b → G' b) ∧ (∀ b, G' b → G b ∨ w.heap.size ≤ b) ∧ (∀ b, G' b → b < w'.heap.size) ∧ DRep w' (Env.of G') (retD want) v) [d0] .returning w3 := by
      intro hk
      unfold retKD at hk
      simp only at hk
      split at hk
      · next hchk =>
        simp only [Bool.and_eq_true] at hchk
        let B3 : Base := ⟨w, G, fn.ntmps, H3.length, fun w E => Laid w E.G ∧ ∀ t, DRep w E (fr3.get t) (a3.tmps.getD t undef), fun _ _ _ _ h1 h2 h3 => ⟨h3.1.le h1, fun t => (h3.2 t).move h1 h2⟩, fun _ _ _ hn h3 => ⟨h3.1, fun t => DRep.trunc 8 (D.undr_mono 8 hn (Fr.get_undr hchk.1 t)) (h3.2 t)⟩, [d0], fun _ _ h => h.1⟩
        have hw3 : WRel B3 H3 E3 w3 := ⟨q4.wr.inj, q4.wr.own, q4.wr.wf, q4.wr.heap, q4.wr.out, q4.wr.good, q4.wr.g0, q4.wr.gn, q4.wr.bel, q4.wr.laid, q4.fr⟩
        refine leaves_cons (fun h => by cases h) (by show (callFunc n _).run P w3 = _; exact callFunc_here hk.here _ _) ((hk.run B3 w3 E3 _ (Nat.le_refl _) ?_ hw3).mono ?_)
        · have := q4.wr.phi.2
          simpa using this
        · rintro e u' w4 ⟨rfl, v4, E4, d4, H4, rfl, r1, r2, r3⟩
          show Leaves P fn a3.tmps _ [] (settle .returning) w4
          have hrel : Rel B3 ⟨fr3, H4⟩ E4 a3 w4 := ⟨q4.sz, hd3, r1.phi.2, r1⟩
          unfold retX at r3
          split at r3
          · next ds hds =>
            obtain ⟨hs, hdat⟩ := r3
            obtain ⟨v, us, y1, y2, y3, y4⟩ := results_rep hT (fn := fn) hrel (by rw [hr]; exact hds)
            obtain ⟨z1, z2⟩ := hs.get
            refine ⟨v, y1, v, E4.lent, rfl, r1.bel, fun b hb => .inl (r1.g0 b hb), fun b hb => ?_, r1.lentGood, ?_⟩
            · rcases hb with hb | ⟨x, hx⟩
              · exact r1.gn b hb
              · exact .inr (r1.own x b hx).1
            · refine retD_rep y2 (by omega) fun i d u h1 h2 => ?_
              have hlt := (List.getElem?_eq_some_iff.1 h1).1
              have h3 : ds[i]? = some (ds[i]'(by omega)) := List.getElem?_eq_getElem (by omega)
              exact (z2 i _ d h3 h1).lent r1.heap (y4 i _ u h3 h2) (List.all_eq_true.1 hdat d (List.mem_of_getElem? h1))
          · cases r3
      · cases hk
    cases e with
    | ret => show Leaves P fn a3.tmps _ a3.defers .returning w3; rw [hd3]; exact fin q3
    | normal => show Leaves P fn a3.tmps _ a3.defers .returning w3; rw [hd3]; exact fin q3
    | exit i => cases q3
    | goto l => cases q3
    | panic ch => cases q3
    | outgrown => cases q3
  | ret => cases q1
  | exit i => cases q1
  | goto l => cases q1
  | panic ch => cases q1
  | outgrown => cases q1
end Go.Proofs.YtffmgfehaahlhaaDoor
namespace Go.Proofs.YtffmgfehaahlhaaDoor
open Go.RowKit

/-! Code in pieces. -/
theorem CodeP.seq {P : Program} {cx : Cx} {c d : Code} {fr : Fr} {H : List Bk} {K : Exit → Fr → List Bk → Prop} (h : CodeP P cx c fr H (thenK (fun fr H => CodeP P cx d fr H K) K)) : CodeP P cx (.seq c d) fr H K := by
  refine ⟨fun B E a w hnt hr => wp_seq (Code.wp_mono (fun e a' w' ⟨fr', H', E', q1, q2⟩ => ?_) (h.run B E a w hnt hr))⟩
  cases e <;> first | exact CodeP.run q1 B E' a' w' hnt q2 | exact ⟨fr', H', E', q1, q2⟩
theorem Pure.introC {P : Program} {f : Nat} {fn : Func} {c : Code} {args want : List D} {T : Tab} (hT : T.ok P) (hf : P.funcs[f]? = some fn) (hb : fn.body = some c) (hn : (fn.name == "runtime.NumGoroutine") = false) {rs : List ResultVar}
    (hr : fn.results.toList = rs) (hl : decide (args.length ≤ fn.ntmps) = true)
    (h : CodeP P ⟨T, fn.ntmps, 0⟩ c (argFr 0 args) [] (retK T rs want)) : Pure P f args (retD want) := by
  simp only [decide_eq_true_eq] at hl
  refine ⟨⟨fn, c, hf, hb, hn⟩, fun w G vs hL hG hv => ?_⟩
  let B : Base := ⟨w, G, fn.ntmps, 0, fun w E => Laid w E.G, fun _ _ _ _ h1 _ h3 => h3.le h1, fun _ _ _ _ h => h, [], fun _ _ h => h⟩
  have h0 := enter_rel (B := B) (fn := fn) hl hv (H := []) ⟨fun x y c h => by simp [Env.of] at h, fun x c h => by simp [Env.of] at h, fun _ _ => rfl, fun x b h => by simp at h, fun _ _ => ⟨rfl, rfl⟩, hG, fun _ h => h, fun _ h => .inl h, Below.refl _ _, hL⟩ rfl rfl
  refine calls_of_wp hf hb (Code.wp_mono (fun e a' w' ⟨fr', H', E', q1, q2⟩ => ?_) (h.run B _ _ _ ⟨rfl, Nat.le_refl _⟩ h0))
  have fin : retX T rs (fun l H => RetP H l want) fr' H' → a'.defers = [] ∧ ∃ v, (results fn a'.tmps).run P w' = .ok v w' ∧ ∃ (v' : Value) (G' : Nat → Prop), Ending.returned v = .returned v' ∧ Below w.heap.size w w' ∧ (∀ b, G b → G' b) ∧ (∀ b, G' b → G b ∨ w.heap.size ≤ b) ∧ (∀ b, G' b → b < w'.heap.size) ∧ DRep w' (Env.of G') (retD want) v' := by
    intro hs
    unfold retX at hs
    split at hs
    · next ds hds =>
      obtain ⟨hs, hdat⟩ := hs
      have hwr := q2.wr
      obtain ⟨v, us, g1, g2, g3, g4⟩ := results_rep hT (fn := fn) q2 (by rw [hr]; exact hds)
      obtain ⟨k1, k2⟩ := hs.get
      refine ⟨q2.df, v, g1, v, E'.lent, rfl, hwr.bel, fun b hb => .inl (hwr.g0 b hb), fun b hb => ?_, hwr.lentGood, ?_⟩
      · rcases hb with hb | ⟨x, hx⟩
        · exact hwr.gn b hb
        · exact .inr (hwr.own x b hx).1
      · refine retD_rep g2 (by omega) fun i d u h1 h2 => ?_
        have hlt := (List.getElem?_eq_some_iff.1 h1).1
        have h3 : ds[i]? = some (ds[i]'(by omega)) := List.getElem?_eq_getElem (by omega)
        exact (k2 i _ d h3 h1).lent hwr.heap (g4 i _ u h3 h2) (List.all_eq_true.1 hdat d (List.mem_of_getElem? h1))
    · cases hs
  cases e with
  | ret => exact fin q1
  | normal => exact fin q1
  | exit i => cases q1
  | goto l => cases q1
  | panic ch => cases q1
  | outgrown => cases q1

def hasL : List Nat → Nat → Bool
  | [], _ => false
  | a :: l, n => if a = n then true else hasL l n
theorem hasL_spec : ∀ {l : List Nat} {n : Nat}, hasL l n = true ↔ n ∈ l
  | [], n => by simp [hasL]
  | a :: l, n => by
    unfold hasL
    split
    · next e => simp [e]
    · next e =>
      rw [hasL_spec, List.mem_cons]
      exact ⟨.inr, fun h => h.elim (fun q => absurd q.symm e) id⟩
/-! Functions whose results are new. -/
def D.ownB : Nat → D → Bool
  | 0, _ => false
  | n + 1, d => match d with
    | .agg l | .tup l => l.all (D.ownB n)
    | .int .. | .bool _ | .str _ | .nils | .osl .. => true
    | _ => false
theorem D.ownB_rep {w : World} {E E' : Env} (h1 : E'.σ = E.σ) (h2 : E'.κ = E.κ) (h3 : E'.ζ = E.ζ) : ∀ (n : Nat) {d : D} {v : Value}, d.ownB n = true → DRep w E d v → DRep w E' d v
  | 0, _, _, h, _ => by cases h
  | n + 1, d, v, h, hr => by
    cases hr with
    | int h' => exact .int h'
    | bool => exact .bool
    | str h' => exact .str h'
    | nils => exact .nils
    | agg hs hh =>
      simp only [D.ownB, List.all_eq_true] at h
      exact .agg hs fun i d v q1 q2 => D.ownB_rep h1 h2 h3 n (h d (List.mem_of_getElem? q1)) (hh i d v q1 q2)
    | tup hs hh =>
      simp only [D.ownB, List.all_eq_true] at h
      exact .tup hs fun i d v q1 q2 => D.ownB_rep h1 h2 h3 n (h d (List.mem_of_getElem? q1)) (hh i d v q1 q2)
    | oslc hk hs hnb hl hn hc hm hsz => exact .oslc (by rw [h2]; exact hk) (by rw [h1]; exact hs) hnb hl hn hc hm (by rw [h3]; exact hsz)
    | osln hk hs hnb hl hn => exact .osln (by rw [h2]; exact hk) (by rw [h1]; exact hs) hnb hl hn
    | osls hk => exact .osls (by rw [h2]; exact hk)
    | _ => cases h
def onlyH (xs : List Nat) : Nat → List Bk → List Bk
  | _, [] => []
  | y, b :: r => (if hasL xs y then b else .dead) :: onlyH xs (y + 1) r
theorem onlyH_get {xs : List Nat} : ∀ {y : Nat} {H : List Bk} {x : Nat} {b : Bk}, (onlyH xs y H)[x]? = some b → b = .dead ∨ (H[x]? = some b ∧ y + x ∈ xs)
  | _, [], x, b, h => by simp [onlyH] at h
  | y, b0 :: r, 0, b, h => by
    simp only [onlyH, List.getElem?_cons_zero, Option.some.injEq, Nat.add_zero] at h ⊢
    split at h
    · next q => exact .inr ⟨h, hasL_spec.1 q⟩
    · exact .inl h.symm
  | y, b0 :: r, x + 1, b, h => by
    simp only [onlyH, List.getElem?_cons_succ] at h ⊢
    have := onlyH_get h
    rwa [show y + 1 + x = y + (x + 1) by omega] at this
inductive RetF (H : List Bk) (got : List D) (want : List D) : Prop
  | mk (xs : List Nat) (ho : got.all (D.ownB 8) = true) (hx : ∀ x ∈ xs, ∃ ty n ver r, H[x]? = some (.row ty n ver r) ∧ ∀ e ∈ r.den, e.all D.scalB = true) (h : SnDs (onlyH xs 0 H) [] got want) (hd : want.all (D.dataB 8) = true)
def retKF (T : Tab) (rs : List ResultVar) (want : List D) (e : Exit) (fr : Fr) (H : List Bk) : Prop := match e with
  | .ret => retX T rs (fun l H => RetF H l want) fr H
  | .normal => retX T rs (fun l H => RetF H l want) fr H
  | e => StuckX e
theorem PureF.intro {P : Program} {f : Nat} {fn : Func} {c : Code} {args want : List D} {T : Tab} (hT : T.ok P) (hm : P.follows .mixedOrders = true) (hf : P.funcs[f]? = some fn) (hb : fn.body = some c) (hn : (fn.name == "runtime.NumGoroutine") = false) {rs : List ResultVar}
    (hr : fn.results.toList = rs) (hl : decide (args.length ≤ fn.ntmps) = true)
    (h : vc P ⟨T, fn.ntmps, 0⟩ c (argFr 0 args) [] (retKF T rs want)) : PureF P f args (retD want) := by
  simp only [decide_eq_true_eq] at hl
  refine ⟨⟨fn, c, hf, hb, hn⟩, fun w G vs hL hG hv => ?_⟩
  let B : Base := ⟨w, G, fn.ntmps, 0, fun w E => Laid w E.G, fun _ _ _ _ h1 _ h3 => h3.le h1, fun _ _ _ _ h => h, [], fun _ _ h => h⟩
  have h0 := enter_rel (B := B) (fn := fn) hl hv (H := []) ⟨fun x y c h => by simp [Env.of] at h, fun x c h => by simp [Env.of] at h, fun _ _ => rfl, fun x b h => by simp at h, fun _ _ => ⟨rfl, rfl⟩, hG, fun _ h => h, fun _ h => .inl h, Below.refl _ _, hL⟩ rfl rfl
  refine calls_of_wp hf hb (Code.wp_mono (fun e a' w' ⟨fr', H', E', q1, q2⟩ => ?_) ((vc_sound hT hm c h).run B _ _ _ ⟨rfl, Nat.le_refl _⟩ h0))
  have fin : retX T rs (fun l H => RetF H l want) fr' H' → a'.defers = [] ∧ ∃ v, (results fn a'.tmps).run P w' = .ok v w' ∧ ∃ (v' : Value) (G' : Nat → Prop), Ending.returned v = .returned v' ∧ Below w.heap.size w w' ∧ (∀ b, G' b → w.heap.size ≤ b ∧ b < w'.heap.size) ∧ DRep w' (Env.of G') (retD want) v' := by
    intro hs
    unfold retX at hs
    split at hs
    · next ds hds =>
      obtain ⟨xs, ho, hx, hs, hdat⟩ := hs
      have hwr := q2.wr
      obtain ⟨v, us, g1, g2, g3, g4⟩ := results_rep hT (fn := fn) q2 (by rw [hr]; exact hds)
      obtain ⟨k1, k2⟩ := hs.get
      let E0 : Env := ⟨fun _ => False, E'.σ, E'.κ, E'.ζ⟩
      have hH0 : HRep w' E0 (onlyH xs 0 H') := fun x b hb => by
        rcases onlyH_get hb with q | ⟨q, q2⟩
        · subst q
          exact .inr ⟨trivial, fun _ _ => trivial, fun _ => trivial⟩
        · rw [Nat.zero_add] at q2
          obtain ⟨ty, n, ver, r, hrow, hsc⟩ := hx x q2
          rw [hrow] at q
          cases q
          rcases hwr.heap x _ hrow with p | ⟨p1, p2, p3⟩
          · exact .inl p
          · refine .inr ⟨p1, fun c hc => ?_, p3⟩
            obtain ⟨cs, t, y1, y2, y3, y4, y5⟩ := p2 c hc
            refine ⟨cs, t, y1, y2, y3, y4, fun i e he => ?_⟩
            obtain ⟨z1, z2⟩ := y5 i e he
            refine ⟨z1, fun j d hd => ?_⟩
            obtain ⟨v, z3, z4⟩ := z2 j d hd
            exact ⟨v, z3, D.scalB_rep (List.all_eq_true.1 (hsc e (List.mem_of_getElem? he)) d (List.mem_of_getElem? hd)) z4⟩
      refine ⟨q2.df, v, g1, v, E0.lent, rfl, hwr.bel, fun b hb => ?_, ?_⟩
      · rcases hb with hb | ⟨x, hx⟩
        · exact hb.elim
        · obtain ⟨o1, o2, _⟩ := hwr.own x b hx
          exact ⟨o1, o2⟩
      · refine retD_rep g2 (by omega) fun i d u h1 h2 => ?_
        have hlt := (List.getElem?_eq_some_iff.1 h1).1
        have h3 : ds[i]? = some (ds[i]'(by omega)) := List.getElem?_eq_getElem (by omega)
        exact (k2 i _ d h3 h1).lent hH0 (D.ownB_rep (E := E') (E' := E0) rfl rfl rfl 8 (List.all_eq_true.1 ho _ (List.mem_of_getElem? h3)) (g4 i _ u h3 h2)) (List.all_eq_true.1 hdat d (List.mem_of_getElem? h1))
    · cases hs
  cases e with
  | ret => exact fin q1
  | normal => exact fin q1
  | exit i => cases q1
  | goto l => cases q1
  | panic ch => cases q1
  | outgrown => cases q1
/-- the slots that are still asked for -/
def keepS (ks : List Nat) : Fr → Fr
  | [] => []
  | (t, d) :: r => if hasT ks t then (t, d) :: keepS ks r else keepS ks r
theorem keepS_get (ks : List Nat) (t : Nat) : ∀ fr : Fr, (keepS ks fr).get t = if hasT ks t then fr.get t else .junk
  | [] => by simp [keepS, Fr.get]
  | (m, d) :: r => by
    unfold keepS
    by_cases q : hasT ks m = true
    · rw [if_pos q]
      simp only [Fr.get]
      by_cases e : m = t
      · subst e
        rw [if_pos rfl, if_pos q, if_pos rfl]
      · rw [if_neg e, if_neg e, keepS_get ks t r]
    · rw [if_neg q, keepS_get ks t r]
      by_cases e : m = t
      · subst e
        rw [if_neg q, if_neg q]
      · simp only [Fr.get, if_neg e]
theorem CodeP.keep {P : Program} {cx : Cx} {c : Code} {fr : Fr} {H : List Bk} {K : Exit → Fr → List Bk → Prop} (ks : List Nat) (h : CodeP P cx c (keepS ks fr) H K) : CodeP P cx c fr H K := by
  refine ⟨fun B E a w hnt hr => h.run B E a w hnt ⟨hr.sz, hr.df, fun t => ?_, hr.wr⟩⟩
  show DRep w E ((keepS ks fr).get t) _
  rw [keepS_get]
  split
  · exact hr.fr t
  · exact .junk
theorem OpsP.keep {P : Program} {cx : Cx} {ops : Array Oper} {os : List Oper} {fr : Fr} {H : List Bk} {K : Fr → List Bk → Prop} (ks : List Nat) (h : OpsP P cx ops os (keepS ks fr) H K) : OpsP P cx ops os fr H K := by
  refine ⟨fun B E a w hnt hh hr => h.run B E a w hnt hh ⟨hr.sz, hr.df, fun t => ?_, hr.wr⟩⟩
  show DRep w E ((keepS ks fr).get t) _
  rw [keepS_get]
  split
  · exact hr.fr t
  · exact .junk
/-! Regions whose operations stand in no order that is known here, among them such that write or give up own blocks. -/
def anyE (p : Edge → Bool) : List Edge → Bool
  | [] => false
  | e :: l => if p e then true else anyE p l
/-- does j wait for i, perhaps by way of others? -/
def reach (ops : Array Oper) : Nat → Nat → Nat → Bool
  | 0, _, _ => false
  | f + 1, i, j => match ops[j]? with
    | none => false
    | some o => if waitsOn .any o i then true else anyE (fun e => if Region.binds .any e then reach ops f i e.on else false) o.after.toList
theorem anyE_spec {p : Edge → Bool} : ∀ {l : List Edge}, anyE p l = true → ∃ e ∈ l, p e = true
  | [], h => by cases h
  | e :: l, h => by
    unfold anyE at h
    split at h
    · next q => exact ⟨e, by simp, q⟩
    · obtain ⟨e', h1, h2⟩ := anyE_spec h
      exact ⟨e', by simp [h1], h2⟩
theorem reach_spec {ops : Array Oper} {S : Nat → Prop} (hS : ∀ j o, S j → ops[j]? = some o → ∀ e ∈ o.after, Region.binds .any e = true → S e.on) : ∀ f i j, reach ops f i j = true → S j → S i
  | 0, _, _, h, _ => by cases h
  | f + 1, i, j, h, hj => by
    unfold reach at h
    split at h
    · cases h
    · next o ho =>
      split at h
      · next hw =>
        obtain ⟨e, he, hb, rfl⟩ := waitsOn_spec hw
        exact hS j o hj ho e he hb
      · obtain ⟨e, he, hp⟩ := anyE_spec h
        split at hp
        · next hb => exact reach_spec hS f i e.on hp (hS j o hj ho e (Array.mem_toList_iff.1 he) hb)
        · cases hp
theorem reach_ready {ops : Array Oper} {S : Nat → Prop} (hS : ∀ j o, S j → ops[j]? = some o → ∀ e ∈ o.after, Region.binds .any e = true → S e.on) {f i j : Nat} (h : reach ops f i j = true) {o : Oper} (ho : ops[j]? = some o) (hd : ∀ e ∈ o.after, Region.binds .any e = true → S e.on) : S i := by
  cases f with
  | zero => cases h
  | succ f =>
    unfold reach at h
    rw [ho] at h
    simp only at h
    split at h
    · next hw =>
      obtain ⟨e, he, hb, rfl⟩ := waitsOn_spec hw
      exact hd e he hb
    · obtain ⟨e, he, hp⟩ := anyE_spec h
      split at hp
      · next hb => exact reach_spec hS f i e.on hp (hd e (Array.mem_toList_iff.1 he) hb)
      · cases hp
def touch : List (Nat × List Nat) → Nat → List Nat
  | [], _ => []
  | (j, xs) :: r, i => if j = i then xs else touch r i
def allM : List (Nat × List Nat) → List Nat
  | [] => []
  | (_, xs) :: r => xs ++ allM r
theorem touch_allM : ∀ {mods : List (Nat × List Nat)} {i x : Nat}, x ∈ touch mods i → x ∈ allM mods
  | [], _, _, h => by cases h
  | (j, xs) :: r, i, x, h => by
    unfold touch at h
    unfold allM
    split at h
    · simp [h]
    · simp [touch_allM h]
def maskH (M keep : List Nat) : Nat → List Bk → List Bk
  | _, [] => []
  | y, b :: r => (if hasT M y then (if hasT keep y then b else .dead) else b) :: maskH M keep (y + 1) r
theorem hasT_spec : ∀ {l : List Nat} {n : Nat}, hasT l n = true ↔ n ∈ l
  | [], n => by simp [hasT]
  | a :: l, n => by
    unfold hasT
    split
    · next e => simp [e]
    · next e =>
      rw [hasT_spec, List.mem_cons]
      exact ⟨.inr, fun h => h.elim (fun q => absurd q.symm e) id⟩
theorem maskH_len (M keep : List Nat) : ∀ (y : Nat) (H : List Bk), (maskH M keep y H).length = H.length
  | _, [] => rfl
  | y, b :: r => by simp [maskH, maskH_len M keep (y + 1) r]
theorem maskH_get {M keep : List Nat} : ∀ {y : Nat} {H : List Bk} {x : Nat} {b : Bk}, (maskH M keep y H)[x]? = some b → b = .dead ∨ (H[x]? = some b ∧ (y + x ∈ M → y + x ∈ keep))
  | _, [], x, b, h => by simp [maskH] at h
  | y, b0 :: r, 0, b, h => by
    simp only [maskH, List.getElem?_cons_zero, Option.some.injEq, Nat.add_zero] at h ⊢
    split at h
    · split at h
      · next h1 h2 => exact .inr ⟨h, fun _ => hasT_spec.1 h2⟩
      · exact .inl h.symm
    · next h1 => exact .inr ⟨h, fun q => absurd (hasT_spec.2 q) h1⟩
  | y, b0 :: r, x + 1, b, h => by
    simp only [maskH, List.getElem?_cons_succ] at h ⊢
    have := maskH_get h
    rwa [show y + 1 + x = y + (x + 1) by omega] at this
def setL (H : List Bk) : List (Nat × Bk) → List Bk
  | [] => H
  | (x, b) :: r => setL (H.set x b) r
theorem setL_len : ∀ (md : List (Nat × Bk)) (H : List Bk), (setL H md).length = H.length
  | [], _ => rfl
  | (x, b) :: r, H => by simp [setL, setL_len r]
theorem setL_out : ∀ (md : List (Nat × Bk)) (H : List Bk) (x : Nat), (∀ b, (x, b) ∉ md) → (setL H md)[x]? = H[x]?
  | [], _, _, _ => rfl
  | (y, b) :: r, H, x, h => by
    have h1 : y ≠ x := fun e => h b (by simp [e])
    rw [setL, setL_out r _ x fun b' hb => h b' (by simp [hb]), List.getElem?_set_ne h1]
theorem setL_congr : ∀ (md : List (Nat × Bk)) {H H' : List Bk} {x : Nat}, H.length = H'.length → H[x]? = H'[x]? → (setL H md)[x]? = (setL H' md)[x]?
  | [], _, _, _, _, h => h
  | (y, b) :: r, H, H', x, hl, h => by
    refine setL_congr r (by simp [hl]) ?_
    by_cases e : y = x
    · subst e
      by_cases q : y < H.length
      · rw [List.getElem?_set_self q, List.getElem?_set_self (by omega)]
      · rw [List.getElem?_eq_none (by simp; omega), List.getElem?_eq_none (by simp; omega)]
    · rw [List.getElem?_set_ne e, List.getElem?_set_ne e, h]
theorem setL_app : ∀ (md : List (Nat × Bk)) {H X : List Bk}, (∀ p ∈ md, p.1 < H.length) → setL (H ++ X) md = setL H md ++ X
  | [], _, _, _ => rfl
  | (y, b) :: r, H, X, h => by
    rw [setL, setL, List.set_append_left _ _ (h (y, b) (by simp)), setL_app r fun p hp => by simp; exact h p (by simp [hp])]
theorem setL_cat : ∀ (a b : List (Nat × Bk)) {H : List Bk}, setL H (a ++ b) = setL (setL H a) b
  | [], _, _ => rfl
  | (y, c) :: r, b, H => by rw [List.cons_append, setL, setL, setL_cat r b]
/-- what an operation does, among blocks of which some are not laid yet and some are not looked at -/
def OpZ (P : Program) (H : List Bk) (ρ : Operand → D) (o : Oper) (d : D) (nw : List Bk) (md : List (Nat × Bk)) : Prop :=
  ∀ (B : Base) (Hx : List Bk) (w : World) (E : Env) (a : Act), (∀ x, DRep w E (ρ x) (a.eval x)) → WRel B Hx E w → (H ++ nw).length ≤ Hx.length → Compat H nw Hx → Fresh E H.length (H.length + nw.length) → ∀ (K : Act → World → Prop) (Q : Exit → Act → World → Prop),
    (∀ v w' E', WRel B (setL Hx md) E' w' → E.le w w' E' → E.own E' → (∀ x, (x < H.length ∨ H.length + nw.length ≤ x) → (∀ b, (x, b) ∉ md) → E'.σ x = E.σ x ∧ E'.κ x = E.κ x) → DRep w' E' d v → K (a.put o.dst v) w') → o.wp P a w K Q
theorem OpX.z {P : Program} {H : List Bk} {ρ : Operand → D} {o : Oper} {d : D} {nw : List Bk} (h : OpX P H ρ o d nw) : OpZ P H ρ o d nw [] :=
  fun B Hx w E a h1 h2 _ h3 h4 K Q hk => h B Hx w E a h1 h2 h3 h4 K Q fun v w' E' g1 g2 g3 g4 g5 => hk v w' E' g1 g2 g3 (fun x hx _ => g4 x hx) g5
theorem EEff.z {P : Program} {H : List Bk} {ρ : Operand → D} {o : Oper} {d : D} {b : Nat} {b' : Bk} (h : ∀ Hx, Compat H [] Hx → EEff P Hx ρ o (Hx.set b b') d) : OpZ P H ρ o d [] [(b, b')] := fun B Hx w E a h1 h2 _ h3 h4 K Q hk => by
  obtain ⟨nx, v, w', E', e1, e2, e3, e4, e5, e6, e7⟩ := h Hx h3 B w E a.eval h1 h2
  unfold Oper.wp
  rw [e1]
  have fin := hk v w' E' e3 e4 e5 (fun x _ hx => e7 x (List.getElem?_set_ne fun e => hx b' (by simp [e]))) e6
  rcases e2 with rfl | ⟨rfl, rfl⟩
  · exact fin
  · exact fin
theorem ReqQ.put {b : Bool} {p : Unit → Prop} {K : Prop} (h : p ()) (hk : K) : ReqQ b p K := by
  cases b
  · exact ⟨h, fun _ => hk⟩
  · exact hk
def blkOf : D → Option Nat
  | .ptr b _ _ => some b
  | .rp _ b _ _ _ => some b
  | .osl _ b _ _ _ _ => some b
  | .ap _ b _ => some b
  | _ => none
theorem sStore_z {P : Program} {T : Tab} {H : List Bk} {ρ : Operand → D} {o : Oper} (hT : T.ok P) {t : Nat} {a x : Operand} (ho : o.op = .store t a x) {K : List Bk → Prop} (hk : sStore T H o t (ρ a) (ρ x) K) : ∃ b b', blkOf (ρ a) = some b ∧ b < H.length ∧ OpZ P H ρ o (.tup []) [] [(b, b')] ∧ K (H.set b b') := by
  have key : ∀ {b : Nat} {b' : Bk}, (∀ Hx, Compat H [] Hx → sStore T Hx o t (ρ a) (ρ x) fun H' => H' = Hx.set b b') → OpZ P H ρ o (.tup []) [] [(b, b')] := fun h => EEff.z fun Hx hc => by
    obtain ⟨H', h1, rfl⟩ := sStore_eff hT ho (h Hx hc)
    exact h1
  unfold sStore at hk
  split at hk
  · next ti m hti hm =>
    split at hk
    · next hc =>
      split at hk
      · next b ver off hd =>
        split at hk
        · next l hl =>
          split at hk
          · next hcc =>
            refine ⟨b, _, by rw [hd]; rfl, (List.getElem?_eq_some_iff.1 hl).1, key fun Hx hx => ?_, hk⟩
            unfold sStore
            simp only [hti, hm, hc, if_true, hd, hx.of (b := .cells l) (by simpa using hl) (by simp)]
            rw [if_pos hcc]
            trivial
          · cases hk
        · cases hk
      · next n b ver i off hd =>
        split at hk
        · next ty n' ver' r hl =>
          split at hk
          · next hcc =>
            obtain ⟨hlt, hk⟩ := ReqQ.get hk ltLit_spec
            refine ⟨b, _, by rw [hd]; rfl, (List.getElem?_eq_some_iff.1 hl).1, key fun Hx hx => ?_, hk⟩
            unfold sStore
            simp only [hti, hm, hc, if_true, hd, hx.of (b := .row ty n' ver' r) (by simpa using hl) (by simp)]
            rw [if_pos hcc]
            exact ReqQ.put hlt trivial
          · cases hk
        · cases hk
      · cases hk
    · cases hk
  · cases hk
theorem sStore2_z {P : Program} {T : Tab} {H : List Bk} {ρ : Operand → D} {o : Oper} (hT : T.ok P) {t : Nat} {a x : Operand} (ho : o.op = .store t a x) {K : List Bk → Prop} (hk : sStore2 T H o t (ρ a) (ρ x) K) : ∃ b b', blkOf (ρ a) = some b ∧ b < H.length ∧ OpZ P H ρ o (.tup []) [] [(b, b')] ∧ K (H.set b b') := by
  have key : ∀ {b : Nat} {b' : Bk}, (∀ Hx, Compat H [] Hx → sStore2 T Hx o t (ρ a) (ρ x) fun H' => H' = Hx.set b b') → OpZ P H ρ o (.tup []) [] [(b, b')] := fun h => EEff.z fun Hx hc => by
    obtain ⟨H', h1, rfl⟩ := sStore2_eff hT ho (h Hx hc)
    exact h1
  unfold sStore2 at hk
  split at hk
  · next m b i k e hd hdx =>
    split at hk
    · next k' m' f hb =>
      split at hk
      · next hc =>
        refine ⟨b, _, by rw [hd]; rfl, (List.getElem?_eq_some_iff.1 hb).1, key fun Hx hx => ?_, hk⟩
        rw [hd, hdx]
        unfold sStore2
        simp only [hx.of (b := .arr k' m' f) (by simpa using hb) (by simp)]
        rw [if_pos hc]
        trivial
      · cases hk
    · cases hk
  · next b ver k m g hd hdx =>
    split at hk
    · next k' m' f hb =>
      split at hk
      · next hc =>
        refine ⟨b, _, by rw [hd]; rfl, (List.getElem?_eq_some_iff.1 hb).1, key fun Hx hx => ?_, hk⟩
        rw [hd, hdx]
        unfold sStore2
        simp only [hx.of (b := .arr k' m' f) (by simpa using hb) (by simp)]
        rw [if_pos hc]
        trivial
      · cases hk
    · cases hk
  · exact sStore_z hT ho hk
theorem elemsOf_mono {H Hx : List Bk} (hc : Compat H [] Hx) {d : D} {n : Nat} {r : RE} {m : IE} (h : elemsOf H d = some (n, r, m)) : elemsOf Hx d = some (n, r, m) := by
  unfold elemsOf at h ⊢
  split at h
  · exact h
  · exact h
  · next n' b ver nb lo len =>
    split at h
    · next ty n2 ver2 r2 hb =>
      rw [hc.of (b := .row ty n2 ver2 r2) (by simpa using hb) (by simp)]
      exact h
    · cases h
  · cases h
theorem sAppend_z {P : Program} {T : Tab} {H : List Bk} {ρ : Operand → D} {o : Oper} (hT : T.ok P) {t : Nat} {s x : Operand} (ho : o.op = .call ⟨.builtin .append, #[s, x], #[t, t]⟩) {K : List Bk → D → Prop} (hs : ρ s ≠ .nils) (hk : sAppend T H o t (ρ s) (ρ x) K) : ∃ b b' d, blkOf (ρ s) = some b ∧ b < H.length ∧ OpZ P H ρ o d [] [(b, b')] ∧ K (H.set b b') d := by
  have key : ∀ {b : Nat} {b' : Bk} {d : D}, (∀ Hx, Compat H [] Hx → sAppend T Hx o t (ρ s) (ρ x) fun H' d' => H' = Hx.set b b' ∧ d' = d) → OpZ P H ρ o d [] [(b, b')] := fun h => EEff.z fun Hx hc => by
    obtain ⟨H', d', h1, rfl, rfl⟩ := sAppend_eff hT ho (h Hx hc)
    exact h1
  unfold sAppend at hk
  split at hk
  · next e sz by_ z n rx m ht hel =>
    have key2 : ∀ {Hx}, Compat H [] Hx → elemsOf Hx (ρ x) = some (n, rx, m) := fun hc => elemsOf_mono hc hel
    split at hk
    · next te hte =>
      split at hk
      · next hc =>
        split at hk
        · next hs' => exact absurd hs' hs
        · next n' bb ver nb len hs' =>
          split at hk
          · next ty n2 ver2 r hb =>
            split at hk
            · next hcc =>
              obtain ⟨hq, hk⟩ := ReqQ.get hk (fun hb => by
                simp only [Bool.and_eq_true, decide_eq_true_eq] at hb
                obtain ⟨k1, k2, k3⟩ := litsOK_spec hb.1.1
                obtain ⟨j1, j2, j3⟩ := litsOK_spec hb.1.2
                exact ⟨k1, j1, k2, j2, by omega, small_bytes (by omega) hb.2⟩)
              refine ⟨bb, _, _, by rw [hs']; rfl, (List.getElem?_eq_some_iff.1 hb).1, key fun Hx hx => ?_, hk⟩
              unfold sAppend
              simp only [ht, key2 hx, hte, hs', hx.of (b := .row ty n2 ver2 r) (by simpa using hb) (by simp)]
              rw [if_pos hc, if_pos hcc]
              exact ReqQ.put hq (by simp)
            · cases hk
          · cases hk
        · cases hk
      · cases hk
    · cases hk
  · cases hk
/-! A call that own blocks are given up to. -/
def Env.give (E : Env) (xs : List Nat) : Env := ⟨fun b => E.G b ∨ ∃ x ∈ xs, E.σ x = some b, fun y => if y ∈ xs then none else E.σ y, fun y => if y ∈ xs then E.κ y + 1 else E.κ y, E.ζ⟩
theorem Env.give_le (E : Env) (xs : List Nat) (w : World) : E.le w w (E.give xs) := ⟨fun _ h => .inl h, fun _ _ => rfl⟩
theorem Env.give_own (E : Env) (xs : List Nat) : E.own (E.give xs) := by
  refine ⟨fun b => ?_, fun b e => ?_⟩
  · simp only [Env.give]; split <;> omega
  · simp only [Env.give] at e ⊢
    split at e
    · omega
    · next q => rw [if_neg q]; refine ⟨?_, fun _ _ => ?_⟩ <;> first | rfl | trivial
def deadL (xs : List Nat) : Nat → Nat → List Bk
  | _, 0 => []
  | y, n + 1 => (if hasT xs y then .dead else .cells []) :: deadL xs (y + 1) n
theorem deadL_gone {xs : List Nat} : ∀ {n y x : Nat}, x < n → goneB (deadL xs y n) x = true → y + x ∈ xs
  | 0, _, _, h, _ => by omega
  | n + 1, y, 0, _, h => by
    simp only [deadL, goneB, List.getElem?_cons_zero] at h
    by_cases q : hasT xs y = true
    · exact hasT_spec.1 q
    · rw [if_neg q] at h; cases h
  | n + 1, y, x + 1, hx, h => by
    have : goneB (deadL xs (y + 1) n) x = true := by simpa [deadL, goneB] using h
    have := deadL_gone (by omega) this
    rwa [show y + 1 + x = y + (x + 1) by omega] at this
def deads (xs : List Nat) : List (Nat × Bk) := xs.map fun x => (x, .dead)
theorem setL_deads : ∀ (xs : List Nat) {H : List Bk} {x : Nat} {b : Bk}, (setL H (deads xs))[x]? = some b → b = .dead ∨ (x ∉ xs ∧ H[x]? = some b)
  | [], H, x, b, h => .inr ⟨by simp, h⟩
  | y :: r, H, x, b, h => by
    rcases setL_deads r (H := H.set y .dead) h with q | ⟨q1, q2⟩
    · exact .inl q
    · by_cases e : y = x
      · subst e
        rw [List.getElem?_set] at q2
        simp only [if_true] at q2
        split at q2
        · exact .inl (Option.some.inj q2).symm
        · cases q2
      · rw [List.getElem?_set_ne e] at q2
        exact .inr ⟨by simp [q1, Ne.symm e], q2⟩
theorem WRel.give {B : Base} {Hx : List Bk} {E : Env} {w : World} (hw : WRel B Hx E w) (xs : List Nat) (hx : ∀ x ∈ xs, x < Hx.length) : WRel B (setL Hx (deads xs)) (E.give xs) w := by
  have sub : ∀ {x c}, (E.give xs).σ x = some c → x ∉ xs ∧ E.σ x = some c := fun {x c} h => by
    simp only [Env.give] at h
    split at h
    · cases h
    · next q => exact ⟨q, h⟩
  refine ⟨fun x y c h1 h2 => hw.inj x y c (sub h1).2 (sub h2).2, fun x c h1 => ?_, fun b hb => ?_, fun x b' hb => ?_, fun x hx' => ?_, fun b hb => ?_, fun b hb => .inl (hw.g0 b hb), fun b hb => ?_, hw.bel, B.stab _ _ _ _ (E.give_le xs w) (E.give_own xs) hw.phi⟩
  · obtain ⟨h2, h3⟩ := sub h1
    obtain ⟨q1, q2, q3⟩ := hw.own x c h3
    refine ⟨q1, q2, fun q => ?_⟩
    rcases q with q | ⟨y, hy, hc⟩
    · exact q3 q
    · exact h2 (by rw [hw.inj x y c h3 hc]; exact hy)
  · simp only [Env.give] at hb ⊢
    split at hb
    · omega
    · next q => rw [if_neg q]; exact hw.wf b hb
  · rcases setL_deads xs hb with q | ⟨q1, q2⟩
    · subst q
      exact .inr ⟨trivial, fun _ _ => trivial, fun _ => trivial⟩
    · have e1 : (E.give xs).κ x = E.κ x := by simp [Env.give, q1]
      have e2 : (E.give xs).σ x = E.σ x := by simp [Env.give, q1]
      rw [e1, e2]
      rcases hw.heap x b' q2 with q | ⟨h1, h2, h3⟩
      · exact .inl q
      · exact .inr ⟨h1, fun c hc => (h2 c hc).move (E.give_le xs w) (E.give_own xs) rfl rfl, h3⟩
  · rw [setL_len] at hx'
    have : x ∉ xs := fun q => by have := hx x q; omega
    simp only [Env.give, if_neg this]
    exact hw.out x hx'
  · rcases hb with hb | ⟨x, _, hc⟩
    · exact hw.good b hb
    · exact (hw.own x b hc).2.1
  · rcases hb with hb | ⟨x, _, hc⟩
    · exact hw.gn b hb
    · exact .inr (hw.own x b hc).1
inductive GiveP (P : Program) (n : Nat) (args : List D) (H : List Bk) (xs : List Nat) (K : D → Prop) : Prop
  | mk (args' : List D) (d : D) (hp : Pure P n args' d) (hs : SnDs H (deadL xs 0 H.length) args args') (hd : args'.all (D.dataB 8) = true) (hk : K d)
theorem GiveP.z {P : Program} {H : List Bk} {ρ : Operand → D} {o : Oper} {f : Operand} {args : Array Operand} {ats : Array TypeId} (ho : o.op = .call ⟨.value f, args, ats⟩) {n : Nat} {first cap : List D} (hf : ρ f = .fn (.func n) first cap) {xs : List Nat} (hxs : ∀ x ∈ xs, x < H.length) {K : D → Prop}
    (h : GiveP P n (first ++ args.toList.map ρ ++ cap) H xs K) : ∃ d, OpZ P H ρ o d [] (deads xs) ∧ K d := by
  obtain ⟨args', d, hp, hs, hd, hk⟩ := h
  refine ⟨d, fun B Hx w E a hev hw hle hc hfr K' Q hK' => ?_, hk⟩
  obtain ⟨vs, hex, hl⟩ := call_eval (P := P) ho hf hp.1 hev
  unfold Oper.wp
  rw [hex]
  obtain ⟨h1, h2⟩ := hs.get
  have hxl : ∀ x ∈ xs, x < Hx.length := fun x hx => by have := hxs x hx; simp at hle; omega
  have hg := hw.give xs hxl
  have hH := hc.heap hw.heap
  refine (hp.2 w (E.give xs).G vs hg.laid hg.good ⟨by rw [← h1]; exact hl.1, fun i x v hx hv' => ?_⟩).mono ?_
  · have hlt := (List.getElem?_eq_some_iff.1 hx).1
    have hx0 : (first ++ args.toList.map ρ ++ cap)[i]? = some ((first ++ args.toList.map ρ ++ cap)[i]'(by omega)) := List.getElem?_eq_getElem (by omega)
    have := (h2 i _ x hx0 hx).rep hH (E.give_le xs w) (E.give_own xs) (fun y c hy hg hc => .inr ⟨y, by have := deadL_gone hy hg; rwa [Nat.zero_add] at this, hc⟩) (hl.2 i _ v hx0 hv')
    exact D.dataB_rep (E := E.give xs) (E' := Env.of (E.give xs).G) rfl 8 (List.all_eq_true.1 hd x (List.mem_of_getElem? hx)) this
  · rintro e w' ⟨v, G', rfl, q2, q3, q4, q5, q6⟩
    have k1 := hg.kept q2 q3 q4 q5
    refine hK' v w' ⟨G', (E.give xs).σ, (E.give xs).κ, (E.give xs).ζ⟩ k1 ?_ ?_ (fun x _ hx => ?_) (DRep.undata (E := ⟨G', (E.give xs).σ, (E.give xs).κ, (E.give xs).ζ⟩) k1.wf q6)
    · have := Below.le_env (E := E) (G' := G') q2 hw.good fun b hb => q3 b (.inl hb)
      exact ⟨this.G, this.heap⟩
    · obtain ⟨g1, g2⟩ := E.give_own xs
      exact ⟨g1, g2⟩
    · have : x ∉ xs := fun q => hx .dead (by simp [deads, q])
      simp [Env.give, this]
/-! A store of an own row, which is given up: behind it what it held is data. -/
inductive StoreG (T : Tab) (Hm : List Bk) (o : Oper) (t : Nat) (a x : D) (x0 y0 : Nat) (K : D → List (Nat × Bk) → Prop) : Prop
  | mk (d' : D) (hs : SnD Hm (deadL [y0] 0 Hm.length) x d') (hk : sStore2 T (Hm.set y0 .dead) o t a d' fun H' => K (.tup []) [(y0, .dead), (x0, H'.getD x0 .dead)])
theorem OwnTrans {E E1 E2 : Env} (h : E.own E1) (h2 : E1.own E2) : E.own E2 := by
  refine ⟨fun b => Nat.le_trans (h.κ b) (h2.κ b), fun b e => ?_⟩
  have q1 := h.κ b
  have q2 := h2.κ b
  obtain ⟨a1, a2⟩ := h.σ b (by omega)
  obtain ⟨b1, b2⟩ := h2.σ b (by omega)
  exact ⟨b1.trans a1, fun c hc => (b2 c (a1.trans hc)).trans (a2 c hc)⟩
def tmpNe : Operand → Operand → Bool
  | .tmp i, .tmp j => if i = j then false else true
  | _, _ => false
theorem tmpNe_spec {a x : Operand} (h : tmpNe a x = true) : x ≠ a := by
  intro e
  subst e
  unfold tmpNe at h
  split at h
  · simp at h
  · cases h
theorem StoreG.z {P : Program} {T : Tab} {H : List Bk} {ρ : Operand → D} {o : Oper} (hT : T.ok P) {t : Nat} {a x : Operand} (ho : o.op = .store t a x) (hne : tmpNe a x = true) {x0 y0 : Nat} (hb : blkOf (ρ a) = some x0) (hxy : x0 ≠ y0) (hy : y0 < H.length) {K : D → List (Nat × Bk) → Prop}
    (h : StoreG T H o t (ρ a) (ρ x) x0 y0 K) : ∃ d md, OpZ P H ρ o d [] md ∧ (∀ p ∈ md, p.1 ∈ [x0, y0] ∧ p.1 < H.length) ∧ K d md := by
  obtain ⟨d', hs, hk⟩ := h
  have hxa := tmpNe_spec hne
  classical
  obtain ⟨ρ', hρ⟩ : ∃ ρ' : Operand → D, ρ' = fun z => if z = x then d' else if z = a then ρ a else .junk := ⟨_, rfl⟩
  have r1 : ρ' x = d' := by rw [hρ]; simp
  have r2 : ρ' a = ρ a := by rw [hρ]; simp only; rw [if_neg (Ne.symm hxa)]; exact if_pos trivial
  obtain ⟨b, b', h1, h2, h3, h4⟩ := sStore2_z (ρ := ρ') hT ho (by rw [r1, r2]; exact hk)
  rw [r2, hb] at h1
  cases h1
  rw [List.getD_eq_getElem?_getD, List.getElem?_set_self h2] at h4
  rw [List.length_set] at h2
  refine ⟨_, _, fun B Hx w E av hev hw hle hc hfr K' Q hK' => ?_, fun p hp => ?_, h4⟩
  · have hxl : ∀ z ∈ [y0], z < Hx.length := fun z hz => by simp only [List.mem_singleton] at hz; subst hz; simp at hle; omega
    have hg := hw.give [y0] hxl
    have hH := hc.heap hw.heap
    refine h3 B (setL Hx (deads [y0])) w (E.give [y0]) av (fun z => ?_) hg (by rw [setL_len]; simpa using hle) (fun z bz hz => ?_) (fun z h1 h2 => absurd h2 (by simp at h1 ⊢; omega)) K' Q fun v w' E' k1 k2 k3 k4 k5 => ?_
    · rw [hρ]
      simp only
      split
      · next e =>
        subst e
        exact hs.rep hH (E.give_le [y0] w) (E.give_own [y0]) (fun z c hz hg hc => .inr ⟨z, by have := deadL_gone hz hg; rwa [Nat.zero_add] at this, hc⟩) (hev _)
      · split
        · next e =>
          subst e
          exact (hev _).move (E.give_le [y0] w) (E.give_own [y0])
        · exact .junk
    · simp only [deads, List.map_cons, List.map_nil, setL, List.append_nil] at hz ⊢
      by_cases e : y0 = z
      · subst e
        rw [List.getElem?_set_self hy] at hz
        simp only [Option.some.injEq] at hz
        exact .inl hz.symm
      · rw [List.getElem?_set_ne e] at hz ⊢
        exact hc z bz (by simpa using hz)
    · refine hK' v w' E' (by simpa [deads, setL] using k1) ⟨fun b hb => k2.G b ((E.give_le [y0] w).G b hb), fun b hb => k2.heap b ((E.give_le [y0] w).G b hb)⟩ (OwnTrans (E.give_own [y0]) k3) (fun z hz hn => ?_) k5
      have hzy : z ≠ y0 := fun e => hn .dead (by simp [e])
      have hzx : z ≠ x0 := fun e => hn b' (by simp [e])
      obtain ⟨q1, q2⟩ := k4 z (by simpa using hz) (fun b hb => by simp at hb; exact hzx hb.1)
      rw [q1, q2]
      simp [Env.give, hzy]
  · simp only [List.mem_cons, List.not_mem_nil, or_false] at hp
    rcases hp with e | e
    · subst e; exact ⟨by simp, hy⟩
    · subst e; exact ⟨by simp, h2⟩
/-! The operations of a region, each seen in the order of the text. -/
def readsF (ops : Array Oper) : Bool := (List.range ops.size).all fun i => match ops[i]? with
  | none => true
  | some o => (List.range ops.size).all fun j => match (ops[j]?).bind (·.dst) with
    | none => true
    | some t => if o.op.operands.any (isT t) then (if reach ops 6 j i then true else reach ops 6 i j) else true
def dstF (ops : Array Oper) : Bool := (List.range ops.size).all fun i => (List.range ops.size).all fun j => if i = j then true else match (ops[i]?).bind (·.dst), (ops[j]?).bind (·.dst) with
  | some t, some t' => if t = t' then false else true
  | _, _ => true
def meets : List Nat → List Nat → Bool
  | [], _ => false
  | x :: r, l => if hasT l x then true else meets r l
def ordF (ops : Array Oper) (mods : List (Nat × List Nat)) : Bool := (List.range ops.size).all fun i => (List.range ops.size).all fun j => if i < j then (if meets (touch mods i) (touch mods j) then reach ops 6 i j else true) else true
def footOK (ops : Array Oper) (mods : List (Nat × List Nat)) : Bool := tailWB .any ops ops.size && readsF ops && dstF ops && ordF ops mods
def within (lo hi : Nat) : List Nat → Bool
  | [] => false
  | x :: r => if lo ≤ x then (if x < hi then true else within lo hi r) else within lo hi r
def freshOK (ops : Array Oper) (mods : List (Nat × List Nat)) (k lo hi : Nat) : Bool := (List.range ops.size).all fun j => if within lo hi (touch mods j) then reach ops 6 k j else true
theorem meets_spec : ∀ {l m : List Nat} {x : Nat}, x ∈ l → x ∈ m → meets l m = true
  | [], _, _, h, _ => by cases h
  | y :: r, m, x, h, h2 => by
    unfold meets
    split
    · rfl
    · next q =>
      rcases List.mem_cons.1 h with rfl | h
      · exact absurd (hasT_spec.2 h2) q
      · exact meets_spec h h2
theorem within_spec {lo hi : Nat} : ∀ {l : List Nat} {x : Nat}, x ∈ l → lo ≤ x → x < hi → within lo hi l = true
  | [], _, h, _, _ => by cases h
  | y :: r, x, h, h1, h2 => by
    unfold within
    rcases List.mem_cons.1 h with rfl | h
    · rw [if_pos h1, if_pos h2]
    · split
      · split
        · rfl
        · exact within_spec h h1 h2
      · exact within_spec h h1 h2
/-- an operation that writes own blocks, or gives them up -/
def vopm (P : Program) (cx : Cx) (o : Oper) (fr : Fr) (Hm : List Bk) (xs : List Nat) (K : D → List (Nat × Bk) → Prop) : Prop := match o.op with
  | .call ⟨.value f, args, _⟩ => (match fr.ev f with
    | .fn (.func n) first cap => if xs.all (fun x => decide (x < Hm.length)) then GiveP P n (first ++ args.toList.map fr.ev ++ cap) Hm xs fun d => K d (deads xs) else StuckP o []
    | _ => StuckP o (opnds fr o))
  | .store t a x => (match blkOf (fr.ev a), xs with
    | some b, [x0] => if b = x0 then sStore2 cx.T Hm o t (fr.ev a) (fr.ev x) fun H' => K (.tup []) [(x0, H'.getD x0 .dead)] else StuckP o []
    | some b, [x0, y0] => if b = x0 then (if x0 = y0 then StuckP o [] else (if y0 < Hm.length then (if tmpNe a x then StoreG cx.T Hm o t (fr.ev a) (fr.ev x) x0 y0 K else StuckP o []) else StuckP o [])) else StuckP o []
    | _, _ => StuckP o [])
  | .call ⟨.builtin .append, ⟨[s, x]⟩, ⟨[t, t']⟩⟩ => (match blkOf (fr.ev s), xs with
    | some b, [x0] => if b = x0 then (if t = t' then sAppend cx.T Hm o t (fr.ev s) (fr.ev x) fun H' d => K d [(x0, H'.getD x0 .dead)] else StuckP o []) else StuckP o []
    | _, _ => StuckP o [])
  | _ => StuckP o []
def loadB : Op → Bool
  | .load .. => true
  | _ => false
def vfoot (P : Program) (cx : Cx) (ops : Array Oper) (mods : List (Nat × List Nat)) : Nat → List Oper → Fr → List Bk → (Fr → List Bk → Prop) → Prop
  | _, [], fr, H, K => K fr H
  | i, o :: os, fr, H, K => match o.guard with
    | some _ => StuckP o []
    | none => match touch mods i with
      | [] => vopq P cx (baseB ops o) o fr (maskH (allM mods) [] 0 H) fun fr' Hm => if freshOK ops mods i H.length Hm.length then vfoot P cx ops mods (i + 1) os fr' (H ++ Hm.drop H.length) K else StuckP o []
      | x :: xs => if loadB o.op then vopq P cx (baseB ops o) o fr (maskH (allM mods) (x :: xs) 0 H) fun fr' Hm => if freshOK ops mods i H.length Hm.length then vfoot P cx ops mods (i + 1) os fr' (H ++ Hm.drop H.length) K else StuckP o []
        else if dstB cx.nt o.dst then vopm P cx o fr (maskH (allM mods) (x :: xs) 0 H) (x :: xs) fun d md => vfoot P cx ops mods (i + 1) os (fr.put o.dst d) (setL H md) K else StuckP o []
structure YS where
  fr : Fr
  H : List Bk
  d : D
  nw : List Bk
  md : List (Nat × Bk)
inductive YT (P : Program) (cx : Cx) (ops : Array Oper) (mods : List (Nat × List Nat)) : Nat → List Oper → Fr → List Bk → List YS → Fr → List Bk → Prop
  | nil {i fr H} : YT P cx ops mods i [] fr H [] fr H
  | cons {i o os fr H d nw md tr fr' H'} (hg : o.guard = none) (hd : dstB cx.nt o.dst = true) (hop : OpZ P (maskH (allM mods) (touch mods i) 0 H) (res o fr.ev) o d nw md) (hmd : ∀ p ∈ md, p.1 ∈ touch mods i ∧ p.1 < H.length)
      (hnw : ∀ x, H.length ≤ x → x < H.length + nw.length → ∀ j, j < ops.size → x ∈ touch mods j → reach ops 6 i j = true) (rest : YT P cx ops mods (i + 1) os (fr.put o.dst d) (setL (H ++ nw) md) tr fr' H') : YT P cx ops mods i (o :: os) fr H (⟨fr, H, d, nw, md⟩ :: tr) fr' H'
section
variable {P : Program} {cx : Cx} {ops : Array Oper} {mods : List (Nat × List Nat)}
theorem vopm_z (hT : cx.T.ok P) {o : Oper} {fr : Fr} {Hm : List Bk} {xs : List Nat} {K : D → List (Nat × Bk) → Prop} (hk : vopm P cx o fr Hm xs K) : ∃ d md, OpZ P Hm (res o fr.ev) o d [] md ∧ (∀ p ∈ md, p.1 ∈ xs ∧ p.1 < Hm.length) ∧ K d md := by
  unfold vopm at hk
  split at hk
  · next f args ats ho =>
    split at hk
    · next n first cap hf =>
      split at hk
      · next hx =>
        have hx' : ∀ x ∈ xs, x < Hm.length := fun x hm => of_decide_eq_true (List.all_eq_true.1 hx x hm)
        have e1 : res o fr.ev f = .fn (.func n) first cap := by rw [res_in (by rw [ho]; simp [Op.operands, Call.operands]), hf]
        have e2 : args.toList.map (res o fr.ev) = args.toList.map fr.ev := List.map_congr_left fun x hx => res_in (by rw [ho]; simp only [Op.operands, Call.operands]; simp; exact .inr (by simpa using hx))
        obtain ⟨d, h1, h2⟩ := GiveP.z ho e1 hx' (by rw [e2]; exact hk)
        exact ⟨d, _, h1, fun p hp => by simp only [deads, List.mem_map] at hp; obtain ⟨x, hx, rfl⟩ := hp; exact ⟨hx, hx' x hx⟩, h2⟩
      · cases hk
    · cases hk
  · next t a x ho =>
    split at hk
    · next b x0 hb =>
      split at hk
      · next e =>
        subst e
        have e1 : res o fr.ev a = fr.ev a := res_in (by rw [ho]; simp [Op.operands])
        have e2 : res o fr.ev x = fr.ev x := res_in (by rw [ho]; simp [Op.operands])
        obtain ⟨b1, b', h1, h2, h3, h4⟩ := sStore2_z (ρ := res o fr.ev) hT ho (by rw [e1, e2]; exact hk)
        rw [e1, hb] at h1
        cases h1
        rw [List.getD_eq_getElem?_getD, List.getElem?_set_self h2] at h4
        exact ⟨_, _, h3, fun p hp => by simp only [List.mem_singleton] at hp; subst hp; exact ⟨by simp, h2⟩, h4⟩
      · cases hk
    · next b x0 y0 hb =>
      split at hk
      · next e =>
        subst e
        split at hk
        · cases hk
        · next hxy =>
          split at hk
          · next hy =>
            split at hk
            · next hne =>
              have e1 : res o fr.ev a = fr.ev a := res_in (by rw [ho]; simp [Op.operands])
              have e2 : res o fr.ev x = fr.ev x := res_in (by rw [ho]; simp [Op.operands])
              exact StoreG.z hT ho hne (by rw [e1]; exact hb) hxy hy (by rw [e1, e2]; exact hk)
            · cases hk
          · cases hk
      · cases hk
    · cases hk
  · next s x t t' ho =>
    split at hk
    · next b x0 hb =>
      split at hk
      · next e =>
        subst e
        split at hk
        · next e =>
          subst e
          have e1 : res o fr.ev s = fr.ev s := res_in (by rw [ho]; simp [Op.operands, Call.operands])
          have e2 : res o fr.ev x = fr.ev x := res_in (by rw [ho]; simp [Op.operands, Call.operands])
          obtain ⟨b1, b', d, h1, h2, h3, h4⟩ := sAppend_z (ρ := res o fr.ev) hT ho (by rw [e1]; intro q; rw [q] at hb; cases hb) (by rw [e1, e2]; exact hk)
          rw [e1, hb] at h1
          cases h1
          rw [List.getD_eq_getElem?_getD, List.getElem?_set_self h2] at h4
          exact ⟨_, _, h3, fun p hp => by simp only [List.mem_singleton] at hp; subst hp; exact ⟨by simp, h2⟩, h4⟩
        · cases hk
      · cases hk
    · cases hk
  · cases hk
theorem vfoot_yt (hT : cx.T.ok P) : ∀ (os : List Oper) {i : Nat} {fr : Fr} {H : List Bk} {K : Fr → List Bk → Prop}, vfoot P cx ops mods i os fr H K → ∃ tr fr' H', YT P cx ops mods i os fr H tr fr' H' ∧ K fr' H'
  | [], i, fr, H, K, hk => ⟨[], fr, H, .nil, hk⟩
  | o :: os, i, fr, H, K, hk => by
    unfold vfoot at hk
    split at hk
    · cases hk
    · next hg =>
      split at hk
      · next ht =>
        obtain ⟨t, d, nw, h1, h2, h3, h4⟩ := vopq_trace hT hk
        simp only [List.length_append, maskH_len] at h4
        split at h4
        · next hf =>
          rw [← maskH_len (allM mods) [] 0 H, List.drop_left] at h4
          obtain ⟨tr, fr', H', h5, h6⟩ := vfoot_yt hT os h4
          refine ⟨_, fr', H', .cons hg (by rw [h1]; simpa [dstB] using h2) (by rw [ht]; exact h3.z) (fun p hp => by cases hp) (fun x hx1 hx2 j hj hxj => ?_) (by rw [h1]; exact h5), h6⟩
          unfold freshOK at hf
          have := List.all_eq_true.1 hf j (List.mem_range.2 hj)
          rwa [if_pos (within_spec hxj hx1 hx2)] at this
        · cases h4
      · next x xs ht =>
        split at hk
        · obtain ⟨t, d, nw, h1, h2, h3, h4⟩ := vopq_trace hT hk
          simp only [List.length_append, maskH_len] at h4
          split at h4
          · next hf =>
            rw [← maskH_len (allM mods) (x :: xs) 0 H, List.drop_left] at h4
            obtain ⟨tr, fr', H', h5, h6⟩ := vfoot_yt hT os h4
            refine ⟨_, fr', H', .cons hg (by rw [h1]; simpa [dstB] using h2) (by rw [ht]; exact h3.z) (fun p hp => by cases hp) (fun x hx1 hx2 j hj hxj => ?_) (by rw [h1]; exact h5), h6⟩
            unfold freshOK at hf
            have := List.all_eq_true.1 hf j (List.mem_range.2 hj)
            rwa [if_pos (within_spec hxj hx1 hx2)] at this
          · cases h4
        split at hk
        · next hd =>
          obtain ⟨d, md, h1, h2, h3⟩ := vopm_z hT hk
          obtain ⟨tr, fr', H', h5, h6⟩ := vfoot_yt hT os h3
          refine ⟨_, fr', H', .cons (nw := []) hg hd (by rw [ht]; exact h1) (fun p hp => by have := h2 p hp; rw [maskH_len] at this; rw [ht]; exact this) (fun x hx1 hx2 => by simp at hx2; omega) (by rw [List.append_nil]; exact h5), h6⟩
        · cases hk
def mdsOf (tr : List YS) : List (Nat × Bk) := (tr.map (·.md)).flatten
def nwsOf (tr : List YS) : List Bk := (tr.map (·.nw)).flatten
theorem YT.get {i0 : Nat} {os : List Oper} {fr fr' : Fr} {H H' : List Bk} {tr : List YS} (h : YT P cx ops mods i0 os fr H tr fr' H') : (∀ (a b : Nat) oa ob t, os[a]? = some oa → os[b]? = some ob → oa.dst = some t → ob.dst = some t → a = b) →
    tr.length = os.length ∧
    (∀ (k : Nat) s, tr[k]? = some s → ∃ o, os[k]? = some o ∧ o.guard = none ∧ dstB cx.nt o.dst = true ∧ OpZ P (maskH (allM mods) (touch mods (i0 + k)) 0 s.H) (res o s.fr.ev) o s.d s.nw s.md ∧ (∀ p ∈ s.md, p.1 ∈ touch mods (i0 + k) ∧ p.1 < s.H.length) ∧
      (∀ x, s.H.length ≤ x → x < s.H.length + s.nw.length → ∀ j, j < ops.size → x ∈ touch mods j → reach ops 6 (i0 + k) j = true) ∧ (∃ p, setL (H ++ nwsOf tr) (mdsOf (tr.take k)) = s.H ++ s.nw ++ p) ∧ (H.length ≤ s.H.length) ∧
      (∀ (j : Nat) s', j < k → tr[j]? = some s' → s'.H.length + s'.nw.length ≤ s.H.length) ∧
      (∀ t, (∀ (j : Nat) o', j < k → os[j]? = some o' → o'.dst ≠ some t) → s.fr.get t = fr.get t) ∧ (∀ t (j : Nat) s' o', j < k → tr[j]? = some s' → os[j]? = some o' → o'.dst = some t → s.fr.get t = s'.d)) ∧
    H' = setL (H ++ nwsOf tr) (mdsOf tr) ∧ (∀ t, (∀ (j : Nat) o', os[j]? = some o' → o'.dst ≠ some t) → fr'.get t = fr.get t) ∧ (∀ t (j : Nat) s' o', tr[j]? = some s' → os[j]? = some o' → o'.dst = some t → fr'.get t = s'.d) := by
  induction h with
  | nil => exact fun _ => ⟨rfl, fun k s hs => by simp at hs, by simp [nwsOf, mdsOf, setL], fun _ _ => rfl, fun t j s' o' hs => by simp at hs⟩
  | @cons i o os fr H d nw md tr fr' H' hg hd hop hmd hnw rest ih =>
    intro hu
    obtain ⟨h1, h2, h3, h4, h5⟩ := ih fun a b oa ob t q1 q2 q3 q4 => by
      have := hu (a + 1) (b + 1) oa ob t (by simpa using q1) (by simpa using q2) q3 q4
      omega
    have hput : ∀ t, o.dst ≠ some t → (fr.put o.dst d).get t = fr.get t := fun t ht => by
      unfold Fr.put
      split
      · next t' e => rw [Fr.get_set, if_neg fun q => ht (by rw [e, q])]
      · rfl
    have hput2 : ∀ t, o.dst = some t → (fr.put o.dst d).get t = d := fun t ht => by
      rw [ht]; simp [Fr.put, Fr.get_set]
    have hbase : setL (H ++ nwsOf (⟨fr, H, d, nw, md⟩ :: tr)) md = setL (H ++ nw) md ++ nwsOf tr := by
      rw [← setL_app md fun p hp => by have := (hmd p hp).2; simp; omega]
      simp [nwsOf]
    have hnot : ∀ t, o.dst = some t → ∀ (j : Nat) o', os[j]? = some o' → o'.dst ≠ some t := fun t ht j o' ho' e => by
      have := hu 0 (j + 1) o o' t rfl (by simpa using ho') ht e
      omega
    refine ⟨by simp [h1], fun k s hs => ?_, ?_, fun t ht => ?_, fun t j s' o' hs ho' hd' => ?_⟩
    · cases k with
      | zero =>
        simp only [List.getElem?_cons_zero, Option.some.injEq] at hs
        subst hs
        exact ⟨o, rfl, hg, hd, hop, hmd, hnw, ⟨nwsOf tr, by simp [mdsOf, setL, nwsOf]⟩, Nat.le_refl _, fun j s' hj => by omega, fun t _ => rfl, fun t j s' o' hj => by omega⟩
      | succ k =>
        simp only [List.getElem?_cons_succ] at hs
        obtain ⟨o1, g1, g2, g3, g4, g5, g6, ⟨p, g7⟩, g8, g9, g10, g11⟩ := h2 k s hs
        have e0 : i + 1 + k = i + (k + 1) := by omega
        rw [setL_len, List.length_append] at g8
        refine ⟨o1, by simpa using g1, g2, g3, by rw [← e0]; exact g4, by rw [← e0]; exact g5, by rw [← e0]; exact g6, ⟨p, ?_⟩, by omega, fun j s' hj hs' => ?_, fun t ht => ?_, fun t j s' o' hj hs' ho' hd' => ?_⟩
        · rw [← g7]
          simp only [List.take_succ_cons, mdsOf, List.map_cons, List.flatten_cons, setL_cat]
          rw [hbase]
        · cases j with
          | zero =>
            simp only [List.getElem?_cons_zero, Option.some.injEq] at hs'
            subst hs'
            exact g8
          | succ j => exact g9 j s' (by omega) (by simpa using hs')
        · rw [g10 t fun j o' hj ho' => ht (j + 1) o' (by omega) (by simpa using ho')]
          exact hput t (ht 0 o (by omega) rfl)
        · cases j with
          | zero =>
            simp only [List.getElem?_cons_zero, Option.some.injEq] at hs' ho'
            subst hs' ho'
            rw [g10 t fun j o' _ ho' => hnot t hd' j o' ho']
            exact hput2 t hd'
          | succ j => exact g11 t j s' o' (by omega) (by simpa using hs') (by simpa using ho') hd'
    · rw [h3]
      simp only [mdsOf, List.map_cons, List.flatten_cons, setL_cat]
      rw [hbase]
    · rw [h4 t fun j o' ho' => ht (j + 1) o' (by simpa using ho')]
      exact hput t (ht 0 o rfl)
    · cases j with
      | zero =>
        simp only [List.getElem?_cons_zero, Option.some.injEq] at hs ho'
        subst hs ho'
        rw [h4 t fun j o' ho' => hnot t hd' j o' ho']
        exact hput2 t hd'
      | succ j => exact h5 t j s' o' (by simpa using hs) (by simpa using ho') hd'
theorem reach_lt (T : TailW .any ops ops.size) : ∀ (f i j : Nat), reach ops f i j = true → i < j
  | 0, _, _, h => by cases h
  | f + 1, i, j, h => by
    unfold reach at h
    split at h
    · cases h
    · next o ho =>
      split at h
      · next hw =>
        obtain ⟨e, he, hb, rfl⟩ := waitsOn_spec hw
        exact T.back j o ho e he hb
      · obtain ⟨e, he, hp⟩ := anyE_spec h
        split at hp
        · next hb =>
          have := reach_lt T f i e.on hp
          have := T.back j o ho e (Array.mem_toList_iff.1 he) hb
          omega
        · cases hp
theorem mdsOf_take_succ {tr : List YS} {k : Nat} {s : YS} (h : tr[k]? = some s) : mdsOf (tr.take (k + 1)) = mdsOf (tr.take k) ++ s.md := by
  unfold mdsOf
  rw [List.take_add_one, h]
  simp
theorem FootP.intro {fr : Fr} {H : List Bk} {K : Fr → List Bk → Prop} (hT : cx.T.ok P) (hm : P.follows .mixedOrders = true) (mods : List (Nat × List Nat)) (hok : footOK ops mods = true) (h : vfoot P cx ops mods 0 ops.toList fr H K) : FootP P cx ops fr H K := by
  refine ⟨fun B E a w hnt hh0 hr Q hQ id => ?_⟩
  obtain ⟨tr, fr', H', ht, hK⟩ := vfoot_yt hT _ h
  unfold footOK at hok
  simp only [Bool.and_eq_true] at hok
  obtain ⟨⟨⟨ok1, ok2⟩, ok3⟩, ok4⟩ := hok
  have T := tailWB_spec ok1
  obtain ⟨n, hn⟩ : ∃ n, n = ops.size := ⟨_, rfl⟩
  have hlt : ∀ {j : Nat} {o : Oper}, ops[j]? = some o → j < n := fun ho => by rw [hn]; exact (Array.getElem?_eq_some_iff.1 ho).1
  have uniq : ∀ (a b : Nat) oa ob t, ops[a]? = some oa → ops[b]? = some ob → oa.dst = some t → ob.dst = some t → a = b := fun a b oa ob t q1 q2 q3 q4 => by
    unfold dstF at ok3
    have k1 := List.all_eq_true.1 (List.all_eq_true.1 ok3 a (List.mem_range.2 (by rw [← hn]; exact hlt q1))) b (List.mem_range.2 (by rw [← hn]; exact hlt q2))
    by_cases e : a = b
    · exact e
    · rw [if_neg e, q1, q2] at k1
      simp only [Option.bind_some, q3, q4, if_true] at k1
      cases k1
  have reads : ∀ {i j : Nat} {o oj : Oper} {t : Nat}, ops[i]? = some o → ops[j]? = some oj → oj.dst = some t →   .tmp t ∈ o.op.operands → reach ops 6 j i = true ∨ reach ops 6 i j = true := fun {i j o oj t} q1 q2 q3 q4 => by
    unfold readsF at ok2
    have k1 := List.all_eq_true.1 ok2 i (List.mem_range.2 (by rw [← hn]; exact hlt q1))
    rw [q1] at k1
    have k2 := List.all_eq_true.1 k1 j (List.mem_range.2 (by rw [← hn]; exact hlt q2))
    rw [q2] at k2
    simp only [Option.bind_some, q3] at k2
    rw [if_pos (Array.any_eq_true'.2 ⟨.tmp t, q4, by simp [isT]⟩)] at k2
    split at k2
    · next h => exact .inl h
    · exact .inr k2
  have ord : ∀ {i j x : Nat}, i < j → j < n → x ∈ touch mods i → x ∈ touch mods j → reach ops 6 i j = true := fun {i j x} q1 q2 q3 q4 => by
    unfold ordF at ok4
    have k1 := List.all_eq_true.1 (List.all_eq_true.1 ok4 i (List.mem_range.2 (by omega))) j (List.mem_range.2 (by omega))
    rwa [if_pos q1, if_pos (meets_spec q3 q4)] at k1
  obtain ⟨g1, g2, g3, g4, g5⟩ := ht.get fun a b oa ob t q1 q2 => uniq a b oa ob t (by simpa using q1) (by simpa using q2)
  simp only [Nat.zero_add, Array.getElem?_toList] at g2 g4 g5
  have htl : tr.length = n := by rw [g1, hn]; simp
  obtain ⟨Hb, hHb⟩ : ∃ Hb, Hb = H ++ nwsOf tr := ⟨_, rfl⟩
  rw [← hHb] at g2 g3
  have hget : ∀ {i : Nat} {o : Oper}, ops[i]? = some o → ∃ s, tr[i]? = some s := fun ho => ⟨_, List.getElem?_eq_getElem (by rw [htl]; exact hlt ho)⟩
  -- what the blocks hold behind k operations, in the order of the text
  have mdM : ∀ {k : Nat} {x : Nat}, (∀ j, j < k → x ∉ touch mods j) → ∀ b, (x, b) ∉ mdsOf (tr.take k) := fun {k x} hx b hb => by
    unfold mdsOf at hb
    simp only [List.mem_flatten, List.mem_map] at hb
    obtain ⟨_, ⟨s, hs, rfl⟩, hb⟩ := hb
    obtain ⟨j, hj⟩ := List.getElem?_of_mem hs
    have hjk : j < k := by have := (List.getElem?_eq_some_iff.1 hj).1; simp at this; omega
    rw [List.getElem?_take, if_pos hjk] at hj
    obtain ⟨_, _, _, _, _, k5, _⟩ := g2 j s hj
    exact hx j hjk (k5 _ hb).1
  have stab : ∀ (d : Nat) {a x : Nat}, a + d ≤ n → (∀ j, a ≤ j → j < a + d → x ∉ touch mods j) → (setL Hb (mdsOf (tr.take (a + d))))[x]? = (setL Hb (mdsOf (tr.take a)))[x]? := by
    intro d
    induction d with
    | zero => exact fun _ _ => rfl
    | succ d ih =>
      intro a x had hx
      obtain ⟨s, hs⟩ : ∃ s, tr[a + d]? = some s := ⟨_, List.getElem?_eq_getElem (by omega)⟩
      rw [show a + (d + 1) = (a + d) + 1 by omega, mdsOf_take_succ hs, setL_cat, setL_out _ _ _ fun b hb => ?_]
      · exact ih (by omega) fun j h1 h2 => hx j h1 (by omega)
      · obtain ⟨_, _, _, _, _, k5, _⟩ := g2 _ s hs
        exact hx (a + d) (by omega) (by omega) (k5 _ hb).1
  let J : List Nat → Act → World → Prop := fun U a' w' => ∃ E' Hx, WRel B Hx E' w' ∧ Hx.length = Hb.length ∧ (∀ x, x ∉ allM mods → Hx[x]? = Hb[x]?) ∧
    (∀ x, x ∈ allM mods → ∀ k, k ≤ n → (∀ j, j < k → x ∈ touch mods j → j ∉ U) → (∀ j, k ≤ j → j < n → x ∈ touch mods j → j ∈ U) → Hx[x]? = (setL Hb (mdsOf (tr.take k)))[x]?) ∧ a'.tmps.size = B.nt ∧ a'.defers = B.df ∧
    (∀ t, (∀ (j : Nat) (o : Oper), j ∉ U → ops[j]? = some o → o.dst ≠ some t) → DRep w' E' (fr.get t) (a'.tmps.getD t undef)) ∧ (∀ (j : Nat) (s : YS) (o : Oper) (t : Nat), j ∉ U → tr[j]? = some s → ops[j]? = some o → o.dst = some t → DRep w' E' s.d (a'.tmps.getD t undef)) ∧
    (∀ (j : Nat) (s : YS), j ∈ U → tr[j]? = some s → Fresh E' s.H.length (s.H.length + s.nw.length)) ∧ (∀ (j : Nat) (o : Oper), j ∉ U → ops[j]? = some o → ∀ e ∈ o.after, Region.binds .any e = true → e.on ∉ U)
  refine wp_region_any hm ?_
  rw [show wpAny P .any ops Q ops.size = wpAny P .any ops Q (n + 0) by rw [hn]; rfl]
  rw [← hn] at T
  refine wpAny_joint T J ?_ ?_ n (List.range n) _ a w.drew (by simp) List.nodup_range (by simp) (fun t => ?_) (fun t ht => by simpa using ht) (fun j o' hj hjn => absurd (List.mem_range.2 hj) hjn) ?_
  · intro U i o hUnd hiU hin ho hwait a' w' ⟨E', Hx, q1, q2, q3, q4, q5, q6, q7, q8, q9, q10⟩
    obtain ⟨s, hs⟩ := hget ho
    obtain ⟨o1, k1, k2, k3, k4, k5, k6, ⟨p, k7⟩, k8, k9, k10, k11⟩ := g2 i s hs
    rw [ho] at k1
    cases k1
    have hS : ∀ (j : Nat) (o : Oper), (j ∉ U) → ops[j]? = some o → ∀ e ∈ o.after, Region.binds .any e = true → e.on ∉ U := q10
    have rdy : ∀ {j}, reach ops 6 j i = true → j ∉ U := fun hr => reach_ready (S := fun j => j ∉ U) hS hr ho hwait
    have rch : ∀ {j}, reach ops 6 i j = true → j ∈ U := fun {j} hr => Classical.byContradiction fun q => reach_spec (S := fun j => j ∉ U) hS 6 i j hr q hiU
    have rlt : ∀ {f i j}, reach ops f i j = true → i < j := fun {f i j} hr => reach_lt (by rw [← hn]; exact T) f i j hr
    have cur : ∀ x, x ∈ touch mods i → Hx[x]? = (setL Hb (mdsOf (tr.take i)))[x]? := fun x hx => q4 x (touch_allM hx) i (by omega) (fun j hj hxj => rdy (ord hj hin hxj hx)) (fun j hj hjn hxj => by
      rcases Nat.lt_or_ge i j with q | q
      · exact rch (ord q hjn hx hxj)
      · rw [show j = i by omega]; exact hiU)
    have free : ∀ x, x ∉ allM mods → Hx[x]? = (setL Hb (mdsOf (tr.take i)))[x]? := fun x hx => by
      rw [q3 x hx, setL_out _ _ _ (mdM fun j _ q => hx (touch_allM q))]
    have hbl : (s.H ++ s.nw).length ≤ Hx.length := by
      have := congrArg List.length k7
      rw [setL_len] at this
      simp at this ⊢
      omega
    unfold wpOp
    rw [ho]
    simp only
    rw [show Region.wanted o (yielded ops a'.tmps) = true by unfold Region.wanted; rw [k2], if_pos rfl]
    refine .inl (k4 B Hx w' E' a' (fun x => ?_) q1 (by rw [List.length_append, maskH_len, ← List.length_append]; exact hbl) (fun x b hx => ?_) (by rw [maskH_len]; exact q9 i s hiU hs) _ Q fun v w2 E2 m1 m2 m3 m4 m5 => ?_)
    · unfold res
      split
      · next hx =>
        cases x with
        | tmp t =>
          show DRep w' E' (s.fr.get t) (a'.tmps.getD t undef)
          by_cases q : ∃ (j : Nat) (oj : Oper), ops[j]? = some oj ∧ oj.dst = some t
          · obtain ⟨j, oj, hj, hd⟩ := q
            obtain ⟨sj, hsj⟩ := hget hj
            rcases reads ho hj hd hx with hrj | hrj
            · rw [k11 t j sj oj (rlt hrj) hsj hj hd]
              exact q8 j sj oj t (rdy hrj) hsj hj hd
            · have hij := rlt hrj
              rw [k10 t fun j' o' hj' ho' hd' => by
                have := uniq j' j o' oj t ho' hj hd' hd
                omega]
              exact q7 t fun j' o' hj' ho' hd' => hj' (by rw [uniq j' j o' oj t ho' hj hd' hd]; exact rch hrj)
          · rw [k10 t fun j o' _ ho' hd => q ⟨j, o', ho', hd⟩]
            exact q7 t fun j o' _ ho' hd => q ⟨j, o', ho', hd⟩
        | const v => exact D.ofV_rep v
        | global g => exact (q1.laid.get _).undata q1.wf
        | func f => exact .fn rfl rfl (fun i d v h => by simp at h) (fun i d v h => by simp at h)
      · exact .junk
    · rcases Nat.lt_or_ge x s.H.length with q | q
      · rw [List.getElem?_append_left (by rw [maskH_len]; exact q)] at hx
        rcases maskH_get hx with hx | ⟨hx, hM⟩
        · exact .inl hx
        · refine .inr ?_
          rw [Nat.zero_add] at hM
          have e1 : (setL Hb (mdsOf (tr.take i)))[x]? = some b := by rw [k7, List.append_assoc, List.getElem?_append_left q, hx]
          by_cases q2 : x ∈ allM mods
          · rw [cur x (hM q2), e1]
          · rw [free x q2, e1]
      · rw [List.getElem?_append_right (by rw [maskH_len]; exact q), maskH_len] at hx
        have hlt2 : x - s.H.length < s.nw.length := (List.getElem?_eq_some_iff.1 hx).1
        have e1 : (setL Hb (mdsOf (tr.take i)))[x]? = some b := by rw [k7, List.append_assoc, List.getElem?_append_right q, List.getElem?_append_left hlt2, hx]
        refine .inr ?_
        rw [← e1]
        by_cases q2 : x ∈ allM mods
        · refine q4 x q2 i (by omega) (fun j hj hxj => ?_) fun j hj hjn hxj => ?_
          · have := rlt (k6 x q (by omega) j (by omega) hxj)
            omega
          · exact rch (k6 x q (by omega) j (by omega) hxj)
        · exact free x q2
    · rw [maskH_len] at m4
      have hne : ∀ {j}, j ∉ U.erase i → j = i ∨ j ∉ U := fun {j} hj => by
        by_cases e : j = i
        · exact .inl e
        · exact .inr fun q => hj ((hUnd.mem_erase_iff).2 ⟨e, q⟩)
      refine ⟨E2, setL Hx s.md, m1, by rw [setL_len, q2], fun x hx => ?_, fun x hx k hk c1 c2 => ?_, put_size.trans q5, put_defers'.trans q6, fun t ht => ?_, fun j s' o' t hj hs' ho' hd' => ?_, fun j s' hj hs' => ?_, fun j o' hj ho' e he hb => ?_⟩
      · rw [setL_out _ _ _ fun b hb => hx (touch_allM (k5 _ hb).1), q3 x hx]
      · by_cases hxi : x ∈ touch mods i
        · have hik : i < k := by
            rcases Nat.lt_or_ge i k with q | q
            · exact q
            · have := c2 i q hin hxi
              exact absurd rfl ((hUnd.mem_erase_iff).1 this).1
          have e1 := stab (k - (i + 1)) (a := i + 1) (x := x) (by omega) fun j h1 h2 h3 => by
            rcases hne (c1 j (by omega) h3) with q | q
            · omega
            · exact q (rch (ord (by omega) (by omega) hxi h3))
          rw [show i + 1 + (k - (i + 1)) = k by omega] at e1
          rw [e1, mdsOf_take_succ hs, setL_cat]
          exact setL_congr s.md (by rw [setL_len, q2]) (cur x hxi)
        · rw [setL_out _ _ _ fun b hb => hxi (k5 _ hb).1]
          refine q4 x hx k hk (fun j hj hxj => ?_) fun j hj hjn hxj => ((hUnd.mem_erase_iff).1 (c2 j hj hjn hxj)).2
          rcases hne (c1 j hj hxj) with q | q
          · exact absurd (q ▸ hxj) hxi
          · exact q
      · have e1 : (a'.put o.dst v).tmps.getD t undef = a'.tmps.getD t undef := by
          cases hd : o.dst with
          | none => rfl
          | some t' => exact eval_put_ne fun e => ht i o (fun q => absurd rfl ((hUnd.mem_erase_iff).1 q).1) ho (by rw [hd, e])
        rw [e1]
        exact (q7 t fun j o' hj ho' => ht j o' (fun q => hj ((hUnd.mem_erase_iff).1 q).2) ho').move m2 m3
      · by_cases e : j = i
        · subst e
          rw [hs] at hs'
          cases hs'
          rw [ho] at ho'
          cases ho'
          rw [hd']
          have htn : t < a'.tmps.size := by rw [q5, ← hnt]; rw [hd'] at k3; simpa [dstB] using k3
          rw [show (a'.put (some t) v).tmps.getD t undef = v from eval_put_same htn]
          exact m5
        · have e1 : (a'.put o.dst v).tmps.getD t undef = a'.tmps.getD t undef := by
            cases hd : o.dst with
            | none => rfl
            | some t' => exact eval_put_ne fun q => e (uniq j i o' o t ho' ho hd' (by rw [hd, q]))
          rw [e1]
          exact (q8 j s' o' t ((hne hj).resolve_left e) hs' ho' hd').move m2 m3
      · obtain ⟨e1, e2⟩ := (hUnd.mem_erase_iff).1 hj
        obtain ⟨oj, j1, _, _, _, _, j6, _, _, j9, _⟩ := g2 j s' hs'
        intro x hx1 hx2
        have hout : x < s.H.length ∨ s.H.length + s.nw.length ≤ x := by
          rcases Nat.lt_or_ge j i with q | q
          · have := k9 j s' q hs'
            omega
          · have := j9 i s (by omega) hs
            omega
        obtain ⟨f1, f2⟩ := m4 x hout fun b hb => rdy (j6 x hx1 hx2 i (by omega) (k5 _ hb).1) e2
        obtain ⟨f3, f4⟩ := q9 j s' e2 hs' x hx1 hx2
        exact ⟨f1.trans f3, f2.trans f4⟩
      · intro q
        have q := (hUnd.mem_erase_iff).1 q
        rcases hne hj with rfl | hj
        · rw [ho] at ho'
          cases ho'
          exact hwait e he hb q.2
        · exact q10 j o' hj ho' e he hb q.2
  · intro listed a' w' hs hu ⟨E', Hx, q1, q2, q3, q4, q5, q6, q7, q8, q9, q10⟩
    refine wpAny_tail T [] n listed a' w' (Nat.le_refl _) (fun j => by simp [hn]) hs hu ?_
    have hHx : Hx = H' := by
      have e0 : tr.take n = tr := List.take_of_length_le (by omega)
      refine List.ext_getElem? fun x => ?_
      rw [g3]
      by_cases q : x ∈ allM mods
      · rw [q4 x q n (Nat.le_refl _) (fun _ _ _ => by simp) (fun j h1 h2 => by omega), e0]
      · rw [q3 x q, ← e0, setL_out _ _ _ (mdM fun j _ q2 => q (touch_allM q2))]
    subst hHx
    refine hQ fr' Hx E' a' w' hK ⟨q5, q6, fun t => ?_, q1⟩
    by_cases q : ∃ (j : Nat) (oj : Oper), ops[j]? = some oj ∧ oj.dst = some t
    · obtain ⟨j, oj, hj, hd⟩ := q
      obtain ⟨sj, hsj⟩ := hget hj
      show DRep w' E' (fr'.get t) _
      rw [g5 t j sj oj hsj hj hd]
      exact q8 j sj oj t (by simp) hsj hj hd
    · show DRep w' E' (fr'.get t) _
      rw [g4 t fun j o' ho' hd => q ⟨j, o', ho', hd⟩]
      exact q7 t fun j o' _ ho' hd => q ⟨j, o', ho', hd⟩
  · simp only [List.mem_range]
    rcases Nat.lt_or_ge t ops.size with q | q
    · simp [q]; omega
    · simp [show ¬ t < ops.size by omega]; omega
  · obtain ⟨d1, d2⟩ := (hr.wr.ext (nwsOf tr)).drew
    refine ⟨E, Hb, by rw [hHb]; exact d1, rfl, fun _ _ => rfl, fun x hx k hk c1 c2 => ?_, hr.sz, hr.df, fun t _ => (hr.fr t).move d2 (Env.own.refl _), fun j s o t hj hs ho => absurd (List.mem_range.2 (hlt ho)) hj, fun j s hj hs x hx1 _ => ?_, fun j o hj ho => absurd (List.mem_range.2 (hlt ho)) hj⟩
    · rw [setL_out _ _ _ (mdM fun j hj q => ?_)]
      exact absurd (c1 j hj q) (by simp; omega)
    · obtain ⟨_, _, _, _, _, _, _, _, k8, _⟩ := g2 j s hs
      exact hr.wr.out x (by show H.length ≤ x; omega)
end
end Go.Proofs.YtffmgfehaahlhaaDoor
namespace Go.Proofs.YtffmgfehaahlhaaDoor
open Go.RowKit

/-! The types of the program, and its data as lists and numbers. -/
def TL : TabL :=
  [(3, ⟨.int .i64, 1, 8, .int .i64 0⟩),
   (4, ⟨.bool, 1, 1, .bool false⟩),
   (5, ⟨.int .u8, 1, 1, .int .u8 0⟩),
   (22, ⟨.slice 26, 1, 24, .slice none 0 0⟩),
   (23, ⟨.slice 28, 1, 24, .slice none 0 0⟩),
   (24, ⟨.slice 3, 1, 24, .slice none 0 0⟩),
   (26, ⟨.struct [(0, 1, false), (1, 1, false), (2, 1, false)], 3, 40, .agg #[.int .i64 0, .int .i64 0, .slice none 0 0]⟩),
   (28, ⟨.struct [(0, 1, false), (1, 1, false), (2, 1, false), (3, 1, false)], 4, 64, .agg #[.int .i64 0, .int .i64 0, .slice none 0 0, .slice none 0 0]⟩),
   (31, ⟨.int .i64, 1, 8, .int .i64 0⟩),
   (43, ⟨.map 3 4, 1, 8, .map none⟩),
   (53, ⟨.map 3 3, 1, 8, .map none⟩),
   (60, ⟨.func, 1, 8, .nilFunc⟩),
   (62, ⟨.ptr 74, 1, 8, .pointer none⟩),
   (63, ⟨.int .u64, 1, 8, .int .u64 0⟩),
   (64, ⟨.int .u64, 1, 8, .int .u64 0⟩),
   (66, ⟨.arr 16 64, 16, 128, .agg #[.int .u64 0, .int .u64 0, .int .u64 0, .int .u64 0, .int .u64 0, .int .u64 0, .int .u64 0, .int .u64 0, .int .u64 0, .int .u64 0, .int .u64 0, .int .u64 0, .int .u64 0, .int .u64 0, .int .u64 0, .int .u64 0]⟩),
   (70, ⟨.ptr 66, 1, 8, .pointer none⟩),
   (71, ⟨.slice 24, 1, 24, .slice none 0 0⟩),
   (72, ⟨.map 3 64, 1, 8, .map none⟩),
   (74, ⟨.struct [(0, 1, false), (1, 1, false), (2, 1, false), (3, 1, false)], 4, 80, .agg #[.slice none 0 0, .slice none 0 0, .map none, .slice none 0 0]⟩),
   (75, ⟨.func, 1, 8, .nilFunc⟩),
   (79, ⟨.func, 1, 8, .nilFunc⟩),
   (85, ⟨.arr 64 3, 64, 512, .agg #[.int .i64 0, .int .i64 0, .int .i64 0, .int .i64 0, .int .i64 0, .int .i64 0, .int .i64 0, .int .i64 0, .int .i64 0, .int .i64 0, .int .i64 0, .int .i64 0, .int .i64 0, .int .i64 0, .int .i64 0, .int .i64 0, .int .i64 0, .int .i64 0, .int .i64 0, .int .i64 0, .int .i64 0, .int .i64 0, .int .i64 0, .int .i64 0, .int .i64 0, .int .i64 0, .int .i64 0, .int .i64 0, .int .i64 0, .int .i64 0, .int .i64 0, .int .i64 0, .int .i64 0, .int .i64 0, .int .i64 0, .int .i64 0, .int .i64 0, .int .i64 0, .int .i64 0, .int .i64 0, .int .i64 0, .int .i64 0, .int .i64 0, .int .i64 0, .int .i64 0, .int .i64 0, .int .i64 0, .int .i64 0, .int .i64 0, .int .i64 0, .int .i64 0, .int .i64 0, .int .i64 0, .int .i64 0, .int .i64 0, .int .i64 0, .int .i64 0, .int .i64 0, .int .i64 0, .int .i64 0, .int .i64 0, .int .i64 0, .int .i64 0, .int .i64 0]⟩),
   (89, ⟨.int .u64, 1, 8, .int .u64 0⟩),
   (90, ⟨.arr 64 5, 64, 64, .agg #[.int .u8 0, .int .u8 0, .int .u8 0, .int .u8 0, .int .u8 0, .int .u8 0, .int .u8 0, .int .u8 0, .int .u8 0, .int .u8 0, .int .u8 0, .int .u8 0, .int .u8 0, .int .u8 0, .int .u8 0, .int .u8 0, .int .u8 0, .int .u8 0, .int .u8 0, .int .u8 0, .int .u8 0, .int .u8 0, .int .u8 0, .int .u8 0, .int .u8 0, .int .u8 0, .int .u8 0, .int .u8 0, .int .u8 0, .int .u8 0, .int .u8 0, .int .u8 0, .int .u8 0, .int .u8 0, .int .u8 0, .int .u8 0, .int .u8 0, .int .u8 0, .int .u8 0, .int .u8 0, .int .u8 0, .int .u8 0, .int .u8 0, .int .u8 0, .int .u8 0, .int .u8 0, .int .u8 0, .int .u8 0, .int .u8 0, .int .u8 0, .int .u8 0, .int .u8 0, .int .u8 0, .int .u8 0, .int .u8 0, .int .u8 0, .int .u8 0, .int .u8 0, .int .u8 0, .int .u8 0, .int .u8 0, .int .u8 0, .int .u8 0, .int .u8 0]⟩)]
def T : Tab := fun t => TL.get t
theorem T_ok : T.ok Tryd.prog := by
  refine TabL.ok (L := TL) ?_
  intro p hp
  simp only [TL, List.mem_cons, List.not_mem_nil, or_false] at hp
  rcases hp with rfl | rfl | rfl | rfl | rfl | rfl | rfl | rfl | rfl | rfl | rfl | rfl | rfl | rfl | rfl | rfl | rfl | rfl | rfl | rfl | rfl | rfl | rfl | rfl | rfl <;> kernel_rfl
theorem follows : Tryd.prog.follows .mixedOrders = true := by kernel_rfl
abbrev intC (x : Int) : List D := [.int .i64 (.var x)]
abbrev natC (n : Nat) : List D := [.int .i64 (.nat n)]
structure IssuedD where
  round : Int
  person : Int
  nil : Bool
  values : List Int
abbrev IssuedD.c (x : IssuedD) : List D := [.int .i64 (.var x.round), .int .i64 (.var x.person), .slm 1 (some (.var x.nil)) intC x.values]
structure SeenD where
  group : Int
  round : Int
  nilf : Bool
  fields : List Int
  nilv : Bool
  values : List Int
abbrev SeenD.c (s : SeenD) : List D := [.int .i64 (.var s.group), .int .i64 (.var s.round), .slm 1 (some (.var s.nilf)) intC s.fields, .slm 1 (some (.var s.nilv)) intC s.values]
abbrev i64 (x : Int) : D := .int .i64 (.var x)
abbrev boolD (b : Bool) : D := .bool (.var b)
theorem ncast (n : Nat) : @NatCast.natCast Int instNatCastInt n = (n : Int) := rfl
theorem IE.u8_d {b : BitVec 8} : (IE.u8 b).den = (b.toNat : Int) := rfl
theorem drop_cons {α : Type} {l : List α} {k : Nat} {x : α} (h : l[k]? = some x) : l.drop k = x :: l.drop (k + 1) := by
  obtain ⟨h1, h2⟩ := List.getElem?_eq_some_iff.1 h
  rw [List.drop_eq_getElem_cons h1, h2]
theorem OEq.refl (o : Option D) : OEq o o := by
  cases o with
  | none => exact .none
  | some d => exact .some (.refl d)
theorem w64 {x : Int} (h1 : -9223372036854775808 ≤ x) (h2 : x ≤ 9223372036854775807) : IntKind.i64.wrap x = x := by
  rw [IntKind.wrap_i64]; omega
theorem add64 {a b : Int} (h1 : -9223372036854775808 ≤ a + b) (h2 : a + b ≤ 9223372036854775807) : binDen .add .i64 a b = a + b := w64 h1 h2
theorem sub64 {a b : Int} (h1 : -9223372036854775808 ≤ a - b) (h2 : a - b ≤ 9223372036854775807) : binDen .sub .i64 a b = a - b := w64 h1 h2
/-- what is valid -/
def valB (x : Int) : Bool := decide (0 ≤ x ∧ x ≤ 1048576)
def valsB (l : List Int) : Bool := l.all valB
def risB (last : Int) : List Int → Bool
  | [] => true
  | f :: r => decide (last < f ∧ f < 12) && risB f r
def issB (x : IssuedD) : Bool := decide (0 ≤ x.round ∧ 0 ≤ x.person ∧ x.person < 4096 ∧ x.values.length ≤ 12) && valsB x.values
def seenB (s : SeenD) : Bool := decide (0 ≤ s.group ∧ 0 ≤ s.round ∧ s.fields.length = s.values.length) && (risB (-1) s.fields && valsB s.values)
def checkB (issued : List IssuedD) (seen : List SeenD) : Bool := decide (issued.length ≤ 64 ∧ seen.length ≤ 16) && (issued.all issB && seen.all seenB)
def fitF (xs : List Int) : List Int → List Int → Bool
  | [], _ => true
  | f :: fs, v :: vs => decide (0 ≤ f ∧ f < xs.length ∧ xs[f.toNat]? = some v) && fitF xs fs vs
  | _ :: _, [] => false
def fitsB (x : IssuedD) (s : SeenD) : Bool := decide (x.round = s.round ∧ s.fields.length ≤ s.values.length) && fitF x.values s.fields s.values
def fewB (issued : List IssuedD) (seen : List SeenD) : Bool := (issued.all fun x => decide (x.values.length ≤ 16)) && ((seen.all fun s => decide (s.fields.length ≤ 16 ∧ s.values.length ≤ 16)) && decide (issued.length ≤ 12 ∧ seen.length ≤ 5))
/-- what fits into a machine -/
structure BigI (l : List IssuedD) : Prop where
  len : l.length < 9223372036854775807
  vals : ∀ x ∈ l, x.values.length < 9223372036854775807
structure BigS (l : List SeenD) : Prop where
  len : l.length < 9223372036854775807
  fields : ∀ x ∈ l, x.fields.length < 9223372036854775807
  vals : ∀ x ∈ l, x.values.length < 9223372036854775807
end Go.Proofs.YtffmgfehaahlhaaDoor
namespace Go.Proofs.YtffmgfehaahlhaaDoor
open Go.RowKit

/-! Values that are valid: small, all, in, values. -/
set_option maxRecDepth 100000 in
set_option maxHeartbeats 4000000 in
theorem small_pure (x : Int) : Pure Tryd.prog 44 [i64 x] (boolD (valB x)) := by
  obtain ⟨r, hr⟩ : ∃ r, r = valB x := ⟨_, rfl⟩
  rw [← hr]
  refine Pure.intro (want := [boolD r]) T_ok follows Tryd.func44 rfl (by kernel_rfl) (rs := [.tmp 2]) rfl (by kernel_rfl) ?_
  generalize hP : Tryd.prog = P
  have hT : T.ok P := hP ▸ T_ok
  have hm : P.follows .mixedOrders = true := hP ▸ follows
  unfold Tryd.f44
  dsimp only
  cbv
  refine SplitP.mk (fun hs => ?_) (fun hs => ?_) <;> simp only [BE.lss_t, BE.lss_f, BE.leq_t, BE.leq_f, BE.gtr_t, BE.gtr_f, BE.geq_t, BE.geq_f, BE.eql_t, BE.eql_f, BE.neq_t, BE.neq_f, BE.not_t, BE.not_f, BE.var_d, BE.lit_d, BE.seq_t, BE.seq_f, BE.beq_t, BE.beq_f, IE.var_d, IE.lit_d, IE.nat_d, IE.len_d, IE.sum_d, IE.u8_d, ncast, Int.ofNat_lt, Int.ofNat_le, Int.ofNat_inj] at hs
  · refine .mk (.cons (.eq (.bool ?_)) .nil) rfl
    show decide (x ≤ 1048576) = r
    rw [hr, valB]
    exact decide_eq_decide.2 ⟨fun h => ⟨hs, h⟩, fun h => h.2⟩
  · refine .mk (.cons (.eq (.bool ?_)) .nil) rfl
    rw [BE.lit_d, BE.var_d]
    rw [hr, valB]; exact (decide_eq_false (by omega)).symm
set_option maxRecDepth 100000 in
set_option maxHeartbeats 4000000 in
theorem notsmall_pure (x : Int) : Pure Tryd.prog 43 [i64 x] (boolD (!valB x)) := by
  have hS := small_pure x
  obtain ⟨b, hb⟩ : ∃ b, b = valB x := ⟨_, rfl⟩
  rw [← hb] at hS ⊢
  refine Pure.intro (want := [boolD (!b)]) T_ok follows Tryd.func43 rfl (by kernel_rfl) (rs := [.tmp 2]) rfl (by kernel_rfl) ?_
  generalize hP : Tryd.prog = P at *
  have hT : T.ok P := hP ▸ T_ok
  have hm : P.follows .mixedOrders = true := hP ▸ follows
  unfold Tryd.f43
  dsimp only
  cbv
  refine CallP.pure _ hS rfl ?_
  cbv
  exact .mk (.cons (.eq (.bool rfl)) .nil) rfl
/-- where the first one is -/
def ixP {α : Type} (p : α → Bool) : List α → Nat → Int
  | [], _ => -1
  | x :: r, k => if p x then k else ixP p r (k + 1)
theorem ixP_ge {α : Type} (p : α → Bool) : ∀ (l : List α) (k : Nat), decide (ixP p l k ≥ 0) = l.any p
  | [], k => rfl
  | x :: r, k => by
    unfold ixP
    by_cases h : p x = true
    · rw [if_pos h, decide_eq_true (show (k : Int) ≥ 0 by omega)]
      simp [h]
    · rw [if_neg h, ixP_ge p r (k + 1)]
      simp [h]
set_option maxRecDepth 100000 in
set_option maxHeartbeats 4000000 in
theorem Index0_pure {α : Type} (e : α → IE) (l : List α) (nb : Option BE) (g : Nat) (p : α → Bool) (hp : ∀ x ∈ l, Pure Tryd.prog g ([.int .i64 (e x)] ++ []) (boolD (p x))) (hl : l.length < 9223372036854775807) : Pure Tryd.prog 52 [.slm 1 nb (fun x => [.int .i64 (e x)]) l, .fn (.func g) [] []] (i64 (ixP p l 0)) := by
  obtain ⟨r, hr⟩ : ∃ r, r = ixP p l 0 := ⟨_, rfl⟩
  rw [← hr]
  obtain ⟨n, hn⟩ : ∃ n : Nat, n = l.length := ⟨_, rfl⟩
  refine Pure.intro (want := [i64 r]) T_ok follows Tryd.func52 rfl (by kernel_rfl) (rs := [.tmp 4]) rfl (by kernel_rfl) ?_
  generalize hP : Tryd.prog = P at *
  have hT : T.ok P := hP ▸ T_ok
  have hm : P.follows .mixedOrders = true := hP ▸ follows
  unfold Tryd.f52
  dsimp only
  cbv
  refine CodeP.loopc hT hm (X := Nat) (fun k => [(8, .int .i64 (.nat k))]) (fun k => k ≤ l.length ∧ r = ixP p (l.drop k) k) (fun k => n - k) 0 ⟨by simp, hr⟩ (Nat.zero_le _) ?_ rfl ?_
  · (cbv; (repeat' (first | exact SnD.refl _ | exact trivial | exact SnD.nat0 | refine And.intro ?_ ?_)))
  intro k ⟨hk, hq⟩
  cbv
  refine SplitP.mk (fun hs => ?_) (fun hs => ?_)
  · have hkn : k < l.length := by
      have h5 : decide ((k : Int) < (l.length : Int)) = true := hs
      have := of_decide_eq_true h5
      omega
    clear hs
    refine ElemP.mk (by show (0 : Int) ≤ (k : Int) ∧ (k : Int) < (l.length : Int); omega) (fun x hx => ?_)
    replace hx : l[k]? = some x := hx
    rw [drop_cons hx] at hq
    simp only [ixP] at hq
    refine CallP.pure _ (hp x (List.mem_of_getElem? hx)) rfl ?_
    cbv
    refine SplitP.mk (fun hs => ?_) (fun hs => ?_)
    · replace hs : p x = true := hs
      refine .mk (.cons (.eq (.int ?_)) .nil) rfl
      rw [hq, if_pos hs] 
      rfl
    · replace hs : p x = false := hs
      rw [if_neg (by rw [hs]; exact Bool.false_ne_true)] at hq
      refine BackP.intro (k + 1) ⟨by omega, hq⟩ (by show n - (k + 1) < n - k; omega) ⟨?_, HEnt.refl _, rfl⟩
      (cbv; (repeat' (first | exact SnD.refl _ | exact trivial | exact SnD.nat0 | refine And.intro ?_ ?_)))
      exact .inc (by omega)
  · have hkn : l.length ≤ k := by
      have h5 : decide ((k : Int) < (l.length : Int)) = false := hs
      have := of_decide_eq_false h5
      omega
    clear hs
    refine .mk (.cons (.eq (.int ?_)) .nil) rfl
    rw [IE.lit_d, IE.var_d, hq, List.drop_of_length_le (by omega)]
    rfl
set_option maxRecDepth 100000 in
set_option maxHeartbeats 4000000 in
theorem Has0_pure {α : Type} (e : α → IE) (l : List α) (nb : Option BE) (g : Nat) (p : α → Bool) (hp : ∀ x ∈ l, Pure Tryd.prog g ([.int .i64 (e x)] ++ []) (boolD (p x))) (hl : l.length < 9223372036854775807) : Pure Tryd.prog 42 [.slm 1 nb (fun x => [.int .i64 (e x)]) l, .fn (.func g) [] []] (boolD (l.any p)) := by
  have hI := Index0_pure e l nb g p hp hl
  have hge := ixP_ge p l 0
  obtain ⟨x, hx⟩ : ∃ x, x = ixP p l 0 := ⟨_, rfl⟩
  rw [← hx] at hI hge
  rw [← hge]
  obtain ⟨r, hr⟩ : ∃ r, r = decide (x ≥ 0) := ⟨_, rfl⟩
  rw [← hr]
  refine Pure.intro (want := [boolD r]) T_ok follows Tryd.func42 rfl (by kernel_rfl) (rs := [.tmp 4]) rfl (by kernel_rfl) ?_
  generalize hP : Tryd.prog = P at *
  have hT : T.ok P := hP ▸ T_ok
  have hm : P.follows .mixedOrders = true := hP ▸ follows
  unfold Tryd.f42
  dsimp only
  cbv
  refine CallP.pure _ hI rfl ?_
  cbv
  exact .mk (.cons (.eq (.bool hr.symm)) .nil) rfl
set_option maxRecDepth 100000 in
set_option maxHeartbeats 4000000 in
theorem Index3_pure {α : Type} (e : α → IE) (l : List α) (nb : Option BE) (g : Nat) (c1 c2 c3 : List D) (p : α → Bool) (hp : ∀ x ∈ l, Pure Tryd.prog g ([.int .i64 (e x)] ++ [.dp c1 0, .dp c2 0, .dp c3 0]) (boolD (p x))) (hl : l.length < 9223372036854775807) : Pure Tryd.prog 52 [.slm 1 nb (fun x => [.int .i64 (e x)]) l, .fn (.func g) [] [.dp c1 0, .dp c2 0, .dp c3 0]] (i64 (ixP p l 0)) := by
  obtain ⟨r, hr⟩ : ∃ r, r = ixP p l 0 := ⟨_, rfl⟩
  rw [← hr]
  obtain ⟨n, hn⟩ : ∃ n : Nat, n = l.length := ⟨_, rfl⟩
  refine Pure.intro (want := [i64 r]) T_ok follows Tryd.func52 rfl (by kernel_rfl) (rs := [.tmp 4]) rfl (by kernel_rfl) ?_
  generalize hP : Tryd.prog = P at *
  have hT : T.ok P := hP ▸ T_ok
  have hm : P.follows .mixedOrders = true := hP ▸ follows
  unfold Tryd.f52
  dsimp only
  cbv
  refine CodeP.loopc hT hm (X := Nat) (fun k => [(8, .int .i64 (.nat k))]) (fun k => k ≤ l.length ∧ r = ixP p (l.drop k) k) (fun k => n - k) 0 ⟨by simp, hr⟩ (Nat.zero_le _) ?_ rfl ?_
  · (cbv; (repeat' (first | exact SnD.refl _ | exact trivial | exact SnD.nat0 | refine And.intro ?_ ?_)))
  intro k ⟨hk, hq⟩
  cbv
  refine SplitP.mk (fun hs => ?_) (fun hs => ?_)
  · have hkn : k < l.length := by
      have h5 : decide ((k : Int) < (l.length : Int)) = true := hs
      have := of_decide_eq_true h5
      omega
    clear hs
    refine ElemP.mk (by show (0 : Int) ≤ (k : Int) ∧ (k : Int) < (l.length : Int); omega) (fun x hx => ?_)
    replace hx : l[k]? = some x := hx
    rw [drop_cons hx] at hq
    simp only [ixP] at hq
    refine CallP.pure _ (hp x (List.mem_of_getElem? hx)) rfl ?_
    cbv
    refine SplitP.mk (fun hs => ?_) (fun hs => ?_)
    · replace hs : p x = true := hs
      refine .mk (.cons (.eq (.int ?_)) .nil) rfl
      rw [hq, if_pos hs] 
      rfl
    · replace hs : p x = false := hs
      rw [if_neg (by rw [hs]; exact Bool.false_ne_true)] at hq
      refine BackP.intro (k + 1) ⟨by omega, hq⟩ (by show n - (k + 1) < n - k; omega) ⟨?_, HEnt.refl _, rfl⟩
      (cbv; (repeat' (first | exact SnD.refl _ | exact trivial | exact SnD.nat0 | refine And.intro ?_ ?_)))
      exact .inc (by omega)
  · have hkn : l.length ≤ k := by
      have h5 : decide ((k : Int) < (l.length : Int)) = false := hs
      have := of_decide_eq_false h5
      omega
    clear hs
    refine .mk (.cons (.eq (.int ?_)) .nil) rfl
    rw [IE.lit_d, IE.var_d, hq, List.drop_of_length_le (by omega)]
    rfl
set_option maxRecDepth 100000 in
set_option maxHeartbeats 4000000 in
theorem Has3_pure {α : Type} (e : α → IE) (l : List α) (nb : Option BE) (g : Nat) (c1 c2 c3 : List D) (p : α → Bool) (hp : ∀ x ∈ l, Pure Tryd.prog g ([.int .i64 (e x)] ++ [.dp c1 0, .dp c2 0, .dp c3 0]) (boolD (p x))) (hl : l.length < 9223372036854775807) : Pure Tryd.prog 42 [.slm 1 nb (fun x => [.int .i64 (e x)]) l, .fn (.func g) [] [.dp c1 0, .dp c2 0, .dp c3 0]] (boolD (l.any p)) := by
  have hI := Index3_pure e l nb g c1 c2 c3 p hp hl
  have hge := ixP_ge p l 0
  obtain ⟨x, hx⟩ : ∃ x, x = ixP p l 0 := ⟨_, rfl⟩
  rw [← hx] at hI hge
  rw [← hge]
  obtain ⟨r, hr⟩ : ∃ r, r = decide (x ≥ 0) := ⟨_, rfl⟩
  rw [← hr]
  refine Pure.intro (want := [boolD r]) T_ok follows Tryd.func42 rfl (by kernel_rfl) (rs := [.tmp 4]) rfl (by kernel_rfl) ?_
  generalize hP : Tryd.prog = P at *
  have hT : T.ok P := hP ▸ T_ok
  have hm : P.follows .mixedOrders = true := hP ▸ follows
  unfold Tryd.f42
  dsimp only
  cbv
  refine CallP.pure _ hI rfl ?_
  cbv
  exact .mk (.cons (.eq (.bool hr.symm)) .nil) rfl
theorem any_not (p : Int → Bool) : ∀ l : List Int, (!(l.any fun x => !p x)) = l.all p
  | [] => rfl
  | x :: l => by simp [← any_not p l]
set_option maxRecDepth 100000 in
set_option maxHeartbeats 4000000 in
theorem all_pure (l : List Int) (nb : Option BE) (hl : l.length < 9223372036854775807) : Pure Tryd.prog 31 [.slm 1 nb intC l] (boolD (valsB l)) := by
  have hH := Has0_pure (fun x : Int => .var x) l nb 43 (fun x => !valB x) (fun x _ => notsmall_pure x) hl
  have hv : valsB l = !(l.any fun x => !valB x) := (any_not valB l).symm
  rw [hv]
  obtain ⟨b, hb⟩ : ∃ b, b = l.any fun x => !valB x := ⟨_, rfl⟩
  rw [← hb] at hH ⊢
  refine Pure.intro (want := [boolD (!b)]) T_ok follows Tryd.func31 rfl (by kernel_rfl) (rs := [.tmp 2]) rfl (by kernel_rfl) ?_
  generalize hP : Tryd.prog = P at *
  have hT : T.ok P := hP ▸ T_ok
  have hm : P.follows .mixedOrders = true := hP ▸ follows
  unfold Tryd.f31
  dsimp only
  cbv
  refine CallP.pure _ hH rfl ?_
  cbv
  exact .mk (.cons (.eq (.bool rfl)) .nil) rfl
set_option maxRecDepth 100000 in
set_option maxHeartbeats 4000000 in
theorem in_pure (x a b : Int) : Pure Tryd.prog 33 [i64 x, .int .i64 (.lit a), .int .i64 (.lit b)] (boolD (decide (a ≤ x ∧ x ≤ b))) := by
  obtain ⟨r, hr⟩ : ∃ r, r = decide (a ≤ x ∧ x ≤ b) := ⟨_, rfl⟩
  rw [← hr]
  refine Pure.intro (want := [boolD r]) T_ok follows Tryd.func33 rfl (by kernel_rfl) (rs := [.tmp 6]) rfl (by kernel_rfl) ?_
  generalize hP : Tryd.prog = P
  have hT : T.ok P := hP ▸ T_ok
  have hm : P.follows .mixedOrders = true := hP ▸ follows
  unfold Tryd.f33
  dsimp only
  cbv
  refine SplitP.mk (fun hs => ?_) (fun hs => ?_) <;> simp only [BE.lss_t, BE.lss_f, BE.leq_t, BE.leq_f, BE.gtr_t, BE.gtr_f, BE.geq_t, BE.geq_f, BE.eql_t, BE.eql_f, BE.neq_t, BE.neq_f, BE.not_t, BE.not_f, BE.var_d, BE.lit_d, BE.seq_t, BE.seq_f, BE.beq_t, BE.beq_f, IE.var_d, IE.lit_d, IE.nat_d, IE.len_d, IE.sum_d, IE.u8_d, ncast, Int.ofNat_lt, Int.ofNat_le, Int.ofNat_inj] at hs
  · refine .mk (.cons (.eq (.bool ?_)) .nil) rfl
    show decide (x ≤ b) = r
    rw [hr]
    exact decide_eq_decide.2 ⟨fun h => ⟨hs, h⟩, fun h => h.2⟩
  · refine .mk (.cons (.eq (.bool ?_)) .nil) rfl
    rw [BE.lit_d, BE.var_d]
    rw [hr]; exact (decide_eq_false (by omega)).symm
theorem in_pure2 (x b : Int) : Pure Tryd.prog 33 [i64 x, .int .i64 (.lit 0), i64 b] (boolD (decide (0 ≤ x ∧ x ≤ b))) := by
  obtain ⟨r, hr⟩ : ∃ r, r = decide (0 ≤ x ∧ x ≤ b) := ⟨_, rfl⟩
  rw [← hr]
  refine Pure.intro (want := [boolD r]) T_ok follows Tryd.func33 rfl (by kernel_rfl) (rs := [.tmp 6]) rfl (by kernel_rfl) ?_
  generalize hP : Tryd.prog = P
  have hT : T.ok P := hP ▸ T_ok
  have hm : P.follows .mixedOrders = true := hP ▸ follows
  unfold Tryd.f33
  dsimp only
  cbv
  refine SplitP.mk (fun hs => ?_) (fun hs => ?_) <;> simp only [BE.lss_t, BE.lss_f, BE.leq_t, BE.leq_f, BE.gtr_t, BE.gtr_f, BE.geq_t, BE.geq_f, BE.eql_t, BE.eql_f, BE.neq_t, BE.neq_f, BE.not_t, BE.not_f, BE.var_d, BE.lit_d, BE.seq_t, BE.seq_f, BE.beq_t, BE.beq_f, IE.var_d, IE.lit_d, IE.nat_d, IE.len_d, IE.sum_d, IE.u8_d, ncast, Int.ofNat_lt, Int.ofNat_le, Int.ofNat_inj] at hs
  · refine .mk (.cons (.eq (.bool ?_)) .nil) rfl
    show decide (x ≤ b) = r
    rw [hr]
    exact decide_eq_decide.2 ⟨fun h => ⟨hs, h⟩, fun h => h.2⟩
  · refine .mk (.cons (.eq (.bool ?_)) .nil) rfl
    rw [BE.lit_d, BE.var_d]
    rw [hr]; exact (decide_eq_false (by omega)).symm
def inB (x b : Int) : Bool := decide (0 ≤ x ∧ x ≤ b)
theorem inB_t {x b : Int} (h : inB x b = true) : 0 ≤ x ∧ x ≤ b := of_decide_eq_true h
theorem inB_f {x b : Int} (h : inB x b = false) : ¬ (0 ≤ x ∧ x ≤ b) := of_decide_eq_false h
/-- within a list's bounds -/
theorem in_len (k : Nat) (hk : k < 9223372036854775807) (f : Int → Int → Bool) (hf : f = inB) (e : IE) (he : e.den = binDen .sub .i64 (k : Int) 1) (x : Int) : Pure Tryd.prog 33 [i64 x, .int .i64 (.lit 0), .int .i64 e] (boolD (f x ((k : Int) - 1))) := by
  subst hf
  refine Pure.args (.cons (.refl _) (.cons (.refl _) (.cons (.int ?_) .nil))) (in_pure2 x ((k : Int) - 1))
  rw [he, sub64 (by omega) (by omega), IE.var_d]
set_option maxRecDepth 100000 in
set_option maxHeartbeats 4000000 in
theorem values_pure (l : List Int) (nb : Option BE) (hl : l.length < 9223372036854775807) : Pure Tryd.prog 41 [.slm 1 nb intC l] (boolD (valsB l)) := by
  obtain ⟨r, hr⟩ : ∃ r, r = valsB l := ⟨_, rfl⟩
  rw [← hr]
  obtain ⟨n, hn⟩ : ∃ n : Nat, n = l.length := ⟨_, rfl⟩
  obtain ⟨vb, hvb⟩ : ∃ f, f = valB := ⟨_, rfl⟩
  have hin : ∀ x : Int, Pure Tryd.prog 33 [i64 x, .int .i64 (.lit 0), .int .i64 (.lit 1048576)] (boolD (vb x)) := fun x => by rw [hvb]; exact in_pure x 0 1048576
  refine Pure.intro (want := [boolD r]) T_ok follows Tryd.func41 rfl (by kernel_rfl) (rs := [.tmp 2]) rfl (by kernel_rfl) ?_
  generalize hP : Tryd.prog = P at *
  have hT : T.ok P := hP ▸ T_ok
  have hm : P.follows .mixedOrders = true := hP ▸ follows
  unfold Tryd.f41
  dsimp only
  cbv
  refine CodeP.loopc hT hm (X := Nat) (fun k => [(3, .int .i64 (.nat k))]) (fun k => k ≤ l.length ∧ r = valsB (l.drop k)) (fun k => n - k) 0 ⟨by simp, hr⟩ (Nat.zero_le _) ?_ rfl ?_
  · (cbv; (repeat' (first | exact SnD.refl _ | exact trivial | exact SnD.nat0 | refine And.intro ?_ ?_)))
  intro k ⟨hk, hq⟩
  cbv
  refine SplitP.mk (fun hs => ?_) (fun hs => ?_)
  · have hkn : k < l.length := by
      have h5 : decide ((k : Int) < (l.length : Int)) = true := hs
      have := of_decide_eq_true h5
      omega
    clear hs
    refine ElemP.mk (by show (0 : Int) ≤ (k : Int) ∧ (k : Int) < (l.length : Int); omega) (fun x hx => ?_)
    replace hx : l[k]? = some x := hx
    rw [drop_cons hx] at hq
    simp only [valsB, List.all_cons, ← hvb] at hq
    refine CallP.pure _ (hin x) rfl ?_
    cbv
    refine SplitP.mk (fun hs => ?_) (fun hs => ?_)
    · replace hs : vb x = false := by simpa using (show (!vb x) = true from hs)
      refine .mk (.cons (.eq (.bool ?_)) .nil) rfl
      rw [BE.lit_d, BE.var_d]
      rw [hq, hs]; rfl
    · replace hs : vb x = true := by simpa using (show (!vb x) = false from hs)
      refine BackP.intro (k + 1) ⟨by omega, by rw [hq, hs, hvb]; rfl⟩ (by show n - (k + 1) < n - k; omega) ⟨?_, HEnt.refl _, rfl⟩
      (cbv; (repeat' (first | exact SnD.refl _ | exact trivial | exact SnD.nat0 | refine And.intro ?_ ?_)))
      exact .inc (by omega)
  · have hkn : l.length ≤ k := by
      have h5 : decide ((k : Int) < (l.length : Int)) = false := hs
      have := of_decide_eq_false h5
      omega
    clear hs
    refine .mk (.cons (.eq (.bool ?_)) .nil) rfl
    rw [BE.lit_d, BE.var_d]
    rw [hq, List.drop_of_length_le (by omega)]; rfl
end Go.Proofs.YtffmgfehaahlhaaDoor
namespace Go.Proofs.YtffmgfehaahlhaaDoor
open Go.RowKit

/-! What an explanation is. -/
def personI (I : List IssuedD) (c : Int) : Int := match I[c.toNat]? with | some x => x.person | none => 0
def groupS (S : List SeenD) (i : Nat) : Int := match S[i]? with | some s => s.group | none => 0
def fitsI (I : List IssuedD) (S : List SeenD) (c : Int) (i : Nat) : Bool := match I[c.toNat]?, S[i]? with | some x, some s => fitsB x s | _, _ => false
def fitAt (I : List IssuedD) (S : List SeenD) (cs : List Int) (i : Nat) : Bool := match cs[i]? with | some c => decide (0 ≤ c ∧ c < I.length) && fitsI I S c i | none => false
def pairAt (I : List IssuedD) (S : List SeenD) (cs : List Int) (i k : Nat) : Bool := match cs[k]?, cs[i]? with | some a, some b => !decide (a = b) && !decide (groupS S k = groupS S i ∧ ¬ personI I a = personI I b) | _, _ => false
def okI (I : List IssuedD) (S : List SeenD) (cs : List Int) (i : Nat) : Bool := fitAt I S cs i && (List.range i).all (pairAt I S cs i)
def explB (I : List IssuedD) (S : List SeenD) (cs : List Int) : Bool := (List.range cs.length).all (okI I S cs)
theorem range_all {n : Nat} {f : Nat → Bool} : (List.range n).all f = true ↔ ∀ i, i < n → f i = true := by simp
theorem range_all_f {n i : Nat} {f : Nat → Bool} (hi : i < n) (h : f i = false) : (List.range n).all f = false := by
  cases hb : (List.range n).all f with
  | false => rfl
  | true => rw [range_all.1 hb i hi] at h; cases h
/-- an explanation of the first sights, in words -/
structure Ex (I : List IssuedD) (S : List SeenD) (cs : List Int) : Prop where
  fit : ∀ (i : Nat) (c : Int), cs[i]? = some c → 0 ≤ c ∧ c < I.length ∧ fitsI I S c i = true
  apart : ∀ (k i : Nat) (a b : Int), k < i → cs[k]? = some a → cs[i]? = some b → a ≠ b ∧ (groupS S k = groupS S i → personI I a = personI I b)
theorem explB_iff {I : List IssuedD} {S : List SeenD} {cs : List Int} : explB I S cs = true ↔ Ex I S cs := by
  unfold explB
  rw [range_all]
  constructor
  · intro h
    have key : ∀ (i : Nat) (c : Int), cs[i]? = some c → fitAt I S cs i = true ∧ ∀ k, k < i → pairAt I S cs i k = true := fun i c hc => by
      have := h i (List.getElem?_eq_some_iff.1 hc).1
      simp only [okI, Bool.and_eq_true] at this
      exact ⟨this.1, fun k hk => range_all.1 this.2 k hk⟩
    refine ⟨fun i c hc => ?_, fun k i a b hk ha hb => ?_⟩
    · have := (key i c hc).1
      simp only [fitAt, hc, Bool.and_eq_true, decide_eq_true_eq] at this
      exact ⟨this.1.1, this.1.2, this.2⟩
    · have := (key i b hb).2 k hk
      simp only [pairAt, ha, hb, Bool.and_eq_true, Bool.not_eq_true', decide_eq_false_iff_not] at this
      refine ⟨this.1, fun hg => Classical.byContradiction fun q => this.2 ⟨hg, q⟩⟩
  · intro h i hi
    have hc : cs[i]? = some cs[i] := List.getElem?_eq_getElem hi
    simp only [okI, Bool.and_eq_true]
    refine ⟨?_, range_all.2 fun k hk => ?_⟩
    · obtain ⟨h1, h2, h3⟩ := h.fit i _ hc
      simp [fitAt, h1, h2, h3, hi]
    · have ha : cs[k]? = some (cs[k]'(by omega)) := List.getElem?_eq_getElem (by omega)
      obtain ⟨h1, h2⟩ := h.apart k i _ _ hk ha hc
      simp only [pairAt, ha, hc, Bool.and_eq_true, Bool.not_eq_true', decide_eq_false_iff_not]
      exact ⟨h1, fun q => q.2 (h2 q.1)⟩
theorem fitsI_eq {I : List IssuedD} {S : List SeenD} {c : Int} {i : Nat} {x : IssuedD} {s : SeenD} (hx : I[c.toNat]? = some x) (hs : S[i]? = some s) : fitsI I S c i = fitsB x s := by simp [fitsI, hx, hs]
theorem personI_eq {I : List IssuedD} {c : Int} {x : IssuedD} (hx : I[c.toNat]? = some x) : personI I c = x.person := by simp [personI, hx]
theorem groupS_eq {S : List SeenD} {i : Nat} {s : SeenD} (hs : S[i]? = some s) : groupS S i = s.group := by simp [groupS, hs]
theorem fitAt_eq {I : List IssuedD} {S : List SeenD} {cs : List Int} {i : Nat} {c : Int} {x : IssuedD} {s : SeenD} (hc : cs[i]? = some c) (h0 : 0 ≤ c) (hl : c.toNat < I.length) (hx : I[c.toNat]? = some x) (hs : S[i]? = some s) : fitAt I S cs i = fitsB x s := by
  simp only [fitAt, hc, fitsI_eq hx hs]
  rw [decide_eq_true ⟨h0, by omega⟩, Bool.true_and]
theorem fitAt_no {I : List IssuedD} {S : List SeenD} {cs : List Int} {i : Nat} {c : Int} (hc : cs[i]? = some c) (h0 : ¬ (0 ≤ c ∧ c.toNat < I.length)) : fitAt I S cs i = false := by
  simp only [fitAt, hc]
  rw [decide_eq_false (fun h => h0 ⟨h.1, by omega⟩)]
  rfl
end Go.Proofs.YtffmgfehaahlhaaDoor
namespace Go.Proofs.YtffmgfehaahlhaaDoor
open Go.RowKit

/-! The reference: Issued, Seen, Check. -/
set_option maxRecDepth 100000 in
set_option maxHeartbeats 4000000 in
theorem Issued_pure (x : IssuedD) (hx : x.values.length < 9223372036854775807) : Pure Tryd.prog 25 [.agg x.c] (boolD (issB x)) := by
  obtain ⟨r, hr⟩ : ∃ r, r = issB x := ⟨_, rfl⟩
  rw [← hr]
  obtain ⟨xr, xp, xn, xs⟩ := x
  simp only at hx
  simp only [issB] at hr
  have hV := values_pure xs (some (.var xn)) hx
  obtain ⟨vb, hvb⟩ : ∃ b, b = valsB xs := ⟨_, rfl⟩
  rw [← hvb] at hV hr
  have hin := in_pure xp 0 4095
  obtain ⟨ib, hib⟩ : ∃ b, b = decide (0 ≤ xp ∧ xp ≤ 4095) := ⟨_, rfl⟩
  rw [← hib] at hin
  refine Pure.intro (want := [boolD r]) T_ok follows Tryd.func25 rfl (by kernel_rfl) (rs := [.tmp 2]) rfl (by kernel_rfl) ?_
  generalize hP : Tryd.prog = P at *
  have hT : T.ok P := hP ▸ T_ok
  have hm : P.follows .mixedOrders = true := hP ▸ follows
  unfold Tryd.f25
  dsimp only
  cbv
  refine SplitP.mk (fun hs => ?_) (fun hs => ?_) <;> simp only [BE.lss_t, BE.lss_f, BE.leq_t, BE.leq_f, BE.gtr_t, BE.gtr_f, BE.geq_t, BE.geq_f, BE.eql_t, BE.eql_f, BE.neq_t, BE.neq_f, BE.not_t, BE.not_f, BE.var_d, BE.lit_d, BE.seq_t, BE.seq_f, BE.beq_t, BE.beq_f, IE.var_d, IE.lit_d, IE.nat_d, IE.len_d, IE.sum_d, IE.u8_d, ncast, Int.ofNat_lt, Int.ofNat_le, Int.ofNat_inj] at hs
  rotate_left
  · refine .mk (.cons (.eq (.bool ?_)) .nil) rfl
    rw [BE.lit_d, BE.var_d]
    rw [hr, decide_eq_false (by omega)]; rfl
  refine CallP.pure _ hin rfl ?_
  cbv
  refine SplitP.mk (fun h2 => ?_) (fun h2 => ?_)
  rotate_left
  · replace h2 : ib = false := h2
    rw [hib] at h2
    have := of_decide_eq_false h2
    refine .mk (.cons (.eq (.bool ?_)) .nil) rfl
    rw [BE.lit_d, BE.var_d]
    rw [hr, decide_eq_false (by omega)]; rfl
  replace h2 : ib = true := h2
  rw [hib] at h2
  have h2 := of_decide_eq_true h2
  refine SplitP.mk (fun h3 => ?_) (fun h3 => ?_)
  rotate_left
  · have := of_decide_eq_false (show decide ((xs.length : Int) ≤ 12) = false from h3)
    refine .mk (.cons (.eq (.bool ?_)) .nil) rfl
    rw [BE.lit_d, BE.var_d]
    rw [hr, decide_eq_false (by omega)]; rfl
  have h3 : xs.length ≤ 12 := by have := of_decide_eq_true (show decide ((xs.length : Int) ≤ 12) = true from h3); omega
  refine CallP.pure _ hV rfl ?_
  cbv
  refine .mk (.cons (.eq (.bool ?_)) .nil) rfl
  show vb = r
  rw [hr, decide_eq_true (by omega), Bool.true_and]
theorem ris_step (f : Int → Int → Bool) (hf : f = inB) (last x : Int) (l : List Int) : risB last (x :: l) = (decide (last < x ∧ x < 12) && risB x l) := rfl
set_option maxRecDepth 100000 in
set_option maxHeartbeats 4000000 in
theorem Seen_pure (s : SeenD) (hf : s.fields.length < 9223372036854775807) (hv : s.values.length < 9223372036854775807) : Pure Tryd.prog 27 [.agg s.c] (boolD (seenB s)) := by
  obtain ⟨r, hr⟩ : ∃ r, r = seenB s := ⟨_, rfl⟩
  rw [← hr]
  obtain ⟨sg, sr, sn, fs, sm, vs⟩ := s
  simp only at hf hv
  simp only [seenB] at hr
  have hV := values_pure vs (some (.var sm)) hv
  obtain ⟨vb, hvb⟩ : ∃ b, b = valsB vs := ⟨_, rfl⟩
  rw [← hvb] at hV hr
  obtain ⟨ib, hib⟩ : ∃ f, f = inB := ⟨_, rfl⟩
  have hin : ∀ x : Int, Pure Tryd.prog 33 [i64 x, .int .i64 (.lit 0), .int .i64 (.lit 11)] (boolD (ib x 11)) := fun x => by rw [hib]; exact in_pure x 0 11
  obtain ⟨n, hn⟩ : ∃ n : Nat, n = fs.length := ⟨_, rfl⟩
  obtain ⟨gb, hgb⟩ : ∃ b, b = decide (0 ≤ sg ∧ 0 ≤ sr ∧ fs.length = vs.length) := ⟨_, rfl⟩
  rw [← hgb] at hr
  have r0 : risB (-1) fs = false → r = false := fun h => by rw [hr, h]; simp
  obtain ⟨prev, hprev⟩ : ∃ f : Nat → Int, f = fun k => if k = 0 then -1 else (fs[k - 1]?).getD 0 := ⟨_, rfl⟩
  refine Pure.intro (want := [boolD r]) T_ok follows Tryd.func27 rfl (by kernel_rfl) (rs := [.tmp 2]) rfl (by kernel_rfl) ?_
  generalize hP : Tryd.prog = P at *
  have hT : T.ok P := hP ▸ T_ok
  have hm : P.follows .mixedOrders = true := hP ▸ follows
  unfold Tryd.f27
  dsimp only
  cbv
  refine CodeP.loopc hT hm (X := Nat) (fun k => [(3, .int .i64 (.nat k))]) (fun k => k ≤ fs.length ∧ risB (-1) fs = risB (prev k) (fs.drop k) ∧ (0 < k → 0 ≤ prev k)) (fun k => n - k) 0 ⟨by simp, by rw [hprev]; rfl, fun h => by omega⟩ (by simp) ?_ rfl ?_
  · (cbv; (repeat' (first | exact SnD.refl _ | exact trivial | exact SnD.nat0 | refine And.intro ?_ ?_)))
  intro k ⟨hk, hq, hpos⟩
  cbv
  refine SplitP.mk (fun hs => ?_) (fun hs => ?_)
  · have hkn : k < fs.length := by
      have h5 : decide ((k : Int) < (fs.length : Int)) = true := hs
      have := of_decide_eq_true h5
      omega
    clear hs
    refine DrawP.mk (by kernel_rfl) ?_
    cbv
    refine ElemP.mk (by show (0 : Int) ≤ (k : Int) ∧ (k : Int) < (fs.length : Int); omega) (fun f hf1 => ?_)
    replace hf1 : fs[k]? = some f := hf1
    rw [drop_cons hf1] at hq
    simp only [risB] at hq
    have hp0 : k = 0 → prev k = -1 := fun e => by rw [hprev]; simp [e]
    have hp1 : prev (k + 1) = f := by rw [hprev]; simp [hf1]
    cbv
    refine PureP.mk _ (hin f) rfl ?_
    cbv
    refine SplitP.mk (fun h4 => ?_) (fun h4 => ?_)
    · replace h4 : ib f 11 = false := by simpa using (show (!ib f 11) = true from h4)
      rw [hib] at h4
      have := inB_f h4
      have hk0 : prev k < f ∧ f < 12 → False := fun h => by
        rcases Nat.eq_zero_or_pos k with q | q
        · have := hp0 q; omega
        · have := hpos q; omega
      refine .mk (.cons (.eq (.bool ?_)) .nil) rfl
      rw [BE.lit_d, BE.var_d]
      rw [r0 (by rw [hq, decide_eq_false (fun h => hk0 h)]; rfl)]
    replace h4 : ib f 11 = true := by simpa using (show (!ib f 11) = false from h4)
    rw [hib] at h4
    have h5 := inB_t h4
    refine SplitP.mk (fun h6 => ?_) (fun h6 => ?_)
    · have hk0 : 0 < k := by have := of_decide_eq_true (show decide ((k : Int) > 0) = true from h6); omega
      have e1 : IE.den (.bin .sub .i64 (.nat k) (.lit 1)) = ((k - 1 : Nat) : Int) := by
        show binDen .sub .i64 (k : Int) 1 = _
        rw [sub64 (by omega) (by omega)]
        omega
      refine ElemP.mk (by rw [e1]; constructor <;> omega) (fun p hp => ?_)
      rw [e1] at hp
      replace hp : fs[k - 1]? = some p := hp
      have hpp : prev k = p := by rw [hprev]; simp [hp]; omega
      cbv
      refine ElemP.mk (by show (0 : Int) ≤ (k : Int) ∧ (k : Int) < (fs.length : Int); omega) (fun f2 hf2 => ?_)
      replace hf2 : fs[k]? = some f2 := hf2
      rw [hf1] at hf2
      simp only [Option.some.injEq] at hf2
      subst hf2
      cbv
      refine SplitP.mk (fun h7 => ?_) (fun h7 => ?_) <;> simp only [BE.geq_t, BE.geq_f, IE.var_d] at h7
      · refine .mk (.cons (.eq (.bool ?_)) .nil) rfl
        rw [BE.lit_d, BE.var_d]
        rw [r0 (by rw [hq, decide_eq_false (by omega)]; rfl)]
      · refine BackP.intro (k + 1) ⟨by omega, by rw [hq, hp1, decide_eq_true (by omega)]; rfl, fun _ => by rw [hp1]; omega⟩ (by show n - (k + 1) < n - k; omega) ⟨?_, HEnt.refl _, rfl⟩
        (cbv; (repeat' (first | exact SnD.refl _ | exact trivial | exact SnD.nat0 | refine And.intro ?_ ?_)))
        exact .inc (by omega)
    · have hk0 : k = 0 := by have := of_decide_eq_false (show decide ((k : Int) > 0) = false from h6); omega
      have := hp0 hk0
      refine BackP.intro (k + 1) ⟨by omega, by rw [hq, hp1, decide_eq_true (by omega)]; rfl, fun _ => by rw [hp1]; omega⟩ (by show n - (k + 1) < n - k; omega) ⟨?_, HEnt.refl _, rfl⟩
      (cbv; (repeat' (first | exact SnD.refl _ | exact trivial | exact SnD.nat0 | refine And.intro ?_ ?_)))
      exact .inc (by omega)
  · have hkn : fs.length ≤ k := by
      have h5 : decide ((k : Int) < (fs.length : Int)) = false := hs
      have := of_decide_eq_false h5
      omega
    clear hs
    have r1 : risB (-1) fs = true := by rw [hq, List.drop_of_length_le (by omega)]; rfl
    rw [r1, Bool.true_and] at hr
    clear hq r0 r1
    refine SplitP.mk (fun h1 => ?_) (fun h1 => ?_) <;> simp only [BE.geq_t, BE.geq_f, IE.var_d, IE.lit_d] at h1
    rotate_left
    · refine .mk (.cons (.eq (.bool ?_)) .nil) rfl
      rw [BE.lit_d, BE.var_d]
      rw [hr, hgb, decide_eq_false (by omega)]; rfl
    refine SplitP.mk (fun h2 => ?_) (fun h2 => ?_) <;> simp only [BE.geq_t, BE.geq_f, IE.var_d, IE.lit_d] at h2
    rotate_left
    · refine .mk (.cons (.eq (.bool ?_)) .nil) rfl
      rw [BE.lit_d, BE.var_d]
      rw [hr, hgb, decide_eq_false (by omega)]; rfl
    refine SplitP.mk (fun h3 => ?_) (fun h3 => ?_)
    rotate_left
    · have h4 : ((vs.length : Int) == (fs.length : Int)) = false := h3
      refine .mk (.cons (.eq (.bool ?_)) .nil) rfl
      rw [BE.lit_d, BE.var_d]
      rw [hr, hgb, decide_eq_false (fun e => by rw [e.2.2] at h4; simp at h4)]; rfl
    have h4 : fs.length = vs.length := by
      have h4 : ((vs.length : Int) == (fs.length : Int)) = true := h3
      simp at h4
      omega
    refine CallP.pure _ hV rfl ?_
    cbv
    refine .mk (.cons (.eq (.bool ?_)) .nil) rfl
    show vb = r
    rw [hr, hgb, decide_eq_true ⟨h1, h2, h4⟩, Bool.true_and]
set_option maxRecDepth 100000 in
set_option maxHeartbeats 4000000 in
theorem RCheck_pure (l : List IssuedD) (m : List SeenD) (na nb : Option BE) (hl : BigI l) (hs' : BigS m) : Pure Tryd.prog 15 [.slm 3 na IssuedD.c l, .slm 4 nb SeenD.c m] (i64 (if checkB l m then 0 else 300)) := by
  have hI : ∀ x ∈ l, Pure Tryd.prog 25 [.agg x.c] (boolD (issB x)) := fun x hx => Issued_pure x (hl.vals x hx)
  have hS : ∀ x ∈ m, Pure Tryd.prog 27 [.agg x.c] (boolD (seenB x)) := fun x hx => Seen_pure x (hs'.fields x hx) (hs'.vals x hx)
  have hl0 := hl.len
  have hm0 := hs'.len
  obtain ⟨ok, hok⟩ : ∃ b, b = checkB l m := ⟨_, rfl⟩
  rw [← hok]
  simp only [checkB] at hok
  obtain ⟨fi, hfi⟩ : ∃ f, f = issB := ⟨_, rfl⟩
  obtain ⟨fs, hfs⟩ : ∃ f, f = seenB := ⟨_, rfl⟩
  rw [← hfi] at hI hok
  rw [← hfs] at hS hok
  obtain ⟨r, hr⟩ : ∃ r : Int, r = if ok then 0 else 300 := ⟨_, rfl⟩
  rw [← hr]
  have bad : ok = false → (300 : Int) = r := fun h => by rw [hr, h]; rfl
  obtain ⟨n, hn⟩ : ∃ n : Nat, n = l.length := ⟨_, rfl⟩
  obtain ⟨n2, hn2⟩ : ∃ n : Nat, n = m.length := ⟨_, rfl⟩
  refine Pure.intro (want := [i64 r]) T_ok follows Tryd.func15 rfl (by kernel_rfl) (rs := [.tmp 4]) rfl (by kernel_rfl) ?_
  generalize hP : Tryd.prog = P at *
  have hT : T.ok P := hP ▸ T_ok
  have hm : P.follows .mixedOrders = true := hP ▸ follows
  unfold Tryd.f15
  dsimp only
  cbv
  refine SplitP.mk (fun h1 => ?_) (fun h1 => ?_)
  · have := of_decide_eq_true (show decide ((l.length : Int) > 64) = true from h1)
    refine .mk (.cons (.eq (.int ?_)) .nil) rfl
    rw [IE.lit_d, IE.var_d]
    exact bad (by rw [hok, decide_eq_false (by omega)]; rfl)
  have h1 : l.length ≤ 64 := by have := of_decide_eq_false (show decide ((l.length : Int) > 64) = false from h1); omega
  refine SplitP.mk (fun h2 => ?_) (fun h2 => ?_)
  · have := of_decide_eq_true (show decide ((m.length : Int) > 16) = true from h2)
    refine .mk (.cons (.eq (.int ?_)) .nil) rfl
    rw [IE.lit_d, IE.var_d]
    exact bad (by rw [hok, decide_eq_false (by omega)]; rfl)
  have h2 : m.length ≤ 16 := by have := of_decide_eq_false (show decide ((m.length : Int) > 16) = false from h2); omega
  rw [decide_eq_true ⟨h1, h2⟩, Bool.true_and] at hok
  refine CodeP.loopc hT hm (X := Nat) (fun k => [(5, .int .i64 (.nat k))]) (fun k => k ≤ l.length ∧ ok = ((l.drop k).all fi && m.all fs)) (fun k => n - k) 0 ⟨by simp, hok⟩ (Nat.zero_le _) ?_ rfl ?_
  · (cbv; (repeat' (first | exact SnD.refl _ | exact trivial | exact SnD.nat0 | refine And.intro ?_ ?_)))
  intro k ⟨hk, hq⟩
  cbv
  refine SplitP.mk (fun hs => ?_) (fun hs => ?_)
  · have hkn : k < l.length := by
      have h5 : decide ((k : Int) < (l.length : Int)) = true := hs
      have := of_decide_eq_true h5
      omega
    clear hs
    refine ElemP.mk (by show (0 : Int) ≤ (k : Int) ∧ (k : Int) < (l.length : Int); omega) (fun x hx => ?_)
    replace hx : l[k]? = some x := hx
    have hIx := hI x (List.mem_of_getElem? hx)
    rw [drop_cons hx] at hq
    simp only [List.all_cons] at hq
    obtain ⟨fx, hfx⟩ : ∃ b, b = fi x := ⟨_, rfl⟩
    rw [← hfx] at hIx hq
    clear hfx
    obtain ⟨xr, xp, xn, xv⟩ := x
    cbv
    refine CallP.pure _ hIx rfl ?_
    cbv
    refine SplitP.mk (fun hs => ?_) (fun hs => ?_)
    · replace hs : fx = false := by simpa using (show (!fx) = true from hs)
      refine .mk (.cons (.eq (.int ?_)) .nil) rfl
      rw [IE.lit_d, IE.var_d]
      exact bad (by rw [hq, hs]; rfl)
    · replace hs : fx = true := by simpa using (show (!fx) = false from hs)
      refine BackP.intro (k + 1) ⟨by omega, by rw [hq, hs]; rfl⟩ (by show n - (k + 1) < n - k; omega) ⟨?_, HEnt.refl _, rfl⟩
      (cbv; (repeat' (first | exact SnD.refl _ | exact trivial | exact SnD.nat0 | refine And.intro ?_ ?_)))
      exact .inc (by omega)
  have hkn : l.length ≤ k := by
    have h5 : decide ((k : Int) < (l.length : Int)) = false := hs
    have := of_decide_eq_false h5
    omega
  clear hs
  have hr2 : ok = m.all fs := by rw [hq, List.drop_of_length_le (by omega)]; rfl
  clear hq hok hkn hk
  refine CodeP.loopc hT hm (X := Nat) (fun k => [(6, .int .i64 (.nat k))]) (fun k => k ≤ m.length ∧ ok = (m.drop k).all fs) (fun k => n2 - k) 0 ⟨by simp, hr2⟩ (Nat.zero_le _) ?_ rfl ?_
  · (cbv; (repeat' (first | exact SnD.refl _ | exact trivial | exact SnD.nat0 | refine And.intro ?_ ?_)))
  intro j ⟨hj, hq⟩
  cbv
  refine SplitP.mk (fun hs => ?_) (fun hs => ?_)
  · have hkn : j < m.length := by
      have h5 : decide ((j : Int) < (m.length : Int)) = true := hs
      have := of_decide_eq_true h5
      omega
    clear hs
    refine ElemP.mk (by show (0 : Int) ≤ (j : Int) ∧ (j : Int) < (m.length : Int); omega) (fun x hx => ?_)
    replace hx : m[j]? = some x := hx
    have hSx := hS x (List.mem_of_getElem? hx)
    rw [drop_cons hx] at hq
    simp only [List.all_cons] at hq
    obtain ⟨fx, hfx⟩ : ∃ b, b = fs x := ⟨_, rfl⟩
    rw [← hfx] at hSx hq
    clear hfx
    obtain ⟨sg, sr, sn, sf, sm, sv⟩ := x
    cbv
    refine CallP.pure _ hSx rfl ?_
    cbv
    refine SplitP.mk (fun hs => ?_) (fun hs => ?_)
    · replace hs : fx = false := by simpa using (show (!fx) = true from hs)
      refine .mk (.cons (.eq (.int ?_)) .nil) rfl
      rw [IE.lit_d, IE.var_d]
      exact bad (by rw [hq, hs]; rfl)
    · replace hs : fx = true := by simpa using (show (!fx) = false from hs)
      refine BackP.intro (j + 1) ⟨by omega, by rw [hq, hs]; rfl⟩ (by show n2 - (j + 1) < n2 - j; omega) ⟨?_, HEnt.refl _, rfl⟩
      (cbv; (repeat' (first | exact SnD.refl _ | exact trivial | exact SnD.nat0 | refine And.intro ?_ ?_)))
      exact .inc (by omega)
  · have hkn : m.length ≤ j := by
      have h5 : decide ((j : Int) < (m.length : Int)) = false := hs
      have := of_decide_eq_false h5
      omega
    clear hs
    have : ok = true := by rw [hq, List.drop_of_length_le (by omega)]; rfl
    refine .mk (.cons (.eq (.int ?_)) .nil) rfl
    rw [IE.lit_d, IE.var_d]
    rw [hr, this]; rfl
end Go.Proofs.YtffmgfehaahlhaaDoor
namespace Go.Proofs.YtffmgfehaahlhaaDoor
open Go.RowKit

/-! Fits, of the program and of the reference. -/
theorem fitF_len : ∀ (xs fs vs : List Int), fs.length > vs.length → fitF xs fs vs = false
  | xs, [], vs, h => by simp at h
  | xs, f :: fs, [], h => rfl
  | xs, f :: fs, v :: vs, h => by
    simp only [fitF]
    rw [fitF_len xs fs vs (by simpa using h)]
    simp
set_option maxRecDepth 100000 in
set_option maxHeartbeats 4000000 in
theorem Fits_pure (x : IssuedD) (s : SeenD) (hx : x.values.length < 9223372036854775807) (hf : s.fields.length < 9223372036854775807) (hv : s.values.length < 9223372036854775807) : Pure Tryd.prog 16 [.agg x.c, .agg s.c] (boolD (fitsB x s)) := by
  obtain ⟨r, hr⟩ : ∃ r, r = fitsB x s := ⟨_, rfl⟩
  rw [← hr]
  obtain ⟨xr, xp, xn, xs⟩ := x
  obtain ⟨sg, sr, sn, fs, sm, vs⟩ := s
  simp only at hx hf hv
  simp only [fitsB] at hr
  obtain ⟨n, hn⟩ : ∃ n : Nat, n = fs.length := ⟨_, rfl⟩
  refine Pure.intro (want := [boolD r]) T_ok follows Tryd.func16 rfl (by kernel_rfl) (rs := [.tmp 4]) rfl (by kernel_rfl) ?_
  generalize hP : Tryd.prog = P
  have hT : T.ok P := hP ▸ T_ok
  have hm : P.follows .mixedOrders = true := hP ▸ follows
  unfold Tryd.f16
  dsimp only
  cbv
  refine SplitP.mk (fun hs => ?_) (fun hs => ?_) <;> simp only [BE.neq_t, BE.neq_f, IE.var_d] at hs
  · refine .mk (.cons (.eq (.bool ?_)) .nil) rfl
    rw [BE.lit_d, BE.var_d]
    rw [hr, decide_eq_false (fun e => hs e.1)]; rfl
  refine SplitP.mk (fun h2 => ?_) (fun h2 => ?_)
  · have h3 := of_decide_eq_true (show decide ((vs.length : Int) < (fs.length : Int)) = true from h2)
    refine .mk (.cons (.eq (.bool ?_)) .nil) rfl
    rw [BE.lit_d, BE.var_d]
    rw [hr, decide_eq_false (by omega)]; rfl
  have h3 : fs.length ≤ vs.length := by have := of_decide_eq_false (show decide ((vs.length : Int) < (fs.length : Int)) = false from h2); omega
  rw [decide_eq_true (by omega), Bool.true_and] at hr
  clear h2
  refine CodeP.loopc hT hm (X := Nat) (fun k => [(24, .int .i64 (.nat k))]) (fun k => k ≤ fs.length ∧ r = fitF xs (fs.drop k) (vs.drop k)) (fun k => n - k) 0 ⟨by simp, hr⟩ (by simp) ?_ rfl ?_
  · (cbv; (repeat' (first | exact SnD.refl _ | exact trivial | exact SnD.nat0 | refine And.intro ?_ ?_)))
  intro k ⟨hk, hq⟩
  cbv
  refine SplitP.mk (fun hs => ?_) (fun hs => ?_)
  · have hkn : k < fs.length := by
      have h5 : decide ((k : Int) < (fs.length : Int)) = true := hs
      have := of_decide_eq_true h5
      omega
    clear hs
    refine ElemP.mk (by show (0 : Int) ≤ (k : Int) ∧ (k : Int) < (fs.length : Int); omega) (fun f hf1 => ?_)
    replace hf1 : fs[k]? = some f := hf1
    obtain ⟨v, hv1⟩ : ∃ v, vs[k]? = some v := ⟨_, List.getElem?_eq_getElem (by omega)⟩
    rw [drop_cons hf1, drop_cons hv1] at hq
    simp only [fitF] at hq
    cbv
    refine SplitP.mk (fun h4 => ?_) (fun h4 => ?_) <;> simp only [BE.lss_t, BE.lss_f, IE.var_d, IE.lit_d] at h4
    · refine .mk (.cons (.eq (.bool ?_)) .nil) rfl
      rw [BE.lit_d, BE.var_d]
      rw [hq, decide_eq_false (by omega)]; rfl
    refine SplitP.mk (fun h5 => ?_) (fun h5 => ?_)
    · have h6 := of_decide_eq_true (show decide (f ≥ (xs.length : Int)) = true from h5)
      refine .mk (.cons (.eq (.bool ?_)) .nil) rfl
      rw [BE.lit_d, BE.var_d]
      rw [hq, decide_eq_false (by ((try simp only [ncast] at *); omega))]; rfl
    have h6 : f.toNat < xs.length := by have := of_decide_eq_false (show decide (f ≥ (xs.length : Int)) = false from h5); omega
    refine ElemP.mk (by show (0 : Int) ≤ f ∧ f < (xs.length : Int); omega) (fun a ha => ?_)
    replace ha : xs[f.toNat]? = some a := ha
    cbv
    refine ElemP.mk (by show (0 : Int) ≤ (k : Int) ∧ (k : Int) < (vs.length : Int); omega) (fun v2 hv2 => ?_)
    replace hv2 : vs[k]? = some v2 := hv2
    rw [hv1] at hv2
    simp only [Option.some.injEq] at hv2
    subst hv2
    cbv
    rw [ha] at hq
    simp only [Option.some.injEq] at hq
    refine SplitP.mk (fun h7 => ?_) (fun h7 => ?_) <;> simp only [BE.neq_t, BE.neq_f, IE.var_d] at h7
    · refine .mk (.cons (.eq (.bool ?_)) .nil) rfl
      rw [BE.lit_d, BE.var_d]
      rw [hq, decide_eq_false (fun e => h7 e.2.2)]; rfl
    · refine BackP.intro (k + 1) ⟨by omega, by rw [hq, decide_eq_true ⟨by omega, by ((try simp only [ncast] at *); omega), h7⟩]; rfl⟩ (by show n - (k + 1) < n - k; omega) ⟨?_, HEnt.refl _, rfl⟩
      (cbv; (repeat' (first | exact SnD.refl _ | exact trivial | exact SnD.nat0 | refine And.intro ?_ ?_)))
      exact .inc (by omega)
  · have hkn : fs.length ≤ k := by
      have h5 : decide ((k : Int) < (fs.length : Int)) = false := hs
      have := of_decide_eq_false h5
      omega
    clear hs
    refine .mk (.cons (.eq (.bool ?_)) .nil) rfl
    rw [BE.lit_d, BE.var_d]
    rw [hq, List.drop_of_length_le (by omega)]; rfl
set_option maxRecDepth 100000 in
set_option maxHeartbeats 4000000 in
theorem RFits_pure (x : IssuedD) (s : SeenD) (hx : x.values.length < 9223372036854775807) (hf : s.fields.length < 9223372036854775807) (hv : s.values.length < 9223372036854775807) : Pure Tryd.prog 17 [.agg x.c, .agg s.c] (boolD (fitsB x s)) := by
  obtain ⟨r, hr⟩ : ∃ r, r = fitsB x s := ⟨_, rfl⟩
  rw [← hr]
  obtain ⟨xr, xp, xn, xs⟩ := x
  obtain ⟨sg, sr, sn, fs, sm, vs⟩ := s
  simp only at hx hf hv
  simp only [fitsB] at hr
  obtain ⟨n, hn⟩ : ∃ n : Nat, n = fs.length := ⟨_, rfl⟩
  obtain ⟨vb, hvb⟩ : ∃ f, f = inB := ⟨_, rfl⟩
  have hin := in_len xs.length hx vb hvb
  refine Pure.intro (want := [boolD r]) T_ok follows Tryd.func17 rfl (by kernel_rfl) (rs := [.tmp 4]) rfl (by kernel_rfl) ?_
  generalize hP : Tryd.prog = P at *
  have hT : T.ok P := hP ▸ T_ok
  have hm : P.follows .mixedOrders = true := hP ▸ follows
  unfold Tryd.f17
  dsimp only
  cbv
  refine SplitP.mk (fun hs => ?_) (fun hs => ?_) <;> simp only [BE.neq_t, BE.neq_f, IE.var_d] at hs
  · refine .mk (.cons (.eq (.bool ?_)) .nil) rfl
    rw [BE.lit_d, BE.var_d]
    rw [hr, decide_eq_false (fun e => hs e.1)]; rfl
  refine SplitP.mk (fun h2 => ?_) (fun h2 => ?_)
  · have h3 := of_decide_eq_true (show decide ((vs.length : Int) < (fs.length : Int)) = true from h2)
    refine .mk (.cons (.eq (.bool ?_)) .nil) rfl
    rw [BE.lit_d, BE.var_d]
    rw [hr, decide_eq_false (by omega)]; rfl
  have h3 : fs.length ≤ vs.length := by have := of_decide_eq_false (show decide ((vs.length : Int) < (fs.length : Int)) = false from h2); omega
  rw [decide_eq_true (by omega), Bool.true_and] at hr
  clear h2
  refine CodeP.loopc hT hm (X := Nat) (fun k => [(5, .int .i64 (.nat k))]) (fun k => k ≤ fs.length ∧ r = fitF xs (fs.drop k) (vs.drop k)) (fun k => n - k) 0 ⟨by simp, hr⟩ (by simp) ?_ rfl ?_
  · (cbv; (repeat' (first | exact SnD.refl _ | exact trivial | exact SnD.nat0 | refine And.intro ?_ ?_)))
  intro k ⟨hk, hq⟩
  cbv
  refine SplitP.mk (fun hs => ?_) (fun hs => ?_)
  · have hkn : k < fs.length := by
      have h5 : decide ((k : Int) < (fs.length : Int)) = true := hs
      have := of_decide_eq_true h5
      omega
    clear hs
    refine ElemP.mk (by show (0 : Int) ≤ (k : Int) ∧ (k : Int) < (fs.length : Int); omega) (fun f hf1 => ?_)
    replace hf1 : fs[k]? = some f := hf1
    obtain ⟨v, hv1⟩ : ∃ v, vs[k]? = some v := ⟨_, List.getElem?_eq_getElem (by omega)⟩
    rw [drop_cons hf1, drop_cons hv1] at hq
    simp only [fitF] at hq
    cbv
    refine PureP.mk _ (hin _ (by rfl) f) rfl ?_
    cbv
    refine SplitP.mk (fun h4 => ?_) (fun h4 => ?_)
    · replace h4 : vb f ((xs.length : Int) - 1) = false := by simpa using (show (!vb f ((xs.length : Int) - 1)) = true from h4)
      rw [hvb] at h4
      have := inB_f h4
      refine .mk (.cons (.eq (.bool ?_)) .nil) rfl
      rw [BE.lit_d, BE.var_d]
      rw [hq, decide_eq_false (by ((try simp only [ncast] at *); omega))]; rfl
    replace h4 : vb f ((xs.length : Int) - 1) = true := by simpa using (show (!vb f ((xs.length : Int) - 1)) = false from h4)
    rw [hvb] at h4
    have h5 := (inB_t h4).1
    have h6 : f.toNat < xs.length := by have := (inB_t h4).2; omega
    clear h4
    refine ElemP.mk (by show (0 : Int) ≤ f ∧ f < (xs.length : Int); omega) (fun a ha => ?_)
    replace ha : xs[f.toNat]? = some a := ha
    cbv
    refine ElemP.mk (by show (0 : Int) ≤ (k : Int) ∧ (k : Int) < (vs.length : Int); omega) (fun v2 hv2 => ?_)
    replace hv2 : vs[k]? = some v2 := hv2
    rw [hv1] at hv2
    simp only [Option.some.injEq] at hv2
    subst hv2
    cbv
    rw [ha] at hq
    simp only [Option.some.injEq] at hq
    refine SplitP.mk (fun h7 => ?_) (fun h7 => ?_) <;> simp only [BE.neq_t, BE.neq_f, IE.var_d] at h7
    · refine .mk (.cons (.eq (.bool ?_)) .nil) rfl
      rw [BE.lit_d, BE.var_d]
      rw [hq, decide_eq_false (fun e => h7 e.2.2)]; rfl
    · refine BackP.intro (k + 1) ⟨by omega, by rw [hq, decide_eq_true ⟨by omega, by ((try simp only [ncast] at *); omega), h7⟩]; rfl⟩ (by show n - (k + 1) < n - k; omega) ⟨?_, HEnt.refl _, rfl⟩
      (cbv; (repeat' (first | exact SnD.refl _ | exact trivial | exact SnD.nat0 | refine And.intro ?_ ?_)))
      exact .inc (by omega)
  · have hkn : fs.length ≤ k := by
      have h5 : decide ((k : Int) < (fs.length : Int)) = false := hs
      have := of_decide_eq_false h5
      omega
    clear hs
    refine .mk (.cons (.eq (.bool ?_)) .nil) rfl
    rw [BE.lit_d, BE.var_d]
    rw [hq, List.drop_of_length_le (by omega)]; rfl
end Go.Proofs.YtffmgfehaahlhaaDoor
namespace Go.Proofs.YtffmgfehaahlhaaDoor
open Go.RowKit

/-! The reference: explains, Explains. -/
set_option maxRecDepth 100000 in
set_option maxHeartbeats 4000000 in
theorem explains_pure (l : List IssuedD) (m : List SeenD) (cs : List Int) (na nb nc : Option BE) (hl : BigI l) (hs' : BigS m) (hc : cs.length < 9223372036854775807) (hcm : cs.length ≤ m.length) : Pure Tryd.prog 30 [.slm 3 na IssuedD.c l, .slm 4 nb SeenD.c m, .slm 1 nc intC cs] (boolD (explB l m cs)) := by
  obtain ⟨r, hr⟩ : ∃ r, r = explB l m cs := ⟨_, rfl⟩
  rw [← hr]
  have hl0 := hl.len
  have hm0 := hs'.len
  obtain ⟨n, hn⟩ : ∃ n : Nat, n = cs.length := ⟨_, rfl⟩
  obtain ⟨ok, hok⟩ : ∃ f, f = okI l m cs := ⟨_, rfl⟩
  have hbad : ∀ i, i < cs.length → ok i = false → r = false := fun i hi h => by rw [hr]; exact range_all_f hi (by rw [← hok]; exact h)
  have hgood : (∀ i, i < cs.length → ok i = true) → r = true := fun h => by rw [hr]; exact range_all.2 (by rw [← hok]; exact h)
  obtain ⟨vb, hvb⟩ : ∃ f, f = inB := ⟨_, rfl⟩
  have hin := in_len l.length hl0 vb hvb
  obtain ⟨fb, hfb⟩ : ∃ f, f = fitsB := ⟨_, rfl⟩
  have hF : ∀ x ∈ l, ∀ s ∈ m, Pure Tryd.prog 17 [.agg x.c, .agg s.c] (boolD (fb x s)) := fun x hx s hs => by rw [hfb]; exact RFits_pure x s (hl.vals x hx) (hs'.fields s hs) (hs'.vals s hs)
  clear hr
  refine Pure.intro (want := [boolD r]) T_ok follows Tryd.func30 rfl (by kernel_rfl) (rs := [.tmp 6]) rfl (by kernel_rfl) ?_
  generalize hP : Tryd.prog = P at *
  have hT : T.ok P := hP ▸ T_ok
  have hm : P.follows .mixedOrders = true := hP ▸ follows
  unfold Tryd.f30
  dsimp only
  cbv
  refine CodeP.loopc hT hm (X := Nat) (fun k => [(7, .int .i64 (.nat k))]) (fun k => k ≤ cs.length ∧ ∀ i, i < k → ok i = true) (fun k => n - k) 0 ⟨by simp, fun i h => by omega⟩ (Nat.zero_le _) ?_ rfl ?_
  · (cbv; (repeat' (first | exact SnD.refl _ | exact trivial | exact SnD.nat0 | refine And.intro ?_ ?_)))
  intro k ⟨hk, hq⟩
  cbv
  refine SplitP.mk (fun hs => ?_) (fun hs => ?_)
  rotate_left
  · have hkn : cs.length ≤ k := by
      have h5 : decide ((k : Int) < (cs.length : Int)) = false := hs
      have := of_decide_eq_false h5
      omega
    clear hs
    refine .mk (.cons (.eq (.bool ?_)) .nil) rfl
    rw [BE.lit_d, BE.var_d]
    rw [hgood fun i hi => hq i (by omega)]
  have hkn : k < cs.length := by
    have h5 : decide ((k : Int) < (cs.length : Int)) = true := hs
    have := of_decide_eq_true h5
    omega
  clear hs
  have hokk : ok k = (fitAt l m cs k && (List.range k).all (pairAt l m cs k)) := by rw [hok]; rfl
  obtain ⟨s, hsk⟩ : ∃ s, m[k]? = some s := ⟨_, List.getElem?_eq_getElem (by omega)⟩
  refine ElemP.mk (by show (0 : Int) ≤ (k : Int) ∧ (k : Int) < (cs.length : Int); omega) (fun c hck => ?_)
  replace hck : cs[k]? = some c := hck
  cbv
  refine PureP.mk _ (hin _ (by rfl) c) rfl ?_
  cbv
  refine SplitP.mk (fun h4 => ?_) (fun h4 => ?_)
  · replace h4 : vb c ((l.length : Int) - 1) = false := by simpa using (show (!vb c ((l.length : Int) - 1)) = true from h4)
    rw [hvb] at h4
    have h5 := inB_f h4
    refine .mk (.cons (.eq (.bool ?_)) .nil) rfl
    rw [BE.lit_d, BE.var_d]
    rw [hbad k hkn (by rw [hokk, fitAt_no hck (by ((try simp only [ncast] at *); omega))]; rfl)]
  replace h4 : vb c ((l.length : Int) - 1) = true := by simpa using (show (!vb c ((l.length : Int) - 1)) = false from h4)
  rw [hvb] at h4
  have h5 := (inB_t h4).1
  have h6 : c.toNat < l.length := by have := (inB_t h4).2; omega
  clear h4
  refine ElemP.mk (by show (0 : Int) ≤ (k : Int) ∧ (k : Int) < (cs.length : Int); omega) (fun c2 hc2 => ?_)
  replace hc2 : cs[k]? = some c2 := hc2
  rw [hck] at hc2
  simp only [Option.some.injEq] at hc2
  subst hc2
  cbv
  refine ElemP.mk (by show (0 : Int) ≤ c ∧ c < (l.length : Int); ((try simp only [ncast] at *); omega)) (fun x hx => ?_)
  replace hx : l[c.toNat]? = some x := hx
  have hFx := hF x (List.mem_of_getElem? hx) s (List.mem_of_getElem? hsk)
  have hfx : fitAt l m cs k = fb x s := by rw [hfb]; exact fitAt_eq hck h5 h6 hx hsk
  have hpx := personI_eq hx
  have hgk := groupS_eq hsk
  rw [hfx] at hokk
  obtain ⟨fx, hfx2⟩ : ∃ b, b = fb x s := ⟨_, rfl⟩
  rw [← hfx2] at hFx hokk
  clear hfx hfx2
  obtain ⟨xr, xp, xn, xv⟩ := x
  simp only at hpx
  cbv
  refine ElemP.mk (by show (0 : Int) ≤ (k : Int) ∧ (k : Int) < (m.length : Int); omega) (fun s2 hs2 => ?_)
  replace hs2 : m[k]? = some s2 := hs2
  rw [hsk] at hs2
  simp only [Option.some.injEq] at hs2
  subst hs2
  obtain ⟨sg, sr, sn, sf, sm, sv⟩ := s
  simp only at hgk
  cbv
  refine CallP.pure _ hFx rfl ?_
  cbv
  refine SplitP.mk (fun hs => ?_) (fun hs => ?_)
  · replace hs : fx = false := by simpa using (show (!fx) = true from hs)
    refine .mk (.cons (.eq (.bool ?_)) .nil) rfl
    rw [BE.lit_d, BE.var_d]
    rw [hbad k hkn (by rw [hokk, hs]; rfl)]
  replace hs : fx = true := by simpa using (show (!fx) = false from hs)
  rw [hs, Bool.true_and] at hokk
  clear hs hFx
  refine CodeP.loopc hT hm (X := Nat) (fun j => [(8, .int .i64 (.nat j))]) (fun j => j ≤ k ∧ ∀ i, i < j → pairAt l m cs k i = true) (fun j => k - j) 0 ⟨by simp, fun i h => by omega⟩ (Nat.zero_le _) ?_ rfl ?_
  · (cbv; (repeat' (first | exact SnD.refl _ | exact trivial | exact SnD.nat0 | refine And.intro ?_ ?_)))
  intro j ⟨hj, hq2⟩
  cbv
  refine SplitP.mk (fun hs => ?_) (fun hs => ?_)
  rotate_left
  · have hjk : k ≤ j := by have := of_decide_eq_false (show decide ((j : Int) < (k : Int)) = false from hs); omega
    refine BackP.intro (k + 1) ⟨by omega, fun i hi => ?_⟩ (by show n - (k + 1) < n - k; omega) ⟨?_, trivial, rfl⟩
    · rcases Nat.lt_or_ge i k with q | q
      · exact hq i q
      · rw [show i = k by omega, hokk]
        exact range_all.2 fun i hi => hq2 i (by omega)
    · (cbv; (repeat' (first | exact SnD.refl _ | exact trivial | exact SnD.nat0 | refine And.intro ?_ ?_)))
      exact .inc (by omega)
  have hjk : j < k := by have := of_decide_eq_true (show decide ((j : Int) < (k : Int)) = true from hs); omega
  clear hs
  have hbad2 : pairAt l m cs k j = false → r = false := fun h => hbad k hkn (by rw [hokk]; exact range_all_f hjk h)
  refine DrawP.mk (by kernel_rfl) ?_
  cbv
  refine ElemP.mk (by show (0 : Int) ≤ (j : Int) ∧ (j : Int) < (cs.length : Int); omega) (fun a ha => ?_)
  replace ha : cs[j]? = some a := ha
  have hpair : pairAt l m cs k j = (!decide (a = c) && !decide (groupS m j = groupS m k ∧ ¬ personI l a = personI l c)) := by simp only [pairAt, ha, hck]
  cbv
  refine ElemP.mk (by show (0 : Int) ≤ (k : Int) ∧ (k : Int) < (cs.length : Int); omega) (fun c2 hc2 => ?_)
  replace hc2 : cs[k]? = some c2 := hc2
  rw [hck] at hc2
  simp only [Option.some.injEq] at hc2
  subst hc2
  cbv
  refine SplitP.mk (fun h7 => ?_) (fun h7 => ?_) <;> simp only [BE.eql_t, BE.eql_f, IE.var_d] at h7
  · refine .mk (.cons (.eq (.bool ?_)) .nil) rfl
    rw [BE.lit_d, BE.var_d]
    rw [hbad2 (by rw [hpair, decide_eq_true h7]; rfl)]
  rw [decide_eq_false h7, Bool.not_false, Bool.true_and, hgk, hpx] at hpair
  obtain ⟨sj, hsj⟩ : ∃ s, m[j]? = some s := ⟨_, List.getElem?_eq_getElem (by omega)⟩
  have hgj := groupS_eq hsj
  refine ElemP.mk (by show (0 : Int) ≤ (j : Int) ∧ (j : Int) < (m.length : Int); omega) (fun s2 hs2 => ?_)
  replace hs2 : m[j]? = some s2 := hs2
  rw [hsj] at hs2
  simp only [Option.some.injEq] at hs2
  subst hs2
  obtain ⟨tg, tr, tn, tf, tm, tv⟩ := sj
  simp only at hgj
  rw [hgj] at hpair
  cbv
  refine ElemP.mk (by show (0 : Int) ≤ (k : Int) ∧ (k : Int) < (m.length : Int); omega) (fun s2 hs2 => ?_)
  replace hs2 : m[k]? = some s2 := hs2
  rw [hsk] at hs2
  simp only [Option.some.injEq] at hs2
  subst hs2
  cbv
  refine SplitP.mk (fun h8 => ?_) (fun h8 => ?_) <;> simp only [BE.eql_t, BE.eql_f, IE.var_d] at h8
  rotate_left
  · rw [decide_eq_false (fun e => h8 e.1)] at hpair
    refine BackP.intro (j + 1) ⟨by omega, fun i hi => ?_⟩ (by show k - (j + 1) < k - j; omega) ⟨?_, HEnt.refl _, rfl⟩
    · rcases Nat.lt_or_ge i j with q | q
      · exact hq2 i q
      · rw [show i = j by omega, hpair]; rfl
    · (cbv; (repeat' (first | exact SnD.refl _ | exact trivial | exact SnD.nat0 | refine And.intro ?_ ?_)))
      exact .inc (by omega)
  refine ElemP.mk (by show (0 : Int) ≤ (j : Int) ∧ (j : Int) < (cs.length : Int); omega) (fun a2 ha2 => ?_)
  replace ha2 : cs[j]? = some a2 := ha2
  rw [ha] at ha2
  simp only [Option.some.injEq] at ha2
  subst ha2
  cbv
  have haj : 0 ≤ a ∧ a.toNat < l.length := by
    have := hq j (by omega)
    rw [hok] at this
    simp only [okI, Bool.and_eq_true, fitAt, ha, decide_eq_true_eq] at this
    have := this.1.1
    omega
  refine ElemP.mk (by show (0 : Int) ≤ a ∧ a < (l.length : Int); ((try simp only [ncast] at *); omega)) (fun y hy => ?_)
  replace hy : l[a.toNat]? = some y := hy
  have hpy := personI_eq hy
  obtain ⟨yr, yp, yn, yv⟩ := y
  simp only at hpy
  rw [hpy] at hpair
  cbv
  refine ElemP.mk (by show (0 : Int) ≤ (k : Int) ∧ (k : Int) < (cs.length : Int); omega) (fun c2 hc2 => ?_)
  replace hc2 : cs[k]? = some c2 := hc2
  rw [hck] at hc2
  simp only [Option.some.injEq] at hc2
  subst hc2
  cbv
  refine ElemP.mk (by show (0 : Int) ≤ c ∧ c < (l.length : Int); ((try simp only [ncast] at *); omega)) (fun x2 hx2 => ?_)
  replace hx2 : l[c.toNat]? = some x2 := hx2
  rw [hx] at hx2
  simp only [Option.some.injEq] at hx2
  subst hx2
  cbv
  refine SplitP.mk (fun h9 => ?_) (fun h9 => ?_) <;> simp only [BE.neq_t, BE.neq_f, IE.var_d] at h9
  · refine .mk (.cons (.eq (.bool ?_)) .nil) rfl
    rw [BE.lit_d, BE.var_d]
    rw [hbad2 (by rw [hpair, decide_eq_true ⟨h8, h9⟩]; rfl)]
  · rw [decide_eq_false (fun e => e.2 h9)] at hpair
    refine BackP.intro (j + 1) ⟨by omega, fun i hi => ?_⟩ (by show k - (j + 1) < k - j; omega) ⟨?_, HEnt.refl _, rfl⟩
    · rcases Nat.lt_or_ge i j with q | q
      · exact hq2 i q
      · rw [show i = j by omega, hpair]; rfl
    · (cbv; (repeat' (first | exact SnD.refl _ | exact trivial | exact SnD.nat0 | refine And.intro ?_ ?_)))
      exact .inc (by omega)
end Go.Proofs.YtffmgfehaahlhaaDoor
namespace Go.Proofs.YtffmgfehaahlhaaDoor
open Go.RowKit

/-! The program's Check. -/
set_option maxRecDepth 100000 in
set_option maxHeartbeats 4000000 in
theorem seenOK_pure (s : SeenD) (hf : s.fields.length < 9223372036854775807) (hv : s.values.length < 9223372036854775807) : Pure Tryd.prog 32 [.agg s.c] (boolD (seenB s)) := by
  obtain ⟨r, hr⟩ : ∃ r, r = seenB s := ⟨_, rfl⟩
  rw [← hr]
  obtain ⟨sg, sr, sn, fs, sm, vs⟩ := s
  simp only at hf hv
  simp only [seenB] at hr
  have hV := all_pure vs (some (.var sm)) hv
  obtain ⟨vb, hvb⟩ : ∃ b, b = valsB vs := ⟨_, rfl⟩
  rw [← hvb] at hV hr
  obtain ⟨n, hn⟩ : ∃ n : Nat, n = fs.length := ⟨_, rfl⟩
  refine Pure.intro (want := [boolD r]) T_ok follows Tryd.func32 rfl (by kernel_rfl) (rs := [.tmp 2]) rfl (by kernel_rfl) ?_
  generalize hP : Tryd.prog = P at *
  have hT : T.ok P := hP ▸ T_ok
  have hm : P.follows .mixedOrders = true := hP ▸ follows
  unfold Tryd.f32
  dsimp only
  cbv
  refine SplitP.mk (fun h1 => ?_) (fun h1 => ?_) <;> simp only [BE.lss_t, BE.lss_f, IE.var_d, IE.lit_d] at h1
  · refine .mk (.cons (.eq (.bool ?_)) .nil) rfl
    rw [BE.lit_d, BE.var_d]
    rw [hr, decide_eq_false (by omega)]; rfl
  refine SplitP.mk (fun h2 => ?_) (fun h2 => ?_) <;> simp only [BE.lss_t, BE.lss_f, IE.var_d, IE.lit_d] at h2
  · refine .mk (.cons (.eq (.bool ?_)) .nil) rfl
    rw [BE.lit_d, BE.var_d]
    rw [hr, decide_eq_false (by omega)]; rfl
  refine SplitP.mk (fun h3 => ?_) (fun h3 => ?_)
  · have h4 : ((fs.length : Int) != (vs.length : Int)) = true := h3
    refine .mk (.cons (.eq (.bool ?_)) .nil) rfl
    rw [BE.lit_d, BE.var_d]
    rw [hr, decide_eq_false (fun e => by rw [e.2.2] at h4; simp at h4)]; rfl
  have h3 : fs.length = vs.length := by
    have h4 : ((fs.length : Int) != (vs.length : Int)) = false := h3
    simp at h4
    omega
  rw [decide_eq_true ⟨h1, h2, h3⟩, Bool.true_and] at hr
  refine CallP.pure _ hV rfl ?_
  cbv
  refine SplitP.mk (fun h5 => ?_) (fun h5 => ?_)
  · replace h5 : vb = false := by simpa using (show (!vb) = true from h5)
    refine .mk (.cons (.eq (.bool ?_)) .nil) rfl
    rw [BE.lit_d, BE.var_d]
    rw [hr, h5, Bool.and_false]
  replace h5 : vb = true := by simpa using (show (!vb) = false from h5)
  rw [h5, Bool.and_true] at hr
  refine CodeP.loopc hT hm (X := Nat × Int) (fun x => [(32, .int .i64 (.nat x.1)), (3, i64 x.2)]) (fun x => x.1 ≤ fs.length ∧ r = risB x.2 (fs.drop x.1)) (fun x => n - x.1) (0, -1) ⟨by simp, hr⟩ (by simp) ?_ rfl ?_
  · (cbv; (repeat' (first | exact SnD.refl _ | exact trivial | exact SnD.nat0 | refine And.intro ?_ ?_)))
    exact .eq (.int rfl)
  intro (k, last) ⟨hk, hq⟩
  simp only at hk hq
  cbv
  refine SplitP.mk (fun hs => ?_) (fun hs => ?_)
  · have hkn : k < fs.length := by
      have h5 : decide ((k : Int) < (fs.length : Int)) = true := hs
      have := of_decide_eq_true h5
      omega
    clear hs
    refine ElemP.mk (by show (0 : Int) ≤ (k : Int) ∧ (k : Int) < (fs.length : Int); omega) (fun f hf1 => ?_)
    replace hf1 : fs[k]? = some f := hf1
    rw [drop_cons hf1] at hq
    simp only [risB] at hq
    cbv
    refine SplitP.mk (fun h6 => ?_) (fun h6 => ?_) <;> simp only [BE.leq_t, BE.leq_f, IE.var_d, IE.lit_d] at h6
    · refine .mk (.cons (.eq (.bool ?_)) .nil) rfl
      rw [BE.lit_d, BE.var_d]
      rw [hq, decide_eq_false (by omega)]; rfl
    refine SplitP.mk (fun h7 => ?_) (fun h7 => ?_) <;> simp only [BE.geq_t, BE.geq_f, IE.var_d, IE.lit_d] at h7
    · refine .mk (.cons (.eq (.bool ?_)) .nil) rfl
      rw [BE.lit_d, BE.var_d]
      rw [hq, decide_eq_false (by omega)]; rfl
    refine BackP.intro (k + 1, f) ⟨by simp only; omega, by simp only; rw [hq, decide_eq_true (by omega)]; rfl⟩ (by show n - (k + 1) < n - k; omega) ⟨?_, HEnt.refl _, rfl⟩
    (cbv; (repeat' (first | exact SnD.refl _ | exact trivial | exact SnD.nat0 | refine And.intro ?_ ?_)))
    exact .inc (by omega)
  · have hkn : fs.length ≤ k := by
      have h5 : decide ((k : Int) < (fs.length : Int)) = false := hs
      have := of_decide_eq_false h5
      omega
    clear hs
    refine .mk (.cons (.eq (.bool ?_)) .nil) rfl
    rw [BE.lit_d, BE.var_d]
    rw [hq, List.drop_of_length_le (by omega)]; rfl
set_option maxRecDepth 100000 in
set_option maxHeartbeats 4000000 in
theorem Check_pure (l : List IssuedD) (m : List SeenD) (na nb : Option BE) (hl : BigI l) (hs' : BigS m) : Pure Tryd.prog 14 [.slm 3 na IssuedD.c l, .slm 4 nb SeenD.c m] (i64 (if checkB l m then 0 else 300)) := by
  have hI : ∀ x ∈ l, ∀ nb, Pure Tryd.prog 31 [.slm 1 nb intC x.values] (boolD (valsB x.values)) := fun x hx nb => all_pure x.values nb (hl.vals x hx)
  have hS : ∀ x ∈ m, Pure Tryd.prog 32 [.agg x.c] (boolD (seenB x)) := fun x hx => seenOK_pure x (hs'.fields x hx) (hs'.vals x hx)
  have hl0 := hl.len
  have hm0 := hs'.len
  obtain ⟨ok, hok⟩ : ∃ b, b = checkB l m := ⟨_, rfl⟩
  rw [← hok]
  simp only [checkB] at hok
  obtain ⟨fi, hfi⟩ : ∃ f, f = issB := ⟨_, rfl⟩
  obtain ⟨fs, hfs⟩ : ∃ f, f = seenB := ⟨_, rfl⟩
  obtain ⟨fv, hfv⟩ : ∃ f, f = valsB := ⟨_, rfl⟩
  rw [← hfi] at hok
  rw [← hfv] at hI
  rw [← hfs] at hS hok
  have hfx : ∀ (a b : Int) (c : Bool) (l : List Int), fi ⟨a, b, c, l⟩ = (decide (0 ≤ a ∧ 0 ≤ b ∧ b < 4096 ∧ l.length ≤ 12) && fv l) := fun a b c l => by rw [hfi, hfv]; rfl
  clear hfv hfi
  obtain ⟨r, hr⟩ : ∃ r : Int, r = if ok then 0 else 300 := ⟨_, rfl⟩
  rw [← hr]
  have bad : ok = false → (300 : Int) = r := fun h => by rw [hr, h]; rfl
  obtain ⟨n, hn⟩ : ∃ n : Nat, n = l.length := ⟨_, rfl⟩
  obtain ⟨n2, hn2⟩ : ∃ n : Nat, n = m.length := ⟨_, rfl⟩
  refine Pure.intro (want := [i64 r]) T_ok follows Tryd.func14 rfl (by kernel_rfl) (rs := [.tmp 4]) rfl (by kernel_rfl) ?_
  generalize hP : Tryd.prog = P at *
  have hT : T.ok P := hP ▸ T_ok
  have hm : P.follows .mixedOrders = true := hP ▸ follows
  unfold Tryd.f14
  dsimp only
  cbv
  refine SplitP.mk (fun h1 => ?_) (fun h1 => ?_)
  · have := of_decide_eq_true (show decide ((l.length : Int) > 64) = true from h1)
    refine .mk (.cons (.eq (.int ?_)) .nil) rfl
    rw [IE.lit_d, IE.var_d]
    exact bad (by rw [hok, decide_eq_false (by omega)]; rfl)
  have h1 : l.length ≤ 64 := by have := of_decide_eq_false (show decide ((l.length : Int) > 64) = false from h1); omega
  refine SplitP.mk (fun h2 => ?_) (fun h2 => ?_)
  · have := of_decide_eq_true (show decide ((m.length : Int) > 16) = true from h2)
    refine .mk (.cons (.eq (.int ?_)) .nil) rfl
    rw [IE.lit_d, IE.var_d]
    exact bad (by rw [hok, decide_eq_false (by omega)]; rfl)
  have h2 : m.length ≤ 16 := by have := of_decide_eq_false (show decide ((m.length : Int) > 16) = false from h2); omega
  rw [decide_eq_true ⟨h1, h2⟩, Bool.true_and] at hok
  refine CodeP.loopc hT hm (X := Nat) (fun k => [(19, .int .i64 (.nat k))]) (fun k => k ≤ l.length ∧ ok = ((l.drop k).all fi && m.all fs)) (fun k => n - k) 0 ⟨by simp, hok⟩ (Nat.zero_le _) ?_ rfl ?_
  · (cbv; (repeat' (first | exact SnD.refl _ | exact trivial | exact SnD.nat0 | refine And.intro ?_ ?_)))
  intro k ⟨hk, hq⟩
  cbv
  refine SplitP.mk (fun hs => ?_) (fun hs => ?_)
  · have hkn : k < l.length := by
      have h5 : decide ((k : Int) < (l.length : Int)) = true := hs
      have := of_decide_eq_true h5
      omega
    clear hs
    refine ElemP.mk (by show (0 : Int) ≤ (k : Int) ∧ (k : Int) < (l.length : Int); omega) (fun x hx => ?_)
    replace hx : l[k]? = some x := hx
    have hIx := hI x (List.mem_of_getElem? hx)
    rw [drop_cons hx] at hq
    simp only [List.all_cons] at hq
    obtain ⟨xr, xp, xn, xv⟩ := x
    rw [hfx] at hq
    simp only at hIx
    have bad2 : ¬ (0 ≤ xr ∧ 0 ≤ xp ∧ xp < 4096 ∧ xv.length ≤ 12) → (300 : Int) = r := fun h => bad (by rw [hq, decide_eq_false h]; rfl)
    cbv
    refine SplitP.mk (fun h3 => ?_) (fun h3 => ?_) <;> simp only [BE.lss_t, BE.lss_f, IE.var_d, IE.lit_d] at h3
    · refine .mk (.cons (.eq (.int ?_)) .nil) rfl
      rw [IE.lit_d, IE.var_d]
      exact bad2 (by omega)
    refine SplitP.mk (fun h4 => ?_) (fun h4 => ?_) <;> simp only [BE.lss_t, BE.lss_f, IE.var_d, IE.lit_d] at h4
    · refine .mk (.cons (.eq (.int ?_)) .nil) rfl
      rw [IE.lit_d, IE.var_d]
      exact bad2 (by omega)
    refine SplitP.mk (fun h5 => ?_) (fun h5 => ?_) <;> simp only [BE.geq_t, BE.geq_f, IE.var_d, IE.lit_d] at h5
    · refine .mk (.cons (.eq (.int ?_)) .nil) rfl
      rw [IE.lit_d, IE.var_d]
      exact bad2 (by omega)
    refine SplitP.mk (fun h6 => ?_) (fun h6 => ?_)
    · have := of_decide_eq_true (show decide ((xv.length : Int) > 12) = true from h6)
      refine .mk (.cons (.eq (.int ?_)) .nil) rfl
      rw [IE.lit_d, IE.var_d]
      exact bad2 (by omega)
    have h6 : xv.length ≤ 12 := by have := of_decide_eq_false (show decide ((xv.length : Int) > 12) = false from h6); omega
    rw [decide_eq_true ⟨by omega, by omega, by omega, h6⟩, Bool.true_and] at hq
    clear bad2
    have hIx := hIx (some (.var xn))
    obtain ⟨fx, hfx2⟩ : ∃ b, b = fv xv := ⟨_, rfl⟩
    rw [← hfx2] at hIx hq
    clear hfx2
    refine CallP.pure _ hIx rfl ?_
    cbv
    refine SplitP.mk (fun hs => ?_) (fun hs => ?_)
    · replace hs : fx = false := by simpa using (show (!fx) = true from hs)
      refine .mk (.cons (.eq (.int ?_)) .nil) rfl
      rw [IE.lit_d, IE.var_d]
      exact bad (by rw [hq, hs]; rfl)
    · replace hs : fx = true := by simpa using (show (!fx) = false from hs)
      refine BackP.intro (k + 1) ⟨by omega, by rw [hq, hs]; rfl⟩ (by show n - (k + 1) < n - k; omega) ⟨?_, trivial, rfl⟩
      (cbv; (repeat' (first | exact SnD.refl _ | exact trivial | exact SnD.nat0 | refine And.intro ?_ ?_)))
      exact .inc (by omega)
  have hkn : l.length ≤ k := by
    have h5 : decide ((k : Int) < (l.length : Int)) = false := hs
    have := of_decide_eq_false h5
    omega
  clear hs
  have hr2 : ok = m.all fs := by rw [hq, List.drop_of_length_le (by omega)]; rfl
  clear hq hok hkn hk
  refine CodeP.loopc hT hm (X := Nat) (fun k => [(51, .int .i64 (.nat k))]) (fun k => k ≤ m.length ∧ ok = (m.drop k).all fs) (fun k => n2 - k) 0 ⟨by simp, hr2⟩ (Nat.zero_le _) ?_ rfl ?_
  · (cbv; (repeat' (first | exact SnD.refl _ | exact trivial | exact SnD.nat0 | refine And.intro ?_ ?_)))
  intro j ⟨hj, hq⟩
  cbv
  refine SplitP.mk (fun hs => ?_) (fun hs => ?_)
  · have hkn : j < m.length := by
      have h5 : decide ((j : Int) < (m.length : Int)) = true := hs
      have := of_decide_eq_true h5
      omega
    clear hs
    refine ElemP.mk (by show (0 : Int) ≤ (j : Int) ∧ (j : Int) < (m.length : Int); omega) (fun x hx => ?_)
    replace hx : m[j]? = some x := hx
    have hSx := hS x (List.mem_of_getElem? hx)
    rw [drop_cons hx] at hq
    simp only [List.all_cons] at hq
    obtain ⟨fx, hfx⟩ : ∃ b, b = fs x := ⟨_, rfl⟩
    rw [← hfx] at hSx hq
    clear hfx
    obtain ⟨sg, sr, sn, sf, sm, sv⟩ := x
    cbv
    refine CallP.pure _ hSx rfl ?_
    cbv
    refine SplitP.mk (fun hs => ?_) (fun hs => ?_)
    · replace hs : fx = false := by simpa using (show (!fx) = true from hs)
      refine .mk (.cons (.eq (.int ?_)) .nil) rfl
      rw [IE.lit_d, IE.var_d]
      exact bad (by rw [hq, hs]; rfl)
    · replace hs : fx = true := by simpa using (show (!fx) = false from hs)
      refine BackP.intro (j + 1) ⟨by omega, by rw [hq, hs]; rfl⟩ (by show n2 - (j + 1) < n2 - j; omega) ⟨?_, trivial, rfl⟩
      (cbv; (repeat' (first | exact SnD.refl _ | exact trivial | exact SnD.nat0 | refine And.intro ?_ ?_)))
      exact .inc (by omega)
  · have hkn : m.length ≤ j := by
      have h5 : decide ((j : Int) < (m.length : Int)) = false := hs
      have := of_decide_eq_false h5
      omega
    clear hs
    have : ok = true := by rw [hq, List.drop_of_length_le (by omega)]; rfl
    refine .mk (.cons (.eq (.int ?_)) .nil) rfl
    rw [IE.lit_d, IE.var_d]
    rw [hr, this]; rfl
end Go.Proofs.YtffmgfehaahlhaaDoor
namespace Go.Proofs.YtffmgfehaahlhaaDoor
open Go.RowKit

/-! Explains, of the program and of the reference. -/
theorem mp_start {H H' : List Bk} {S : Int → Bool} (hS : ∀ x, S x = false) : BkEq H H' (.mp .i64 (.lits [])) (.mp .i64 (.setb S (.nat 0))) := by
  refine .mp rfl fun x => ?_
  simp only [ME.den, findE, hS, Bool.false_eq_true, if_false]
  exact .none
theorem mp_same {H H' : List Bk} {S S' : Int → Bool} {n n' : IE} (hn : n.den = n'.den) (hS : ∀ x, S x = S' x) : BkEq H H' (.mp .i64 (.setb S n)) (.mp .i64 (.setb S' n')) := by
  refine .mp hn fun x => ?_
  simp only [ME.den, hS]
  split
  · exact .some (.refl _)
  · exact .none
theorem fi_start {H H' : List Bk} {k : IntKind} {F : Int → Option Int} (hF : ∀ x, F x = none) : BkEq H H' (.mp .i64 (.lits [])) (.mp .i64 (.fi k F (.nat 0))) := by
  refine .mp rfl fun x => ?_
  simp only [ME.den, findE, hF]
  exact .none
theorem fi_same {H H' : List Bk} {k : IntKind} {F F' : Int → Option Int} {n n' : IE} (hn : n.den = n'.den) (hF : ∀ x, F x = F' x) : BkEq H H' (.mp .i64 (.fi k F n)) (.mp .i64 (.fi k F' n')) := by
  refine .mp hn fun x => ?_
  simp only [ME.den, hF]
  split
  · exact .some (.refl _)
  · exact .none
theorem ok_same {I : List IssuedD} {S : List SeenD} {cs : List Int} {k : Nat} (h : ∀ i, i < k → okI I S cs i = true) {i j : Nat} (hi : i < k) (hj : j < k) {a b : Int} (ha : cs[i]? = some a) (hb : cs[j]? = some b) (hg : groupS S i = groupS S j) : personI I a = personI I b := by
  have key : ∀ {i j : Nat} {a b : Int}, i < j → j < k → cs[i]? = some a → cs[j]? = some b → groupS S i = groupS S j → personI I a = personI I b := fun {i j a b} hij hj ha hb hg => by
    have := h j hj
    simp only [okI, Bool.and_eq_true] at this
    have := range_all.1 this.2 i hij
    simp only [pairAt, ha, hb, Bool.and_eq_true, Bool.not_eq_true', decide_eq_false_iff_not] at this
    exact Classical.byContradiction fun q => this.2 ⟨hg, q⟩
  rcases Nat.lt_trichotomy i j with q | q | q
  · exact key q hj ha hb hg
  · subst q; rw [ha] at hb; cases hb; rfl
  · exact (key q hi hb ha hg.symm).symm
set_option maxRecDepth 100000 in
set_option maxHeartbeats 4000000 in
theorem RExplains_pure (l : List IssuedD) (m : List SeenD) (cs : List Int) (na nb nc : Option BE) (hl : BigI l) (hs' : BigS m) (hc : cs.length < 9223372036854775807) : Pure Tryd.prog 13 [.slm 3 na IssuedD.c l, .slm 4 nb SeenD.c m, .slm 1 nc intC cs] (.tup [boolD (checkB l m && (decide (cs.length = m.length) && explB l m cs)), i64 (if checkB l m then 0 else 300)]) := by
  have hC := RCheck_pure l m na nb hl hs'
  have hE := explains_pure l m cs na nb nc hl hs' hc
  obtain ⟨ok, hok⟩ : ∃ b, b = checkB l m := ⟨_, rfl⟩
  obtain ⟨ex, hex⟩ : ∃ b, b = explB l m cs := ⟨_, rfl⟩
  rw [← hok] at hC ⊢
  rw [← hex] at hE ⊢
  obtain ⟨e, he⟩ : ∃ r : Int, r = if ok then 0 else 300 := ⟨_, rfl⟩
  rw [← he] at hC ⊢
  obtain ⟨r, hr⟩ : ∃ r, r = (ok && (decide (cs.length = m.length) && ex)) := ⟨_, rfl⟩
  rw [← hr]
  refine Pure.intro (want := [boolD r, i64 e]) T_ok follows Tryd.func13 rfl (by kernel_rfl) (rs := [.tmp 6, .tmp 7]) rfl (by kernel_rfl) ?_
  generalize hP : Tryd.prog = P at *
  have hT : T.ok P := hP ▸ T_ok
  have hm : P.follows .mixedOrders = true := hP ▸ follows
  unfold Tryd.f13
  dsimp only
  cbv
  refine CallP.pure _ hC rfl ?_
  cbv
  refine SplitP.mk (fun h1 => ?_) (fun h1 => ?_) <;> simp only [BE.neq_t, BE.neq_f, IE.var_d, IE.lit_d] at h1
  · have : ok = false := by cases ok <;> simp_all
    refine .mk (.cons (.eq (.bool ?_)) (.cons (.eq (.int ?_)) .nil)) rfl
    · rw [BE.lit_d, BE.var_d, hr, this]; rfl
    · rw [IE.lit_d, IE.var_d, he, this]; rfl
  have : ok = true := by cases ok <;> simp_all
  subst this
  rw [Bool.true_and] at hr
  refine SplitP.mk (fun h2 => ?_) (fun h2 => ?_)
  · have h3 : cs.length = m.length := by
      have h4 : ((cs.length : Int) == (m.length : Int)) = true := h2
      simp at h4
      omega
    rw [decide_eq_true h3, Bool.true_and] at hr
    refine CallP.pure _ (hE (by omega)) rfl ?_
    cbv
    refine .mk (.cons (.eq (.bool ?_)) (.cons (.eq (.int ?_)) .nil)) rfl
    · exact hr.symm
    · rw [IE.lit_d, IE.var_d, he]; rfl
  · have h3 : ¬ cs.length = m.length := fun q => by
      have h4 : ((cs.length : Int) == (m.length : Int)) = false := h2
      rw [q] at h4
      simp at h4
    refine .mk (.cons (.eq (.bool ?_)) (.cons (.eq (.int ?_)) .nil)) rfl
    · rw [BE.lit_d, BE.var_d, hr, decide_eq_false h3]; rfl
    · rw [IE.lit_d, IE.var_d, he]; rfl
set_option maxRecDepth 100000 in
set_option maxHeartbeats 4000000 in
theorem Explains_pure (l : List IssuedD) (m : List SeenD) (cs : List Int) (na nb nc : Option BE) (hl : BigI l) (hs' : BigS m) (hc : cs.length ≤ 1000000) : Pure Tryd.prog 12 [.slm 3 na IssuedD.c l, .slm 4 nb SeenD.c m, .slm 1 nc intC cs] (.tup [boolD (checkB l m && (decide (cs.length = m.length) && explB l m cs)), i64 (if checkB l m then 0 else 300)]) := by
  have hC := Check_pure l m na nb hl hs'
  obtain ⟨okc, hok⟩ : ∃ b, b = checkB l m := ⟨_, rfl⟩
  rw [← hok] at hC ⊢
  obtain ⟨e, he⟩ : ∃ r : Int, r = if okc then 0 else 300 := ⟨_, rfl⟩
  rw [← he] at hC ⊢
  obtain ⟨r, hr⟩ : ∃ r, r = (okc && (decide (cs.length = m.length) && explB l m cs)) := ⟨_, rfl⟩
  rw [← hr]
  have hl0 := hl.len
  have hm0 := hs'.len
  obtain ⟨n, hn⟩ : ∃ n : Nat, n = cs.length := ⟨_, rfl⟩
  obtain ⟨fb, hfb⟩ : ∃ f, f = fitsB := ⟨_, rfl⟩
  have hF : ∀ x ∈ l, ∀ s ∈ m, Pure Tryd.prog 16 [.agg x.c, .agg s.c] (boolD (fb x s)) := fun x hx s hs => by rw [hfb]; exact Fits_pure x s (hl.vals x hx) (hs'.fields s hs) (hs'.vals s hs)
  refine Pure.intro (want := [boolD r, i64 e]) T_ok follows Tryd.func12 rfl (by kernel_rfl) (rs := [.tmp 6, .tmp 7]) rfl (by kernel_rfl) ?_
  generalize hP : Tryd.prog = P at *
  have hT : T.ok P := hP ▸ T_ok
  have hm : P.follows .mixedOrders = true := hP ▸ follows
  unfold Tryd.f12
  dsimp only
  cbv
  refine CallP.pure _ hC rfl ?_
  cbv
  refine SplitP.mk (fun h1 => ?_) (fun h1 => ?_) <;> simp only [BE.neq_t, BE.neq_f, IE.var_d, IE.lit_d] at h1
  · have : okc = false := by cases okc <;> simp_all
    refine .mk (.cons (.eq (.bool ?_)) (.cons (.eq (.refl _)) .nil)) rfl
    rw [BE.lit_d, BE.var_d, hr, this]; rfl
  have : okc = true := by cases okc <;> simp_all
  subst this
  rw [Bool.true_and] at hr
  have he0 : e = 0 := by rw [he]; rfl
  refine SplitP.mk (fun h2 => ?_) (fun h2 => ?_)
  · have h3 : ¬ cs.length = m.length := fun q => by
      have h4 : ((cs.length : Int) != (m.length : Int)) = true := h2
      rw [q] at h4
      simp at h4
    refine .mk (.cons (.eq (.bool ?_)) (.cons (.eq (.int ?_)) .nil)) rfl
    · rw [BE.lit_d, BE.var_d, hr, decide_eq_false h3]; rfl
    · rw [IE.lit_d, IE.var_d, he0]
  have h3 : cs.length = m.length := by
    have h4 : ((cs.length : Int) != (m.length : Int)) = false := h2
    simp at h4
    omega
  rw [decide_eq_true h3, Bool.true_and] at hr
  clear h1 h2 hok hC he
  obtain ⟨ok, hok⟩ : ∃ f, f = okI l m cs := ⟨_, rfl⟩
  have hbad : ∀ i, i < cs.length → ok i = false → r = false := fun i hi h => by rw [hr]; exact range_all_f hi (by rw [← hok]; exact h)
  have hgood : (∀ i, i < cs.length → ok i = true) → r = true := fun h => by rw [hr]; exact range_all.2 (by rw [← hok]; exact h)
  have hfalse : ∀ {H : List Bk}, r = false → RetP H [.bool (.lit false), .int .i64 (.lit 0)] [.bool (.var r), .int .i64 (.var e)] := fun h => by
    refine .mk (.cons (.eq (.bool ?_)) (.cons (.eq (.int ?_)) .nil)) rfl
    · rw [BE.lit_d, BE.var_d, h]
    · rw [IE.lit_d, IE.var_d, he0]
  clear hr
  refine CodeP.loopm hT hm (X := Nat × (Int → Bool) × (Int → Option Int) × Nat) (fun x => [(30, .int .i64 (.nat x.1))])
    (fun x => [.mp .i64 (.setb x.2.1 (.nat x.1)), .mp .i64 (.fi .i64 x.2.2.1 (.nat x.2.2.2))])
    (fun x => x.1 ≤ n ∧ (∀ i, i < x.1 → ok i = true) ∧ (∀ z, x.2.1 z = true ↔ ∃ i, i < x.1 ∧ cs[i]? = some z) ∧ (∀ g, (x.2.2.1 g = none → ∀ i, i < x.1 → groupS m i ≠ g) ∧ ∀ p, x.2.2.1 g = some p → ∃ i c, i < x.1 ∧ groupS m i = g ∧ cs[i]? = some c ∧ personI l c = p) ∧ x.2.2.2 ≤ x.1) (fun x => n - x.1) (0, (fun _ => false), (fun _ => none), 0)
    ⟨by simp, fun i h => by simp at h, fun z => by simp, fun g => ⟨fun _ i h => by simp at h, fun p h => by simp at h⟩, by simp⟩ (fun _ => by simp) ⟨?_, ?_, rfl⟩ ?_
  · (cbv; (repeat' (first | exact SnD.refl _ | exact trivial | exact SnD.nat0 | refine And.intro ?_ ?_)))
  · exact ⟨mp_start fun _ => rfl, fi_start fun _ => rfl, trivial⟩
  intro ⟨k, U, F, nF⟩ ⟨hk, hq, hU, hG, hnF⟩
  simp only at hk hq hU hG hnF
  cbv
  refine SplitP.mk (fun hs => ?_) (fun hs => ?_)
  rotate_left
  · have hkn : cs.length ≤ k := by
      have h5 : decide ((k : Int) < (cs.length : Int)) = false := hs
      have := of_decide_eq_false h5
      omega
    clear hs
    refine .mk (.cons (.eq (.bool ?_)) (.cons (.eq (.int ?_)) .nil)) rfl
    · rw [BE.lit_d, BE.var_d, hgood fun i hi => hq i (by omega)]
    · rw [IE.lit_d, IE.var_d, he0]
  have hkn : k < cs.length := by
    have h5 : decide ((k : Int) < (cs.length : Int)) = true := hs
    have := of_decide_eq_true h5
    omega
  clear hs
  have hokk : ok k = (fitAt l m cs k && (List.range k).all (pairAt l m cs k)) := by rw [hok]; rfl
  obtain ⟨s, hsk⟩ : ∃ s, m[k]? = some s := ⟨_, List.getElem?_eq_getElem (by omega)⟩
  refine ElemP.mk (by show (0 : Int) ≤ (k : Int) ∧ (k : Int) < (cs.length : Int); omega) (fun c hck => ?_)
  replace hck : cs[k]? = some c := hck
  cbv
  refine DrawP.mk (by kernel_rfl) ?_
  cbv
  refine SplitP.mk (fun h4 => ?_) (fun h4 => ?_) <;> simp only [BE.lss_t, BE.lss_f, IE.var_d, IE.lit_d] at h4
  · exact hfalse (hbad k hkn (by rw [hokk, fitAt_no hck (by omega)]; rfl))
  refine SplitP.mk (fun h5 => ?_) (fun h5 => ?_)
  · have h6 := of_decide_eq_true (show decide (c ≥ (l.length : Int)) = true from h5)
    exact hfalse (hbad k hkn (by rw [hokk, fitAt_no hck (by omega)]; rfl))
  have h6 : c.toNat < l.length := by have := of_decide_eq_false (show decide (c ≥ (l.length : Int)) = false from h5); omega
  clear h5
  refine LetBP.mk fun u hu => ?_
  cbv
  replace hu : u = U c := hu
  refine SplitP.mk (fun h7 => ?_) (fun h7 => ?_)
  · replace h7 : u = true := h7
    obtain ⟨i, hi, hci⟩ := (hU c).1 (by rw [← hu]; exact h7)
    refine hfalse (hbad k hkn ?_)
    rw [hokk, range_all_f hi (by simp only [pairAt, hci, hck, decide_true, Bool.not_true, Bool.false_and]), Bool.and_false]
  replace h7 : u = false := h7
  subst h7
  have hnew : ∀ i, i < k → cs[i]? ≠ some c := fun i hi h => by
    have := (hU c).2 ⟨i, hi, h⟩
    rw [← hu] at this
    cases this
  refine ElemP.mk (by show (0 : Int) ≤ c ∧ c < (l.length : Int); ((try simp only [ncast] at *); omega)) (fun x hx => ?_)
  replace hx : l[c.toNat]? = some x := hx
  have hFx := hF x (List.mem_of_getElem? hx) s (List.mem_of_getElem? hsk)
  have hfx : fitAt l m cs k = fb x s := by rw [hfb]; exact fitAt_eq hck h4 h6 hx hsk
  have hpx := personI_eq hx
  have hgk := groupS_eq hsk
  rw [hfx] at hokk
  obtain ⟨fx, hfx2⟩ : ∃ b, b = fb x s := ⟨_, rfl⟩
  rw [← hfx2] at hFx hokk
  clear hfx hfx2
  obtain ⟨xr, xp, xn, xv⟩ := x
  simp only at hpx
  cbv
  refine ElemP.mk (by show (0 : Int) ≤ (k : Int) ∧ (k : Int) < (m.length : Int); omega) (fun s2 hs2 => ?_)
  replace hs2 : m[k]? = some s2 := hs2
  rw [hsk] at hs2
  simp only [Option.some.injEq] at hs2
  subst hs2
  obtain ⟨sg, sr, sn, sf, sm, sv⟩ := s
  simp only at hgk
  cbv
  first | refine PureP.mk _ hFx rfl ?_ | refine CallP.pure _ hFx rfl ?_
  cbv
  refine SplitP.mk (fun hs => ?_) (fun hs => ?_)
  · replace hs : fx = false := by simpa using (show (!fx) = true from hs)
    exact hfalse (hbad k hkn (by rw [hokk, hs]; rfl))
  replace hs : fx = true := by simpa using (show (!fx) = false from hs)
  rw [hs, Bool.true_and] at hokk
  clear hs hFx
  refine SplitP.mk (fun h8 => ?_) (fun h8 => ?_)
  · replace h8 : U c = true := h8
    rw [← hu] at h8
    cases h8
  clear h8
  refine ReqP.mk ⟨by simp only [IE.var_d, IE.lit_d, IE.nat_d, IE.len_d, IE.sum_d, IE.u8_d, ncast, Int.ofNat_lt, Int.ofNat_le, Int.ofNat_inj, maxLen]; ((try simp only [ncast] at *); omega)⟩ (fun _ => ?_)
  cbv
  refine ElemP.mk (by show (0 : Int) ≤ (k : Int) ∧ (k : Int) < (m.length : Int); omega) (fun s2 hs2 => ?_)
  replace hs2 : m[k]? = some s2 := hs2
  rw [hsk] at hs2
  simp only [Option.some.injEq] at hs2
  subst hs2
  cbv
  have hGk := hG sg
  have back : ∀ (F' : Int → Option Int) (nF' : Nat), (∀ g, F' g = if g = sg then some xp else F g) → nF' ≤ k + 1 → (∀ i, i < k → pairAt l m cs k i = true) →
      (fun x : Nat × (Int → Bool) × (Int → Option Int) × Nat => x.1 ≤ n ∧ (∀ i, i < x.1 → ok i = true) ∧ (∀ z, x.2.1 z = true ↔ ∃ i, i < x.1 ∧ cs[i]? = some z) ∧ (∀ g, (x.2.2.1 g = none → ∀ i, i < x.1 → groupS m i ≠ g) ∧ ∀ p, x.2.2.1 g = some p → ∃ i c, i < x.1 ∧ groupS m i = g ∧ cs[i]? = some c ∧ personI l c = p) ∧ x.2.2.2 ≤ x.1) (k + 1, (fun z => z == c || U z), F', nF') := by
    intro F' nF' hF' hn' hp
    refine ⟨by simp only; omega, fun i hi => ?_, fun z => ?_, fun g => ⟨fun hg i hi => ?_, fun p hp2 => ?_⟩, hn'⟩
    · simp only at hi
      rcases Nat.lt_or_ge i k with q | q
      · exact hq i q
      · rw [show i = k by omega, hokk]
        exact range_all.2 hp
    · simp only [Bool.or_eq_true, hU, beq_iff_eq]
      constructor
      · rintro (rfl | ⟨i, h1, h2⟩)
        · exact ⟨k, by omega, hck⟩
        · exact ⟨i, by omega, h2⟩
      · rintro ⟨i, h1, h2⟩
        rcases Nat.lt_or_ge i k with q | q
        · exact .inr ⟨i, q, h2⟩
        · rw [show i = k by omega, hck] at h2
          cases h2
          exact .inl rfl
    · simp only at hg hi
      rw [hF'] at hg
      split at hg
      · cases hg
      · next hne =>
        rcases Nat.lt_or_ge i k with q | q
        · exact (hG g).1 hg i q
        · rw [show i = k by omega, hgk]
          exact fun e => hne e.symm
    · simp only at hp2
      rw [hF'] at hp2
      split at hp2
      · next e =>
        cases hp2
        exact ⟨k, c, by omega, by rw [hgk, e], hck, hpx⟩
      · obtain ⟨i, c', h1, h2, h3, h4⟩ := (hG g).2 p hp2
        exact ⟨i, c', by omega, h2, h3, h4⟩
  refine LetOP.mk (fun hnone => ?_) (fun y hy => ?_)
  · replace hnone : F sg = none := hnone
    cbv
    refine ElemP.mk (by show (0 : Int) ≤ (k : Int) ∧ (k : Int) < (m.length : Int); omega) (fun s2 hs2 => ?_)
    replace hs2 : m[k]? = some s2 := hs2
    rw [hsk] at hs2
    simp only [Option.some.injEq] at hs2
    subst hs2
    cbv
    refine ElemP.mk (by show (0 : Int) ≤ c ∧ c < (l.length : Int); ((try simp only [ncast] at *); omega)) (fun x2 hx2 => ?_)
    replace hx2 : l[c.toNat]? = some x2 := hx2
    rw [hx] at hx2
    simp only [Option.some.injEq] at hx2
    subst hx2
    cbv
    refine SplitP.mk (fun h8 => ?_) (fun h8 => ?_)
    · replace h8 : (F sg).isSome = true := h8
      rw [hnone] at h8
      cases h8
    refine ReqP.mk ⟨by simp only [IE.var_d, IE.lit_d, IE.nat_d, IE.len_d, IE.sum_d, IE.u8_d, ncast, Int.ofNat_lt, Int.ofNat_le, Int.ofNat_inj, maxLen]; ((try simp only [ncast] at *); omega)⟩ (fun _ => ?_)
    cbv
    refine BackP.intro (k + 1, (fun z => z == c || U z), (fun g => if g = sg then some xp else F g), nF + 1) (back _ _ (fun _ => rfl) (by omega) fun i hi => ?_) (by show n - (k + 1) < n - k; omega) ⟨?_, ?_, rfl⟩
    · have hci : cs[i]? = some (cs[i]'(by omega)) := List.getElem?_eq_getElem (by omega)
      have h1 := hGk.1 hnone i hi
      have h2 := hnew i hi
      simp only [pairAt, hci, hck, Bool.and_eq_true, Bool.not_eq_true', decide_eq_false_iff_not]
      exact ⟨fun e => h2 (by rw [hci, e]), fun e => h1 (by rw [e.1, hgk])⟩
    · (cbv; (repeat' (first | exact SnD.refl _ | exact trivial | exact SnD.nat0 | refine And.intro ?_ ?_)))
      exact .inc (by omega)
    · exact ⟨mp_same rfl fun _ => rfl, fi_same rfl fun _ => rfl, trivial⟩
  · replace hy : F sg = some y := hy
    cbv
    refine ElemP.mk (by show (0 : Int) ≤ c ∧ c < (l.length : Int); ((try simp only [ncast] at *); omega)) (fun x2 hx2 => ?_)
    replace hx2 : l[c.toNat]? = some x2 := hx2
    rw [hx] at hx2
    simp only [Option.some.injEq] at hx2
    subst hx2
    cbv
    refine SplitP.mk (fun h8 => ?_) (fun h8 => ?_) <;> simp only [BE.neq_t, BE.neq_f, IE.var_d] at h8
    · obtain ⟨i0, c0, hi0, hg0, hc0, hp0⟩ := hGk.2 y hy
      refine hfalse (hbad k hkn ?_)
      rw [hokk]
      refine range_all_f hi0 ?_
      simp only [pairAt, hc0, hck, Bool.and_eq_false_iff, Bool.not_eq_false', decide_eq_true_eq]
      exact .inr ⟨by rw [hg0, hgk], by rw [hp0, hpx]; exact h8⟩
    refine ElemP.mk (by show (0 : Int) ≤ (k : Int) ∧ (k : Int) < (m.length : Int); omega) (fun s2 hs2 => ?_)
    replace hs2 : m[k]? = some s2 := hs2
    rw [hsk] at hs2
    simp only [Option.some.injEq] at hs2
    subst hs2
    cbv
    refine ElemP.mk (by show (0 : Int) ≤ c ∧ c < (l.length : Int); ((try simp only [ncast] at *); omega)) (fun x2 hx2 => ?_)
    replace hx2 : l[c.toNat]? = some x2 := hx2
    rw [hx] at hx2
    simp only [Option.some.injEq] at hx2
    subst hx2
    cbv
    refine SplitP.mk (fun h9 => ?_) (fun h9 => ?_)
    rotate_left
    · replace h9 : (F sg).isSome = false := h9
      rw [hy] at h9
      cases h9
    refine BackP.intro (k + 1, (fun z => z == c || U z), (fun g => if g = sg then some xp else F g), nF) (back _ _ (fun _ => rfl) (by omega) fun i hi => ?_) (by show n - (k + 1) < n - k; omega) ⟨?_, ?_, rfl⟩
    · have hci : cs[i]? = some (cs[i]'(by omega)) := List.getElem?_eq_getElem (by omega)
      have h2 := hnew i hi
      simp only [pairAt, hci, hck, Bool.and_eq_true, Bool.not_eq_true', decide_eq_false_iff_not]
      obtain ⟨i0, c0, hi0, hg0, hc0, hp0⟩ := hGk.2 y hy
      refine ⟨fun e => h2 (by rw [hci, e]), fun e => e.2 ?_⟩
      rw [hok] at hq
      have h5 := ok_same hq hi hi0 hci hc0 (by rw [e.1, hg0, hgk])
      rw [h5, hp0, hpx, h8]
    · (cbv; (repeat' (first | exact SnD.refl _ | exact trivial | exact SnD.nat0 | refine And.intro ?_ ?_)))
      exact .inc (by omega)
    · exact ⟨mp_same rfl fun _ => rfl, fi_same rfl fun _ => rfl, trivial⟩
end Go.Proofs.YtffmgfehaahlhaaDoor
namespace Go.Proofs.YtffmgfehaahlhaaDoor
open Go.RowKit

/-! The reference: Few, Occurs, SameInts. -/
def occB (g : Int) (l : List SeenD) : Bool := l.any fun s => decide (s.group = g)
set_option maxRecDepth 100000 in
set_option maxHeartbeats 4000000 in
theorem Occurs_pure (l : List SeenD) (nb : Option BE) (g : Int) (hl : l.length < 9223372036854775807) : Pure Tryd.prog 24 [.slm 4 nb SeenD.c l, i64 g] (boolD (occB g l)) := by
  obtain ⟨r, hr⟩ : ∃ r, r = occB g l := ⟨_, rfl⟩
  rw [← hr]
  obtain ⟨n, hn⟩ : ∃ n : Nat, n = l.length := ⟨_, rfl⟩
  refine Pure.intro (want := [boolD r]) T_ok follows Tryd.func24 rfl (by kernel_rfl) (rs := [.tmp 4]) rfl (by kernel_rfl) ?_
  generalize hP : Tryd.prog = P
  have hT : T.ok P := hP ▸ T_ok
  have hm : P.follows .mixedOrders = true := hP ▸ follows
  unfold Tryd.f24
  dsimp only
  cbv
  refine CodeP.loopc hT hm (X := Nat) (fun k => [(5, .int .i64 (.nat k))]) (fun k => k ≤ l.length ∧ r = occB g (l.drop k)) (fun k => n - k) 0 ⟨by simp, hr⟩ (Nat.zero_le _) ?_ rfl ?_
  · (cbv; (repeat' (first | exact SnD.refl _ | exact trivial | exact SnD.nat0 | refine And.intro ?_ ?_)))
  intro k ⟨hk, hq⟩
  cbv
  refine SplitP.mk (fun hs => ?_) (fun hs => ?_)
  · have hkn : k < l.length := by
      have h5 : decide ((k : Int) < (l.length : Int)) = true := hs
      have := of_decide_eq_true h5
      omega
    clear hs
    refine ElemP.mk (by show (0 : Int) ≤ (k : Int) ∧ (k : Int) < (l.length : Int); omega) (fun x hx => ?_)
    replace hx : l[k]? = some x := hx
    rw [drop_cons hx] at hq
    obtain ⟨sg, sr, sn, sf, sm, sv⟩ := x
    simp only [occB, List.any_cons] at hq
    cbv
    refine SplitP.mk (fun hs => ?_) (fun hs => ?_) <;> simp only [BE.eql_t, BE.eql_f, IE.var_d] at hs
    · refine .mk (.cons (.eq (.bool ?_)) .nil) rfl
      rw [BE.lit_d, BE.var_d]
      rw [hq, decide_eq_true hs]; rfl
    · refine BackP.intro (k + 1) ⟨by omega, by rw [hq, decide_eq_false hs]; rfl⟩ (by show n - (k + 1) < n - k; omega) ⟨?_, HEnt.refl _, rfl⟩
      (cbv; (repeat' (first | exact SnD.refl _ | exact trivial | exact SnD.nat0 | refine And.intro ?_ ?_)))
      exact .inc (by omega)
  · have hkn : l.length ≤ k := by
      have h5 : decide ((k : Int) < (l.length : Int)) = false := hs
      have := of_decide_eq_false h5
      omega
    clear hs
    refine .mk (.cons (.eq (.bool ?_)) .nil) rfl
    rw [BE.lit_d, BE.var_d]
    rw [hq, List.drop_of_length_le (by omega)]; rfl
set_option maxRecDepth 100000 in
set_option maxHeartbeats 4000000 in
theorem SameInts_pure (l m : List Int) (na nb : Option BE) (hl : l.length < 9223372036854775807) : Pure Tryd.prog 22 [.slm 1 na intC l, .slm 1 nb intC m] (boolD (decide (l = m))) := by
  obtain ⟨r, hr⟩ : ∃ r, r = decide (l = m) := ⟨_, rfl⟩
  rw [← hr]
  obtain ⟨n, hn⟩ : ∃ n : Nat, n = l.length := ⟨_, rfl⟩
  refine Pure.intro (want := [boolD r]) T_ok follows Tryd.func22 rfl (by kernel_rfl) (rs := [.tmp 4]) rfl (by kernel_rfl) ?_
  generalize hP : Tryd.prog = P
  have hT : T.ok P := hP ▸ T_ok
  have hm : P.follows .mixedOrders = true := hP ▸ follows
  unfold Tryd.f22
  dsimp only
  cbv
  refine SplitP.mk (fun h2 => ?_) (fun h2 => ?_)
  · have h3 : ((l.length : Int) != (m.length : Int)) = true := h2
    refine .mk (.cons (.eq (.bool ?_)) .nil) rfl
    rw [BE.lit_d, BE.var_d]
    rw [hr]; exact (decide_eq_false fun e => by rw [e] at h3; simp at h3).symm
  have h3 : l.length = m.length := by
    have h3 : ((l.length : Int) != (m.length : Int)) = false := h2
    simp at h3
    omega
  clear h2
  refine CodeP.loopc hT hm (X := Nat) (fun k => [(5, .int .i64 (.nat k))]) (fun k => k ≤ l.length ∧ r = decide (l.drop k = m.drop k)) (fun k => n - k) 0 ⟨by simp, hr⟩ (Nat.zero_le _) ?_ rfl ?_
  · (cbv; (repeat' (first | exact SnD.refl _ | exact trivial | exact SnD.nat0 | refine And.intro ?_ ?_)))
  intro k ⟨hk, hq⟩
  cbv
  refine SplitP.mk (fun hs => ?_) (fun hs => ?_)
  · have hkn : k < l.length := by
      have h5 : decide ((k : Int) < (l.length : Int)) = true := hs
      have := of_decide_eq_true h5
      omega
    clear hs
    refine ElemP.mk (by show (0 : Int) ≤ (k : Int) ∧ (k : Int) < (l.length : Int); omega) (fun x hx => ?_)
    replace hx : l[k]? = some x := hx
    cbv
    refine ElemP.mk (by show (0 : Int) ≤ (k : Int) ∧ (k : Int) < (m.length : Int); omega) (fun y hy => ?_)
    replace hy : m[k]? = some y := hy
    rw [drop_cons hx, drop_cons hy] at hq
    cbv
    refine SplitP.mk (fun hs => ?_) (fun hs => ?_) <;> simp only [BE.neq_t, BE.neq_f, IE.var_d] at hs
    · refine .mk (.cons (.eq (.bool ?_)) .nil) rfl
      rw [BE.lit_d, BE.var_d]
      rw [hq]; exact (decide_eq_false fun e => hs (List.cons.inj e).1).symm
    · refine BackP.intro (k + 1) ⟨by omega, ?_⟩ (by show n - (k + 1) < n - k; omega) ⟨?_, HEnt.refl _, rfl⟩
      · rw [hq]
        exact decide_eq_decide.2 ⟨fun e => (List.cons.inj e).2, fun e => by rw [hs, e]⟩
      · (cbv; (repeat' (first | exact SnD.refl _ | exact trivial | exact SnD.nat0 | refine And.intro ?_ ?_)))
        exact .inc (by omega)
  · have hkn : l.length ≤ k := by
      have h5 : decide ((k : Int) < (l.length : Int)) = false := hs
      have := of_decide_eq_false h5
      omega
    clear hs
    refine .mk (.cons (.eq (.bool ?_)) .nil) rfl
    rw [BE.lit_d, BE.var_d]
    rw [hq, List.drop_of_length_le (by omega), List.drop_of_length_le (by omega)]; rfl
set_option maxRecDepth 100000 in
set_option maxHeartbeats 4000000 in
theorem Few_pure (l : List IssuedD) (m : List SeenD) (na nb : Option BE) (hl : l.length ≤ 9223372036854775807) (hm' : m.length ≤ 9223372036854775807) : Pure Tryd.prog 11 [.slm 3 na IssuedD.c l, .slm 4 nb SeenD.c m] (boolD (fewB l m)) := by
  obtain ⟨r, hr⟩ : ∃ r, r = fewB l m := ⟨_, rfl⟩
  rw [← hr]
  obtain ⟨n, hn⟩ : ∃ n : Nat, n = l.length := ⟨_, rfl⟩
  obtain ⟨n2, hn2⟩ : ∃ n : Nat, n = m.length := ⟨_, rfl⟩
  obtain ⟨lst, hlst⟩ : ∃ b, b = decide (l.length ≤ 12 ∧ m.length ≤ 5) := ⟨_, rfl⟩
  simp only [fewB] at hr
  rw [← hlst] at hr
  refine Pure.intro (want := [boolD r]) T_ok follows Tryd.func11 rfl (by kernel_rfl) (rs := [.tmp 4]) rfl (by kernel_rfl) ?_
  generalize hP : Tryd.prog = P
  have hT : T.ok P := hP ▸ T_ok
  have hm : P.follows .mixedOrders = true := hP ▸ follows
  unfold Tryd.f11
  dsimp only
  cbv
  refine CodeP.loopc hT hm (X := Nat) (fun k => [(5, .int .i64 (.nat k))]) (fun k => k ≤ l.length ∧ r = (((l.drop k).all fun x => decide (x.values.length ≤ 16)) && ((m.all fun s => decide (s.fields.length ≤ 16 ∧ s.values.length ≤ 16)) && lst))) (fun k => n - k) 0 ⟨by simp, hr⟩ (Nat.zero_le _) ?_ rfl ?_
  · (cbv; (repeat' (first | exact SnD.refl _ | exact trivial | exact SnD.nat0 | refine And.intro ?_ ?_)))
  intro k ⟨hk, hq⟩
  cbv
  refine SplitP.mk (fun hs => ?_) (fun hs => ?_)
  · have hkn : k < l.length := by
      have h5 : decide ((k : Int) < (l.length : Int)) = true := hs
      have := of_decide_eq_true h5
      omega
    clear hs
    refine ElemP.mk (by show (0 : Int) ≤ (k : Int) ∧ (k : Int) < (l.length : Int); omega) (fun x hx => ?_)
    replace hx : l[k]? = some x := hx
    rw [drop_cons hx] at hq
    obtain ⟨xr, xp, xn, xv⟩ := x
    simp only [List.all_cons] at hq
    cbv
    refine SplitP.mk (fun hs => ?_) (fun hs => ?_)
    · have h5 := of_decide_eq_true (show decide ((xv.length : Int) > 16) = true from hs)
      refine .mk (.cons (.eq (.bool ?_)) .nil) rfl
      rw [BE.lit_d, BE.var_d]
      rw [hq, decide_eq_false (by omega)]; rfl
    · have h5 := of_decide_eq_false (show decide ((xv.length : Int) > 16) = false from hs)
      refine BackP.intro (k + 1) ⟨by omega, by rw [hq, decide_eq_true (by omega)]; rfl⟩ (by show n - (k + 1) < n - k; omega) ⟨?_, HEnt.refl _, rfl⟩
      (cbv; (repeat' (first | exact SnD.refl _ | exact trivial | exact SnD.nat0 | refine And.intro ?_ ?_)))
      exact .inc (by omega)
  have hkn : l.length ≤ k := by
    have h5 : decide ((k : Int) < (l.length : Int)) = false := hs
    have := of_decide_eq_false h5
    omega
  clear hs
  have hr2 : r = ((m.all fun s => decide (s.fields.length ≤ 16 ∧ s.values.length ≤ 16)) && lst) := by rw [hq, List.drop_of_length_le (by omega)]; rfl
  clear hq hr hkn hk
  refine CodeP.loopc hT hm (X := Nat) (fun k => [(6, .int .i64 (.nat k))]) (fun k => k ≤ m.length ∧ r = (((m.drop k).all fun s => decide (s.fields.length ≤ 16 ∧ s.values.length ≤ 16)) && lst)) (fun k => n2 - k) 0 ⟨by simp, hr2⟩ (Nat.zero_le _) ?_ rfl ?_
  · (cbv; (repeat' (first | exact SnD.refl _ | exact trivial | exact SnD.nat0 | refine And.intro ?_ ?_)))
  intro j ⟨hj, hq⟩
  cbv
  refine SplitP.mk (fun hs => ?_) (fun hs => ?_)
  · have hkn : j < m.length := by
      have h5 : decide ((j : Int) < (m.length : Int)) = true := hs
      have := of_decide_eq_true h5
      omega
    clear hs
    refine ElemP.mk (by show (0 : Int) ≤ (j : Int) ∧ (j : Int) < (m.length : Int); omega) (fun x hx => ?_)
    replace hx : m[j]? = some x := hx
    rw [drop_cons hx] at hq
    obtain ⟨sg, sr, sn, sf, sm, sv⟩ := x
    simp only [List.all_cons] at hq
    cbv
    refine SplitP.mk (fun hs => ?_) (fun hs => ?_)
    · have h5 := of_decide_eq_true (show decide ((sf.length : Int) > 16) = true from hs)
      refine .mk (.cons (.eq (.bool ?_)) .nil) rfl
      rw [BE.lit_d, BE.var_d]
      rw [hq, decide_eq_false (by omega)]; rfl
    have h5 : sf.length ≤ 16 := by have := of_decide_eq_false (show decide ((sf.length : Int) > 16) = false from hs); omega
    refine ElemP.mk (by show (0 : Int) ≤ (j : Int) ∧ (j : Int) < (m.length : Int); omega) (fun x2 hx2 => ?_)
    replace hx2 : m[j]? = some x2 := hx2
    rw [hx] at hx2
    cases hx2
    cbv
    refine SplitP.mk (fun hs2 => ?_) (fun hs2 => ?_)
    · have h6 := of_decide_eq_true (show decide ((sv.length : Int) > 16) = true from hs2)
      refine .mk (.cons (.eq (.bool ?_)) .nil) rfl
      rw [BE.lit_d, BE.var_d]
      rw [hq, decide_eq_false (by omega)]; rfl
    have h6 := of_decide_eq_false (show decide ((sv.length : Int) > 16) = false from hs2)
    refine BackP.intro (j + 1) ⟨by omega, by rw [hq, decide_eq_true (by omega)]; rfl⟩ (by show n2 - (j + 1) < n2 - j; omega) ⟨?_, HEnt.refl _, rfl⟩
    (cbv; (repeat' (first | exact SnD.refl _ | exact trivial | exact SnD.nat0 | refine And.intro ?_ ?_)))
    exact .inc (by omega)
  · have hkn : m.length ≤ j := by
      have h5 : decide ((j : Int) < (m.length : Int)) = false := hs
      have := of_decide_eq_false h5
      omega
    clear hs
    have hr3 : r = lst := by rw [hq, List.drop_of_length_le (by omega)]; rfl
    refine SplitP.mk (fun hs2 => ?_) (fun hs2 => ?_)
    · have h6 := of_decide_eq_true (show decide ((l.length : Int) ≤ 12) = true from hs2)
      refine .mk (.cons (.eq (.bool ?_)) .nil) rfl
      show decide ((m.length : Int) ≤ 5) = r
      rw [hr3, hlst]
      exact decide_eq_decide.2 ⟨fun h => ⟨by omega, by omega⟩, fun h => by omega⟩
    · have h6 := of_decide_eq_false (show decide ((l.length : Int) ≤ 12) = false from hs2)
      refine .mk (.cons (.eq (.bool ?_)) .nil) rfl
      rw [BE.lit_d, BE.var_d]
      rw [hr3, hlst]; exact (decide_eq_false (by omega)).symm
end Go.Proofs.YtffmgfehaahlhaaDoor
