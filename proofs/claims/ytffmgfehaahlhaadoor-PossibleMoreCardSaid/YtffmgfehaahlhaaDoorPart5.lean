/- Part 5 of the walks and laws that these claims rest on. No condition. -/
import Derived.ProofKit
import Derived.OpenShut
import Derived.ShutString
import Derived.ChangeOld
import Derived.Test.YtffmgfehaahlhaaDoorRows
import Derived.LaidMore
import Derived.Stop.Joined
import Derived.SizedLaws
import Derived.Test.YtffmgfehaahlhaaDoorPart4
set_option linter.all false
set_option linter.unusedSimpArgs false
set_option linter.unusedVariables false
set_option linter.unnecessarySimpa false
namespace Go.Proofs.YtffmgfehaahlhaaDoor
open Go.RowKit

/-! The examples of the chapter: the calls. -/
def DLe (d d' : D) : Prop := ∀ (w : World) (E : Env) (v : Value), DRep w E d v → DRep w E d' v
inductive DsLe : List D → List D → Prop
  | nil : DsLe [] []
  | cons {d d' : D} {l l' : List D} (h : DLe d d') (r : DsLe l l') : DsLe (d :: l) (d' :: l')
theorem DsLe.get {l l' : List D} (h : DsLe l l') : l.length = l'.length ∧ ∀ (i : Nat) d d', l[i]? = some d → l'[i]? = some d' → DLe d d' := by
  induction h with
  | nil => exact ⟨rfl, fun i d d' h => by simp at h⟩
  | cons h r ih =>
    refine ⟨by simp [ih.1], fun i d d' hd hd' => ?_⟩
    cases i with
    | zero => simp at hd hd'; subst hd; subst hd'; exact h
    | succ i => exact ih.2 i d d' (by simpa using hd) (by simpa using hd')
theorem DEq.le {d d' : D} (h : DEq d d') : DLe d d' := fun _ _ _ hr => h.rep hr
theorem DLe.refl (d : D) : DLe d d := fun _ _ _ h => h
theorem DLe.lit (k : IntKind) (x : Int) : DLe (.int k (.lit x)) (.int k (.var x)) := by
  have h : DEq (.int k (.lit x)) (.int k (.var x)) := .int rfl
  exact h.le
theorem Pure.argsL {P : Program} {f : Nat} {args args' : List D} {d : D} (hs : DsLe args args') (h : Pure P f args' d) : Pure P f args d := by
  obtain ⟨h1, h2⟩ := hs.get
  refine ⟨h.1, fun w G vs hL hG hv => h.2 w G vs hL hG ⟨by rw [← h1]; exact hv.1, fun i x v hx hv' => ?_⟩⟩
  have hlt := (List.getElem?_eq_some_iff.1 hx).1
  have hx0 : args[i]? = some (args[i]'(by omega)) := List.getElem?_eq_getElem (by omega)
  exact h2 i _ x hx0 hx w _ v (hv.2 i _ v hx0 hv')
theorem Pure.resL {P : Program} {f : Nat} {args : List D} {d d' : D} (h : Pure P f args d) (he : DLe d d') : Pure P f args d' := by
  refine ⟨h.1, fun w G vs hL hG hv => (h.2 w G vs hL hG hv).mono ?_⟩
  rintro e w' ⟨v, G', q1, q2, q3, q4, q5, q6⟩
  exact ⟨v, G', q1, q2, q3, q4, q5, he _ _ _ q6⟩
inductive EsLe {α : Type} (c : α → List D) : List (List D) → List α → Prop
  | nil : EsLe c [] []
  | cons {e : List D} {x : α} {es : List (List D)} {l : List α} (h : DsLe e (c x)) (r : EsLe c es l) : EsLe c (e :: es) (x :: l)
theorem EsLe.get {α : Type} {c : α → List D} {es : List (List D)} {l : List α} (h : EsLe c es l) : es.length = l.length ∧ ∀ (i : Nat) e x, es[i]? = some e → l[i]? = some x → DsLe e (c x) := by
  induction h with
  | nil => exact ⟨rfl, fun i d d' h => by simp at h⟩
  | cons h r ih =>
    refine ⟨by simp [ih.1], fun i d d' hd hd' => ?_⟩
    cases i with
    | zero => simp at hd hd'; subst hd; subst hd'; exact h
    | succ i => exact ih.2 i d d' (by simpa using hd) (by simpa using hd')
theorem EsLe.map {α β : Type} {c : α → List D} (f : β → List D) (g : β → α) (h : ∀ y, DsLe (f y) (c (g y))) : ∀ l : List β, EsLe c (l.map f) (l.map g)
  | [] => .nil
  | y :: l => .cons (h y) (EsLe.map f g h l)
theorem EsLe.le {α : Type} {c : α → List D} {es : List (List D)} {l : List α} {n : Nat} {nb : Option BE} (h : EsLe c es l) (hn : ∀ e, nb = some e → e.den = false) : DLe (.sll n es) (.slm n nb c l) := by
  intro w E v hr
  obtain ⟨h1, h2⟩ := h.get
  generalize hd : D.sll n es = d at hr
  cases hr with
  | @sll E n es a cap u hc hm hx ha hh =>
    cases hd
    rw [h1] at hc ⊢
    obtain ⟨b, base, q1, q2, q3⟩ := ha
    refine .slm u (fun e he => by rw [hn e he, q1]; rfl) hc hm (fun x hx' => ?_) (fun _ => ⟨b, base, q1, q2, fun i j hi hj => q3 i j (by omega) hj⟩) fun i x j d hx' hd' => ?_
    · obtain ⟨i, hi, rfl⟩ := List.getElem_of_mem hx'
      have he : es[i]? = some (es[i]'(by omega)) := List.getElem?_eq_getElem (by omega)
      have := h2 i _ _ he (List.getElem?_eq_getElem hi)
      rw [← this.get.1]
      exact hx _ (List.getElem_mem _)
    · have hi := (List.getElem?_eq_some_iff.1 hx').1
      have he : es[i]? = some (es[i]'(by omega)) := List.getElem?_eq_getElem (by omega)
      have hs := (h2 i _ _ he hx').get
      have hj := (List.getElem?_eq_some_iff.1 hd').1
      have hd0 : (es[i]'(by omega))[j]? = some ((es[i]'(by omega))[j]'(by omega)) := List.getElem?_eq_getElem (by omega)
      exact hs.2 j _ _ hd0 hd' w _ _ (hh i _ j _ he hd0)
  | _ => cases hd
def litI (l : List Int) : D := .sll 1 (l.map fun x => [.int .i64 (.lit x)])
theorem litI_le (l : List Int) {nb : Option BE} (hn : ∀ e, nb = some e → e.den = false) : DLe (litI l) (.slm 1 nb intC l) := by
  have := EsLe.map (c := intC) (fun x : Int => [.int .i64 (.lit x)]) id (fun x => .cons (DLe.lit _ _) .nil) l
  rw [List.map_id] at this
  exact this.le hn
/-- an issued copy, a sight, as they are written in the text -/
def litX (x : Int × Int × List Int) : List D := [.int .i64 (.lit x.1), .int .i64 (.lit x.2.1), litI x.2.2]
def issX (x : Int × Int × List Int) : IssuedD := ⟨x.1, x.2.1, false, x.2.2⟩
theorem litX_le (x : Int × Int × List Int) : DsLe (litX x) (issX x).c := .cons (DLe.lit _ _) (.cons (DLe.lit _ _) (.cons (litI_le _ fun e h => by cases h; rfl) .nil))
def litS (x : Int × Int × List Int × List Int) : List D := [.int .i64 (.lit x.1), .int .i64 (.lit x.2.1), litI x.2.2.1, litI x.2.2.2]
def seenX (x : Int × Int × List Int × List Int) : SeenD := ⟨x.1, x.2.1, false, x.2.2.1, false, x.2.2.2⟩
theorem litS_le (x : Int × Int × List Int × List Int) : DsLe (litS x) (seenX x).c := .cons (DLe.lit _ _) (.cons (DLe.lit _ _) (.cons (litI_le _ fun e h => by cases h; rfl) (.cons (litI_le _ fun e h => by cases h; rfl) .nil)))
def litN (g r : Int) : List D := [.int .i64 (.lit g), .int .i64 (.lit r), .nils, .nils]
def seenN (g r : Int) : SeenD := ⟨g, r, true, [], true, []⟩
theorem litN_le (g r : Int) : DsLe (litN g r) (seenN g r).c := .cons (DLe.lit _ _) (.cons (DLe.lit _ _) (.cons (DEq.nilv rfl rfl).le (.cons (DEq.nilv rfl rfl).le .nil)))
def exI : List (Int × Int × List Int) := [(0, 4, [4, 7]), (0, 9, [9, 7]), (0, 9, [9, 8])]
def rawI : D := .sll 3 (exI.map litX)
def rawOne : D := .sll 4 [litS (1, 0, [1], [7])]
def rawBoth : D := .sll 4 [litS (1, 0, [1], [7]), litS (2, 0, [1], [7])]
def rawPair : D := .sll 4 [litS (1, 0, [1], [7]), litN 1 0]
def oneS : List SeenD := [seenX (1, 0, [1], [7])]
def bothS : List SeenD := [seenX (1, 0, [1], [7]), seenX (2, 0, [1], [7])]
def pairS : List SeenD := [seenX (1, 0, [1], [7]), seenN 1 0]
theorem rawI_le : DLe rawI (.slm 3 none IssuedD.c (exI.map issX)) := (EsLe.map litX issX litX_le exI).le fun e h => by cases h
theorem one_le : DLe rawOne (.slm 4 none SeenD.c oneS) := (EsLe.cons (litS_le _) .nil).le fun e h => by cases h
theorem both_le : DLe rawBoth (.slm 4 none SeenD.c bothS) := (EsLe.cons (litS_le _) (.cons (litS_le _) .nil)).le fun e h => by cases h
theorem pair_le : DLe rawPair (.slm 4 none SeenD.c pairS) := (EsLe.cons (litS_le _) (.cons (litN_le _ _) .nil)).le fun e h => by cases h
theorem resL (a : D) (x : Int) : DLe (.tup [a, i64 x]) (.tup [a, .int .i64 (.lit x)]) := by
  have h : DEq (.tup [a, i64 x]) (.tup [a, .int .i64 (.lit x)]) := .tup (.cons (.refl _) (.cons (.int rfl) .nil))
  exact h.le
theorem resL3 (a : D) (b : Bool) (x : Int) : DLe (.tup [a, boolD b, i64 x]) (.tup [a, .bool (.lit b), .int .i64 (.lit x)]) := by
  have h : DEq (.tup [a, boolD b, i64 x]) (.tup [a, .bool (.lit b), .int .i64 (.lit x)]) := .tup (.cons (.refl _) (.cons (.bool rfl) (.cons (.int rfl) .nil)))
  exact h.le
theorem resLb (b : Bool) (x : Int) : DLe (.tup [boolD b, i64 x]) (.tup [.bool (.lit b), .int .i64 (.lit x)]) := by
  have h : DEq (.tup [boolD b, i64 x]) (.tup [.bool (.lit b), .int .i64 (.lit x)]) := .tup (.cons (.bool rfl) (.cons (.int rfl) .nil))
  exact h.le
theorem bigI_ex : BigI (exI.map issX) := ⟨by decide, by decide⟩
theorem big_one : BigS oneS := ⟨by decide, by decide, by decide⟩
theorem big_both : BigS bothS := ⟨by decide, by decide, by decide⟩
theorem big_pair : BigS pairS := ⟨by decide, by decide, by decide⟩
theorem big_nilI : BigI [] := ⟨by decide, fun x h => by cases h⟩
theorem big_nilS : BigS [] := ⟨by decide, (fun x h => nomatch h), (fun x h => nomatch h)⟩
theorem boolL (b : Bool) : DLe (boolD b) (.bool (.lit b)) := by
  have h : DEq (boolD b) (.bool (.lit b)) := .bool rfl
  exact h.le
theorem intL (x : Int) : DLe (i64 x) (.int .i64 (.lit x)) := by
  have h : DEq (i64 x) (.int .i64 (.lit x)) := .int rfl
  exact h.le
theorem nilL {α : Type} (n : Nat) (c : α → List D) : DLe .nils (.slm n none c ([] : List α)) := (DEq.nil0 rfl).le
theorem ofV {I : List IssuedD} {S : List SeenD} {g : Int} {a b : D} (ha : DLe a (.slm 3 none IssuedD.c I)) (hb : DLe b (.slm 4 none SeenD.c S)) (hI : BigI I) (hS : BigS S) {l : List Int} {e : Bool} {x : Int} (h1 : ofA I S g = l) (h2 : decide (l.length = 0) = e) (h3 : (if okOf I S g then 0 else 300) = x) :
    Pure Tryd.prog 18 [a, b, .int .i64 (.lit g)] (.tup [.slm 1 (some (.var e)) intC l, .int .i64 (.lit x)]) := by
  have h := Of_pure I S g none none hI hS
  rw [h1, h2, h3] at h
  exact Pure.resL (Pure.argsL (.cons ha (.cons hb (.cons (DLe.lit _ _) .nil))) h) (resL _ _)
theorem anyV {I : List IssuedD} {S : List SeenD} {a b : D} (ha : DLe a (.slm 3 none IssuedD.c I)) (hb : DLe b (.slm 4 none SeenD.c S)) (hI : BigI I) (hS : BigS S) {l : List Int} {e ok : Bool} {x : Int} (h1 : (anyA I S).getD [] = l) (h2 : decide (l.length = 0) = e) (h3 : (anyA I S).isSome = ok) (h4 : (if checkB I S then 0 else 300) = x) :
    Pure Tryd.prog 20 [a, b] (.tup [.slm 1 (some (.var e)) intC l, .bool (.lit ok), .int .i64 (.lit x)]) := by
  have h := Any_pure I S none none hI hS
  rw [h1, h2, h3, h4] at h
  exact Pure.resL (Pure.argsL (.cons ha (.cons hb .nil)) h) (resL3 _ _ _)
theorem explV {I : List IssuedD} {S : List SeenD} {cs : List Int} {a b : D} (ha : DLe a (.slm 3 none IssuedD.c I)) (hb : DLe b (.slm 4 none SeenD.c S)) (hI : BigI I) (hS : BigS S) (hc : cs.length ≤ 1000000) {r : Bool} {x : Int} (h1 : (checkB I S && (decide (cs.length = S.length) && explB I S cs)) = r) (h2 : (if checkB I S then 0 else 300) = x) :
    Pure Tryd.prog 12 [a, b, litI cs] (.tup [.bool (.lit r), .int .i64 (.lit x)]) := by
  have h := Explains_pure I S cs none none none hI hS hc
  rw [h1, h2] at h
  exact Pure.resL (Pure.argsL (.cons ha (.cons hb (.cons (litI_le _ fun e h => by cases h) .nil))) h) (resLb _ _)
theorem sameV (l m : List Int) (e : Bool) {r : Bool} (hl : l.length < 9223372036854775807) (h : decide (l = m) = r) : Pure Tryd.prog 22 [.slm 1 (some (.var e)) intC l, litI m] (.bool (.lit r)) := by
  have h1 := SameInts_pure l m (some (.var e)) none hl
  rw [h] at h1
  exact Pure.resL (Pure.argsL (.cons (DLe.refl _) (.cons (litI_le _ fun e h => by cases h) .nil)) h1) (boolL _)
theorem V1 : Pure Tryd.prog 18 [rawI, rawOne, .int .i64 (.lit 1)] (.tup [.slm 1 (some (.var false)) intC [4, 9], .int .i64 (.lit 0)]) := ofV rawI_le one_le bigI_ex big_one (by kernel_rfl) rfl (by kernel_rfl)
theorem V2 : Pure Tryd.prog 18 [rawI, rawBoth, .int .i64 (.lit 2)] (.tup [.slm 1 (some (.var false)) intC [4, 9], .int .i64 (.lit 0)]) := ofV rawI_le both_le bigI_ex big_both (by kernel_rfl) rfl (by kernel_rfl)
theorem V3 : Pure Tryd.prog 18 [rawI, rawPair, .int .i64 (.lit 1)] (.tup [.slm 1 (some (.var false)) intC [9], .int .i64 (.lit 0)]) := ofV rawI_le pair_le bigI_ex big_pair (by kernel_rfl) rfl (by kernel_rfl)
theorem V4 : Pure Tryd.prog 18 [.nils, .nils, .int .i64 (.lit 0)] (.tup [.slm 1 (some (.var true)) intC [], .int .i64 (.lit 300)]) := ofV (nilL _ _) (nilL _ _) big_nilI big_nilS (by kernel_rfl) rfl (by kernel_rfl)
theorem V5 : Pure Tryd.prog 20 [rawI, rawPair] (.tup [.slm 1 (some (.var false)) intC [1, 2], .bool (.lit true), .int .i64 (.lit 0)]) := anyV rawI_le pair_le bigI_ex big_pair (by kernel_rfl) rfl (by kernel_rfl) (by kernel_rfl)
theorem V6 : Pure Tryd.prog 20 [.nils, .nils] (.tup [.slm 1 (some (.var true)) intC [], .bool (.lit true), .int .i64 (.lit 0)]) := anyV (nilL _ _) (nilL _ _) big_nilI big_nilS (by kernel_rfl) rfl (by kernel_rfl) (by kernel_rfl)
theorem V7 : Pure Tryd.prog 20 [.nils, rawOne] (.tup [.slm 1 (some (.var true)) intC [], .bool (.lit false), .int .i64 (.lit 0)]) := anyV (nilL _ _) one_le big_nilI big_one (by kernel_rfl) rfl (by kernel_rfl) (by kernel_rfl)
theorem V8 : Pure Tryd.prog 12 [rawI, rawBoth, litI [1, 0]] (.tup [.bool (.lit true), .int .i64 (.lit 0)]) := explV rawI_le both_le bigI_ex big_both (by decide) (by kernel_rfl) (by kernel_rfl)
theorem V9 : Pure Tryd.prog 12 [rawI, rawBoth, litI [0, 0]] (.tup [.bool (.lit false), .int .i64 (.lit 0)]) := explV rawI_le both_le bigI_ex big_both (by decide) (by kernel_rfl) (by kernel_rfl)
theorem F1 : Pure Tryd.prog 22 [.slm 1 (some (.var false)) intC [4, 9], litI [4, 9]] (.bool (.lit true)) := sameV _ _ _ (by decide) (by decide)
theorem F2 : Pure Tryd.prog 22 [.slm 1 (some (.var false)) intC [9], litI [9]] (.bool (.lit true)) := sameV _ _ _ (by decide) (by decide)
theorem F3 : Pure Tryd.prog 22 [.slm 1 (some (.var false)) intC [1, 2], litI [1, 2]] (.bool (.lit true)) := sameV _ _ _ (by decide) (by decide)
theorem F4 (g r : Int) {res : Bool} (h : fitsB (issX (0, 4, [4, 7])) (seenN g r) = res) : Pure Tryd.prog 16 [.agg (litX (0, 4, [4, 7])), .agg (litN g r)] (.bool (.lit res)) := by
  have h1 := Fits_pure (issX (0, 4, [4, 7])) (seenN g r) (by decide) (by simp [seenN]) (by simp [seenN])
  rw [h] at h1
  refine Pure.resL (Pure.argsL (args' := [.agg (issX (0, 4, [4, 7])).c, .agg (seenN g r).c]) (.cons ?_ (.cons ?_ .nil)) h1) (boolL _)
  · intro w E v hr
    generalize hd : D.agg (litX (0, 4, [4, 7])) = d at hr
    cases hr with
    | agg hs hh =>
      cases hd
      have hg := (litX_le (0, 4, [4, 7])).get
      refine .agg hs fun i d v h1 h2 => ?_
      have hlt := (List.getElem?_eq_some_iff.1 h1).1
      have h3 : (litX (0, 4, [4, 7]))[i]? = some ((litX (0, 4, [4, 7]))[i]'(by omega)) := List.getElem?_eq_getElem (by omega)
      exact hg.2 i _ _ h3 h1 _ _ _ (hh i _ v h3 h2)
    | _ => cases hd
  · intro w E v hr
    generalize hd : D.agg (litN g r) = d at hr
    cases hr with
    | agg hs hh =>
      cases hd
      have hg := (litN_le g r).get
      refine .agg hs fun i d v h1 h2 => ?_
      have hlt := (List.getElem?_eq_some_iff.1 h1).1
      have h3 : (litN g r)[i]? = some ((litN g r)[i]'(by omega)) := List.getElem?_eq_getElem (by omega)
      exact hg.2 i _ _ h3 h1 _ _ _ (hh i _ v h3 h2)
    | _ => cases hd
end Go.Proofs.YtffmgfehaahlhaaDoor
namespace Go.Proofs.YtffmgfehaahlhaaDoor
open Go.RowKit

/-! The examples of the chapter answer as they should. -/
def zeroX : IssuedD := ⟨0, 0, true, []⟩
abbrev zeroL : List D := [.int .i64 (.lit 0), .int .i64 (.lit 0), .nils]
theorem zero_snd {H H' : List Bk} {b : Nat} {nb : BE} {m : Nat} {len : IE} {r : RE} (hg : goneB H' b = true) (hb : H[b]? = some (.row 26 3 1 r)) (hr : r.den = List.replicate m zeroL) (hl : len.den = (m : Int)) (hn : nb.den = false) : SnD H H' (.osl 3 b 1 nb (.lit 0) len) (.slm 3 none IssuedD.c (List.replicate m zeroX)) := by
  refine .trans (.trans (.sll hg (.inl ⟨_, _, hb, hr⟩) rfl (by rw [hl]; simp) hn) (.slls (es' := (List.replicate m zeroX).map IssuedD.c) (by simp) (fun i e e' h1 h2 => ?_) fun i e e' h1 h2 j d d' h3 h4 => ?_)) (.sll rfl (fun e h => by cases h))
  · simp only [List.map_replicate, List.getElem?_replicate] at h1 h2
    split at h1 <;> simp_all
    subst h1; subst h2; rfl
  · simp only [List.map_replicate, List.getElem?_replicate] at h1 h2
    split at h1
    · next q =>
      rw [if_pos q] at h2
      cases h1; cases h2
      match j, h3, h4 with
      | 0, h3, h4 => cases h3; cases h4; exact .int rfl
      | 1, h3, h4 => cases h3; cases h4; exact .int rfl
      | 2, h3, h4 => cases h3; cases h4; exact .nilv rfl rfl
    · cases h1
theorem checkV (m : Nat) (hm : m ≤ 100) {x : Int} (h : (if checkB (List.replicate m zeroX) [] then 0 else 300) = x) : Pure Tryd.prog 14 [.slm 3 none IssuedD.c (List.replicate m zeroX), .nils] (.int .i64 (.lit x)) := by
  have h1 := Check_pure (List.replicate m zeroX) [] none none ⟨by simp; omega, fun x hx => by rw [(List.mem_replicate.1 hx).2]; decide⟩ big_nilS
  rw [h] at h1
  exact Pure.resL (Pure.argsL (.cons (DLe.refl _) (.cons (nilL _ _) .nil)) h1) (intL _)
theorem C1 : Pure Tryd.prog 14 [.slm 3 none IssuedD.c (List.replicate 65 zeroX), .nils] (.int .i64 (.lit 300)) := checkV 65 (by decide) (by kernel_rfl)
theorem C2 : Pure Tryd.prog 14 [.slm 3 none IssuedD.c (List.replicate 64 zeroX), .nils] (.int .i64 (.lit 0)) := checkV 64 (by decide) (by kernel_rfl)
set_option maxRecDepth 100000 in
set_option maxHeartbeats 4000000 in
theorem sane_pure : Pure Tryd.prog 10 [] (boolD true) := by
  have e : (boolD true : D) = retD [boolD true] := rfl
  rw [e]
  have v1 := V1
  have v2 := V2
  have v3 := V3
  have v4 := V4
  have v5 := V5
  have v6 := V6
  have v7 := V7
  have v8 := V8
  have v9 := V9
  have f1 := F1
  have f2 := F2
  have f3 := F3
  have f4 := F4 0 0 (res := true) (by kernel_rfl)
  have f5 := F4 0 1 (res := false) (by kernel_rfl)
  have c1 := C1
  have c2 := C2
  refine Pure.introC T_ok Tryd.func10 rfl (by kernel_rfl) (rs := [.tmp 0]) rfl (by kernel_rfl) ?_
  generalize hP : Tryd.prog = P at *
  have hT : T.ok P := hP ▸ T_ok
  have hm : P.follows .mixedOrders = true := hP ▸ follows
  unfold Tryd.f10
  dsimp only
  refine CodeP.seq (vc_sound hT hm _ ?_)
  cbv
  refine CodeP.seq (vc_sound hT hm _ ?_)
  cbv
  refine CodeP.seq (vc_sound hT hm _ ?_)
  cbv
  refine CodeP.seq (vc_sound hT hm _ ?_)
  cbv
  refine CodeP.seq (vc_sound hT hm _ ?_)
  cbv
  refine CodeP.keep [0, 1, 2, 3, 4] ?_
  refine CodeP.seq (vc_sound hT hm _ ?_)
  cbv
  refine CallP.pure _ v1 rfl ?_
  cbv
  refine CodeP.keep [0, 1, 2, 3, 4, 5, 6] ?_
  refine CodeP.seq (vc_sound hT hm _ ?_)
  cbv
  refine CallP.pure _ v2 rfl ?_
  cbv
  refine CodeP.keep [0, 1, 2, 3, 4, 5, 6, 7, 8] ?_
  refine CodeP.seq (vc_sound hT hm _ ?_)
  cbv
  refine CallP.pure _ v3 rfl ?_
  cbv
  refine CodeP.keep [0, 1, 2, 3, 4, 5, 6, 7, 8, 9, 10] ?_
  refine CodeP.seq (vc_sound hT hm _ ?_)
  cbv
  refine CallP.pure _ v4 rfl ?_
  cbv
  refine CodeP.keep [0, 1, 2, 3, 4, 5, 6, 7, 8, 9, 10, 11, 12] ?_
  refine CodeP.seq (vc_sound hT hm _ ?_)
  cbv
  refine CallP.pure _ v5 rfl ?_
  cbv
  refine CodeP.keep [0, 1, 2, 3, 4, 5, 6, 7, 8, 9, 10, 11, 12, 13, 14, 15] ?_
  refine CodeP.seq (vc_sound hT hm _ ?_)
  cbv
  refine CallP.pure _ v6 rfl ?_
  cbv
  refine CodeP.keep [0, 1, 2, 3, 4, 5, 6, 7, 8, 9, 10, 11, 12, 13, 14, 15, 16, 17, 18] ?_
  refine CodeP.seq (vc_sound hT hm _ ?_)
  cbv
  refine CallP.pure _ v7 rfl ?_
  cbv
  refine CodeP.keep [0, 1, 2, 3, 4, 5, 6, 7, 8, 9, 10, 11, 12, 13, 14, 15, 16, 17, 18, 19, 20, 21] ?_
  refine CodeP.seq (vc_sound hT hm _ ?_)
  cbv
  refine CallP.pure _ v8 rfl ?_
  cbv
  refine CodeP.keep [0, 1, 2, 3, 4, 5, 6, 7, 8, 9, 10, 11, 12, 13, 14, 15, 16, 17, 18, 19, 20, 21, 22, 23] ?_
  refine CodeP.seq (vc_sound hT hm _ ?_)
  cbv
  refine CallP.pure _ v9 rfl ?_
  cbv
  refine CodeP.keep [0, 1, 2, 3, 4, 5, 6, 7, 8, 9, 10, 11, 12, 13, 14, 15, 16, 17, 18, 19, 20, 21, 22, 23, 24, 25] ?_
  refine CodeP.seq (vc_sound hT hm _ ?_)
  cbv
  refine CodeP.keep [0, 1, 5, 7, 9, 13, 14, 16, 17, 20, 22, 24] ?_
  refine vc_sound hT hm _ ?_
  cbv
  refine CallP.pure _ f1 rfl ?_
  cbv
  refine CallP.pure _ f1 rfl ?_
  cbv
  refine CallP.pure _ f2 rfl ?_
  cbv
  refine OpsP.go hT ?_
  cbv
  refine CallP.pure _ f3 rfl ?_
  cbv
  refine SplitP.mk (fun hs => ?_) (fun hs => ?_)
  rotate_left
  · exfalso
    have h3 : ((([] : List Int).length : Int) == 0) = false := hs
    cases h3
  clear hs
  refine OpsP.keep [0, 1, 20, 22, 24, 158, 159, 160, 161, 162, 163, 164, 165, 166, 167, 168, 169] ?_
  refine OpsP.go hT ?_
  cbv
  refine CallP.pure _ f4 rfl ?_
  cbv
  refine OpsP.go hT ?_
  cbv
  refine CallP.pure _ f5 rfl ?_
  cbv
  refine CallP.lend _ _ c1 (.cons (zero_snd (m := 65) rfl rfl rfl rfl rfl) (.cons (.eq (.refl _)) .nil)) rfl rfl ?_
  cbv
  refine CallP.lend _ _ c2 (.cons (zero_snd (m := 64) rfl rfl rfl rfl rfl) (.cons (.eq (.refl _)) .nil)) rfl rfl ?_
  cbv
  refine .mk (.cons (.eq (.bool rfl)) .nil) rfl
end Go.Proofs.YtffmgfehaahlhaaDoor
namespace Go.Proofs.YtffmgfehaahlhaaDoor
open Go.ChangeShapes Go.WideShapes Go.ChangeAt Go.RowKit

/-! From the form's reading of the arguments to data. -/
def allE (w : World) : Env := Env.of fun b => b < w.heap.size
/-- every reading of type t by the form gives data -/
def OpD (P : Program) (t : TypeId) {α : Type} (c : α → List D) (ok : α → Prop) : Prop :=
  ∀ {H : Type} (enc : TypeId × Value → H) (w : World) (spare : Nat → Bool) (held : Bool) (fuel : Nat) (cs : List Value) (x : DataW H × List MemPlace),
    DataW.trod enc P w 0 spare held fuel t cs = some x → ∃ a, ok a ∧ cs.length = (c a).length ∧ ∀ (i : Nat) d v, (c a)[i]? = some d → cs[i]? = some v → DRep w (allE w) d v
theorem InR.of_wf {k : IntKind} {z : Int} (h : (Lit.int k z).wf = true) : InR k z := by
  simpa [Lit.wf, InR] using h
theorem opd_int {P : Program} {t : TypeId} (ht : P.underlying t = some (.int .i64)) : OpD P t (fun x : Int => [.int .i64 (.var x)]) (fun _ => True) := fun enc w spare held fuel cs x h => by
  obtain ⟨z, rfl, _, h2⟩ := DataW.trod_int ht h
  refine ⟨z, trivial, rfl, fun i d v hd hv => ?_⟩
  match i, hd, hv with
  | 0, hd, hv => cases hd; cases hv; exact .int (e := .var z) (InR.of_wf h2)
theorem opd_u8 {P : Program} {t : TypeId} (ht : P.underlying t = some (.int .u8)) : OpD P t (fun b : BitVec 8 => [.int .u8 (.u8 b)]) (fun _ => True) := fun enc w spare held fuel cs x h => by
  obtain ⟨z, rfl, _, h2⟩ := DataW.trod_int ht h
  have hz := InR.of_wf h2
  have hz2 : 0 ≤ z ∧ z ≤ 255 := by unfold InR IntKind.min IntKind.max at hz; simpa [IntKind.signed, IntKind.bits] using hz
  have e : (IE.u8 (BitVec.ofInt 8 z)).den = z := by
    simp only [IE.den, BitVec.toNat_ofInt]
    omega
  refine ⟨BitVec.ofInt 8 z, trivial, rfl, fun i d v hd hv => ?_⟩
  match i, hd, hv with
  | 0, hd, hv =>
    cases hd; cases hv
    have := DRep.int (w := w) (E := allE w) (k := .u8) (e := .u8 (BitVec.ofInt 8 z)) (by rw [e]; exact hz)
    rwa [e] at this
theorem opd_bool {P : Program} {t : TypeId} (ht : P.underlying t = some .bool) : OpD P t (fun b : Bool => [.bool (.var b)]) (fun _ => True) := fun enc w spare held fuel cs x h => by
  obtain ⟨z, rfl, _⟩ := DataW.trod_bool ht h
  refine ⟨z, trivial, rfl, fun i d v hd hv => ?_⟩
  match i, hd, hv with
  | 0, hd, hv => cases hd; cases hv; exact .bool (e := .var z)
abbrev slC {α : Type} (n : Nat) (c : α → List D) (p : Bool × List α) : List D := [.slm n (some (.var p.1)) c p.2]
theorem opd_slice {α : Type} {P : Program} {t e : TypeId} {n : Nat} {c : α → List D} {ok : α → Prop} (ht : P.underlying t = some (.slice e)) (hn : P.cellsOf e = n) (hpos : 0 < n) (hR : OpD P e c ok) (hc : ∀ a, (c a).length = n) :
    OpD P t (slC n c) (fun p => (p.1 = true → p.2 = []) ∧ (∀ x ∈ p.2, ok x) ∧ p.2.length ≤ maxLen) := fun enc w spare held fuel cs x h => by
  rcases Go.Deep.open_slice ht h with ⟨rfl, _⟩ | ⟨a, len, cap, m, k, D, Pl, rfl, _, hl, hm, hmm, _, hx⟩
  · refine ⟨(true, []), ⟨fun _ => rfl, fun x h => by simp at h, by simp⟩, rfl, fun i d v hd hv => ?_⟩
    match i, hd, hv with
    | 0, hd, hv =>
      cases hd; cases hv
      exact DRep.slm (a := none) (fun _ _ => undef) (fun e he => by cases he; rfl) (Nat.le_refl _) (Nat.zero_le _) (fun x hx => by simp at hx) (fun h => absurd rfl h) (fun i x j d h => by simp at h)
  · have hlm : len ≤ m := by rw [hmm]; split <;> omega
    have e0 : ∀ i, i < m → ∃ z : α, ∃ es, (ok z ∧ es.length = (c z).length ∧ ∀ (i : Nat) d v, (c z)[i]? = some d → es[i]? = some v → DRep w (allE w) d v) ∧ w.cells? 0 (a.add (i * n)) n = some es := fun i hi => by
      obtain ⟨es, h2, h3⟩ := hx i hi
      rw [hn] at h2
      obtain ⟨z, hz⟩ := hR enc w spare held k es _ h3
      exact ⟨z, es, hz, h2⟩
    by_cases h0 : len = 0
    · subst h0
      refine ⟨(false, []), ⟨fun h => by simp at h, fun x h => by simp at h, by simp⟩, rfl, fun i d v hd hv => ?_⟩
      match i, hd, hv with
      | 0, hd, hv =>
        cases hd; cases hv
        exact DRep.slm (a := some a) (fun _ _ => undef) (fun e he => by cases he; rfl) (Nat.zero_le _) hm (fun x hx => by simp at hx) (fun h => absurd rfl h) (fun i x j d h => by simp at h)
    · obtain ⟨z0, _⟩ := e0 0 (by omega)
      have : Inhabited α := ⟨z0⟩
      obtain ⟨z, hz⟩ := Go.Deep.choose_lt e0
      obtain ⟨b, off, spot⟩ := a
      have hspot : spot = none := by
        obtain ⟨es0, _, hc0⟩ := hz 0 (by omega)
        obtain ⟨_, hlen0, hcell0⟩ := World.cells?_some hc0
        have this := hcell0 0 hpos
        rw [List.getElem?_eq_getElem (by omega)] at this
        have h9 := World.cell?_spot this
        simpa [Addr.add] using h9
      subst hspot
      have cell : ∀ i, i < len → ∃ es : List Value, (∀ j, j < n → w.cell? ⟨b, off + i * n + j, none⟩ = es[j]?) ∧ es.length = n ∧ (ok (z i) ∧ es.length = (c (z i)).length ∧ ∀ (j : Nat) d v, (c (z i))[j]? = some d → es[j]? = some v → DRep w (allE w) d v) := fun i hi => by
        obtain ⟨es, hr, hcc⟩ := hz i (by omega)
        obtain ⟨_, hlen, hcell⟩ := World.cells?_some hcc
        refine ⟨es, fun j hj => ?_, hlen, hr⟩
        have := hcell j hj
        rw [add_none, add_none] at this
        exact this
      have hbl : b < w.heap.size := by
        obtain ⟨es, h1, h2, _⟩ := cell 0 (by omega)
        have := h1 0 hpos
        rw [List.getElem?_eq_getElem (by omega)] at this
        exact World.block_lt_of_cell? w ⟨b, _, none⟩ this
      refine ⟨(false, (List.range len).map z), ⟨fun h => by simp at h, fun x hx => ?_, by simp; omega⟩, rfl, fun i d v hd hv => ?_⟩
      · simp only [List.mem_map, List.mem_range] at hx
        obtain ⟨i, hi, rfl⟩ := hx
        obtain ⟨_, _, _, h3, _⟩ := cell i hi
        exact h3
      · match i, hd, hv with
        | 0, hd, hv =>
          cases hd; cases hv
          have hl2 : ((List.range len).map z).length = len := by simp
          have key := DRep.slm (w := w) (E := allE w) (n := n) (nb := some (.var false)) (c := c) (l := (List.range len).map z) (a := some ⟨b, off, none⟩) (cap := cap) (fun i j => (w.cell? ⟨b, off + i * n + j, none⟩).getD undef) (fun e he => by cases he; rfl) (by omega) hm (fun x hx => hc x) (fun _ => ⟨b, off, rfl, hbl, fun i j hi hj => ?_⟩) fun i x j d hx hd => ?_
          · rwa [hl2] at key
          · obtain ⟨es, h1, h2, _⟩ := cell i (by omega)
            rw [h1 j hj, List.getElem?_eq_getElem (by omega)]
            rfl
          · simp only [List.getElem?_map, Option.map_eq_some_iff] at hx
            obtain ⟨i', hi', rfl⟩ := hx
            obtain ⟨hlt, rfl⟩ := List.getElem?_eq_some_iff.1 hi'
            simp only [List.getElem_range] at hd ⊢
            obtain ⟨es, h1, h2, _, h3, h4⟩ := cell i (by simpa using hlt)
            have hj := (List.getElem?_eq_some_iff.1 hd).1
            rw [h1 j (by omega), List.getElem?_eq_getElem (by omega)]
            exact h4 j d _ hd (List.getElem?_eq_getElem (by omega))
section
variable {H : Type} {enc : TypeId × Value → H} {P : Program} {w : World} {spare : Nat → Bool} {held : Bool} {v : Value} {d : DataW H} {p : List MemPlace} {r : Reach} {b0 : Nat} {t : TypeId} {α : Type}
theorem open_sl {e : TypeId} {n : Nat} {c : α → List D} {ok : Bool × List α → Prop} (ht : P.underlying t = some (.slice e)) (ho : OpD P t (slC n c) ok) (hv : Value.okWide P w r b0 t v) (h : DataW.Trod enc P w 0 spare held t v d p) : ∃ p, ok p ∧ DRep w (allE w) (.slm n (some (.var p.1)) c p.2) v := by
  obtain ⟨a, m, k, rfl⟩ := okWide_slice ht hv
  obtain ⟨fuel, hf⟩ := h
  obtain ⟨p, h1, h2, h3⟩ := ho enc w spare held fuel _ _ hf
  exact ⟨p, h1, h3 0 _ _ rfl rfl⟩
theorem open_st {fs : Array Field} {c : α → List D} {ok : α → Prop} (ht : P.underlying t = some (.struct fs)) (ho : OpD P t c ok) (hv : Value.okWide P w r b0 t v) (h : DataW.Trod enc P w 0 spare held t v d p) : ∃ a, ok a ∧ DRep w (allE w) (.agg (c a)) v := by
  obtain ⟨cs, rfl, _⟩ := okWide_struct ht hv
  obtain ⟨fuel, hf⟩ := h
  obtain ⟨a, h1, h2, h3⟩ := ho enc w spare held fuel cs.toList _ hf
  exact ⟨a, h1, .agg (by rw [← h2]; simp) fun i d v hd hv => h3 i d v hd (by simpa using hv)⟩
theorem open_i (ht : P.underlying t = some (.int .i64)) (hv : Value.okWide P w r b0 t v) (h : DataW.Trod enc P w 0 spare held t v d p) : ∃ z, InR .i64 z ∧ DRep w (allE w) (.int .i64 (.var z)) v := by
  obtain ⟨z, rfl, rfl, rfl, wf⟩ := open_int ht hv h
  exact ⟨z, InR.of_wf wf, .int (e := .var z) (InR.of_wf wf)⟩
end
theorem LRep.nil {w : World} {E : Env} : LRep w E [] #[] := ⟨rfl, fun i d v h => by simp at h⟩
theorem lrep_cons {w : World} {E : Env} {d : D} {l : List D} {v : Value} {vs : List Value} (h : DRep w E d v) (r : LRep w E l ⟨vs⟩) : LRep w E (d :: l) ⟨v :: vs⟩ := by
  refine ⟨by have := r.1; simp at this ⊢; omega, fun i d' v' hd hv => ?_⟩
  cases i with
  | zero => simp at hd hv; subst hd hv; exact h
  | succ i => exact r.2 i d' v' (by simpa using hd) (by simpa using hv)
theorem Pure.law {P : Program} {f : Nat} {args : List D} {w : World} {vs : List Value} (h : Pure P f args (.bool (.var true))) (hL : Laid w (allE w).G) (hr : LRep w (allE w) args ⟨vs⟩) : Calls P f ⟨vs⟩ w fun e w' => e = .returned (.bool true) ∧ Below w.heap.size w w' := by
  refine (h.2 w _ _ hL (fun _ hb => hb) hr).mono ?_
  rintro e w' ⟨v, G', rfl, h2, _, _, _, h6⟩
  cases h6
  exact ⟨rfl, h2⟩
theorem open_u8 {H : Type} {enc : TypeId × Value → H} {P : Program} {w : World} {spare : Nat → Bool} {held : Bool} {v : Value} {d : DataW H} {p : List MemPlace} {r : Reach} {b0 : Nat} {t : TypeId} (ht : P.underlying t = some (.int .u8)) (hv : Value.okWide P w r b0 t v) (h : DataW.Trod enc P w 0 spare held t v d p) : ∃ b : BitVec 8, DRep w (allE w) (.int .u8 (.u8 b)) v := by
  obtain ⟨z, rfl, _, _, _⟩ := open_int ht hv h
  obtain ⟨fuel, hf⟩ := h
  obtain ⟨b, _, _, h3⟩ := opd_u8 ht enc w spare held fuel _ _ hf
  exact ⟨b, h3 0 _ _ rfl rfl⟩
end Go.Proofs.YtffmgfehaahlhaaDoor
namespace Go.Proofs.YtffmgfehaahlhaaDoor
open Go.ChangeShapes Go.WideShapes Go.ChangeAt Go.RowKit

/-! The arguments of the laws, and the laid table. -/
abbrev intsOK (p : Bool × List Int) : Prop := (p.1 = true → p.2 = []) ∧ (∀ x ∈ p.2, True) ∧ p.2.length ≤ maxLen
theorem opd_ints : OpD Tryd.prog 24 (slC 1 intC) intsOK := opd_slice (n := 1) (e := 3) (by kernel_rfl) (by kernel_rfl) (by decide) (opd_int (by kernel_rfl)) (fun _ => rfl)
structure IssuedD.fine (x : IssuedD) : Prop where
  nil : x.nil = true → x.values = []
  len : x.values.length ≤ maxLen
structure SeenD.fine (s : SeenD) : Prop where
  nilf : s.nilf = true → s.fields = []
  lenf : s.fields.length ≤ maxLen
  nilv : s.nilv = true → s.values = []
  lenv : s.values.length ≤ maxLen
set_option maxRecDepth 20000 in
theorem opd_issued : OpD Tryd.prog 26 IssuedD.c IssuedD.fine := fun enc w spare held fuel cs x h => by
  obtain ⟨xs, m, _, _, hl, hlen, hf⟩ := DataW.trod_struct Tryd.underlying26 h
  replace hl : cs.length = 3 := hl.trans (by kernel_rfl)
  replace hlen : xs.length = 3 := hlen
  match cs, hl, hf with
  | [c0, c1, c2], _, hf =>
    have h0 := hf 0 _ rfl
    rw [List.getElem?_eq_getElem (by omega)] at h0
    have h1 := hf 1 _ rfl
    rw [List.getElem?_eq_getElem (by omega)] at h1
    have h2 := hf 2 _ rfl
    rw [List.getElem?_eq_getElem (by omega)] at h2
    obtain ⟨y0, _, _, e0⟩ := opd_int (P := Tryd.prog) (by kernel_rfl) enc w spare held m [c0] _ h0
    obtain ⟨y1, _, _, e1⟩ := opd_int (P := Tryd.prog) (by kernel_rfl) enc w spare held m [c1] _ h1
    obtain ⟨y2, k2, _, e2⟩ := opd_ints enc w spare held m [c2] _ h2
    refine ⟨⟨y0, y1, y2.1, y2.2⟩, ⟨k2.1, k2.2.2⟩, rfl, fun i d v hd hv => ?_⟩
    match i, hd, hv with
    | 0, hd, hv => cases hd; cases hv; exact e0 0 _ _ rfl rfl
    | 1, hd, hv => cases hd; cases hv; exact e1 0 _ _ rfl rfl
    | 2, hd, hv => cases hd; cases hv; exact e2 0 _ _ rfl rfl
set_option maxRecDepth 20000 in
theorem opd_seen : OpD Tryd.prog 28 SeenD.c SeenD.fine := fun enc w spare held fuel cs x h => by
  obtain ⟨xs, m, _, _, hl, hlen, hf⟩ := DataW.trod_struct Tryd.underlying28 h
  replace hl : cs.length = 4 := hl.trans (by kernel_rfl)
  replace hlen : xs.length = 4 := hlen
  match cs, hl, hf with
  | [c0, c1, c2, c3], _, hf =>
    have h0 := hf 0 _ rfl
    rw [List.getElem?_eq_getElem (by omega)] at h0
    have h1 := hf 1 _ rfl
    rw [List.getElem?_eq_getElem (by omega)] at h1
    have h2 := hf 2 _ rfl
    rw [List.getElem?_eq_getElem (by omega)] at h2
    have h3 := hf 3 _ rfl
    rw [List.getElem?_eq_getElem (by omega)] at h3
    obtain ⟨y0, _, _, e0⟩ := opd_int (P := Tryd.prog) (by kernel_rfl) enc w spare held m [c0] _ h0
    obtain ⟨y1, _, _, e1⟩ := opd_int (P := Tryd.prog) (by kernel_rfl) enc w spare held m [c1] _ h1
    obtain ⟨y2, k2, _, e2⟩ := opd_ints enc w spare held m [c2] _ h2
    obtain ⟨y3, k3, _, e3⟩ := opd_ints enc w spare held m [c3] _ h3
    refine ⟨⟨y0, y1, y2.1, y2.2, y3.1, y3.2⟩, ⟨k2.1, k2.2.2, k3.1, k3.2.2⟩, rfl, fun i d v hd hv => ?_⟩
    match i, hd, hv with
    | 0, hd, hv => cases hd; cases hv; exact e0 0 _ _ rfl rfl
    | 1, hd, hv => cases hd; cases hv; exact e1 0 _ _ rfl rfl
    | 2, hd, hv => cases hd; cases hv; exact e2 0 _ _ rfl rfl
    | 3, hd, hv => cases hd; cases hv; exact e3 0 _ _ rfl rfl
theorem opd_issueds : OpD Tryd.prog 22 (slC 3 IssuedD.c) (fun p => (p.1 = true → p.2 = []) ∧ (∀ x ∈ p.2, x.fine) ∧ p.2.length ≤ maxLen) := opd_slice (n := 3) (e := 26) (by kernel_rfl) (by kernel_rfl) (by decide) opd_issued (fun _ => rfl)
theorem opd_seens : OpD Tryd.prog 23 (slC 4 SeenD.c) (fun p => (p.1 = true → p.2 = []) ∧ (∀ x ∈ p.2, x.fine) ∧ p.2.length ≤ maxLen) := opd_slice (n := 4) (e := 28) (by kernel_rfl) (by kernel_rfl) (by decide) opd_seen (fun _ => rfl)
theorem maxLen_eq : maxLen = 9223372036854775807 := by unfold maxLen; rfl
theorem few_big {I : List IssuedD} {S : List SeenD} (h : fewB I S = true) : BigI I ∧ BigS S ∧ I.length ≤ 12 ∧ S.length ≤ 5 := by
  simp only [fewB, Bool.and_eq_true, decide_eq_true_eq, List.all_eq_true] at h
  obtain ⟨h1, h2, h3, h4⟩ := h
  exact ⟨⟨by omega, fun x hx => by have := h1 x hx; omega⟩, ⟨by omega, fun x hx => by have := h2 x hx; omega, fun x hx => by have := h2 x hx; omega⟩, h3, h4⟩
abbrev laidR {H : Type} : List (String × DataW H) := [("math/bits.deBruijn64tab", Rows.laid_math_bits_deBruijn64tab)]
theorem gTab : Tryd.prog.globalNamed "math/bits.deBruijn64tab" = some 0 := by kernel_rfl
theorem tTab : (Tryd.prog.globals[0]?).map (·.type) = some 90 := by kernel_rfl
theorem uTab : Tryd.prog.underlying 90 = some (.array 64 5) := by kernel_rfl
theorem door_met (os : Os) (args : Array Value) : laidMetH Tryd.prog laidR ((World.doorLaid Tryd.prog 400 os).forCall (fun _ _ => 0) ⟨#[], args, []⟩).memory :=
  laidMetH_of_parts3 (fuel := 8) (laidMet_of_run' 8 (by kernel_rfl) (by kernel_rfl)) (by kernel_rfl) (by kernel_rfl)
theorem tab_list {H : Type} : (Rows.laid_math_bits_deBruijn64tab : DataW H) = .agg ((List.range 64).map fun i => .lit (.int .u8 (bruijn i))) := rfl
set_option maxRecDepth 20000 in
/-- what the condition gives: the table lies in block 0 -/
theorem of_laid {W : World} (h : laidMetH Tryd.prog laidR W) : Laid W (allE W).G := by
  rw [MakeChecks.laidMetH_plain _ _ _ (by kernel_rfl)] at h
  obtain ⟨ps, ⟨g0, t0, cs0, f0, p0, q0, hg0, ht0, hv0, hd0, _⟩, _, _⟩ := h
  obtain rfl := Option.some.inj (gTab.symm.trans hg0)
  obtain rfl := Option.some.inj (tTab.symm.trans ht0)
  obtain ⟨xs, m1, rfl, hx1, hlen, hn3, hel⟩ := DataW.trod_array uTab hd0
  have c5 : Tryd.prog.cellsOf 5 = 1 := by kernel_rfl
  replace hlen : cs0.toList.length = 64 := hlen.trans (by kernel_rfl)
  simp only [Prod.mk.injEq] at hx1
  have hx2 := hx1.1
  rw [tab_list] at hx2
  simp only [DataW.agg.injEq] at hx2
  have hcell : ∀ i, i < 64 → cs0[i]? = some (.int .u8 (bruijn i)) ∧ InR .u8 (bruijn i) := fun i hi => by
    have h0 := hel i hi
    rw [List.getElem?_eq_getElem (by omega), c5] at h0
    obtain ⟨k, e1, e2, e3⟩ := DataW.trod_int Tryd.underlying5 h0
    have e4 := congrArg (·[i]?) hx2
    simp only [List.getElem?_map, List.getElem?_range hi, Option.map_some] at e4
    rw [List.getElem?_eq_getElem (by omega)] at e4
    simp only [Option.map_some, Option.some.injEq] at e4
    rw [e2] at e4
    simp only [DataW.lit.injEq, Lit.int.injEq, true_and] at e4
    subst e4
    have e5 := congrArg (·[0]?) e1
    rw [List.getElem?_take, if_pos (by decide), List.getElem?_drop] at e5
    simp at e5
    refine ⟨e5, ?_⟩
    unfold Lit.wf at e3
    simp only [Bool.and_eq_true, decide_eq_true_eq] at e3
    exact e3
  intro p hp
  simp only [laidL, List.mem_singleton] at hp
  subst hp
  have hsz : 0 < W.heap.size := by
    have := World.var?_cell gTab hv0 0
    rw [(hcell 0 (by decide)).1] at this
    refine Nat.lt_of_not_le fun q => ?_
    have hn : W.heap[0]? = none := Array.getElem?_eq_none (by omega)
    unfold World.cell? at this
    rw [hn] at this
    cases this
  refine DRep.dpa (base := 0) hsz fun i hi => ?_
  obtain ⟨q1, q2⟩ := hcell i hi
  refine ⟨?_, q2⟩
  rw [Nat.zero_add, World.var?_cell gTab hv0]
  exact q1
end Go.Proofs.YtffmgfehaahlhaaDoor
namespace Go.Proofs.YtffmgfehaahlhaaDoor
open Go.RowKit

/-! Laws of Of and Any, in plain words. -/
theorem of_mem {I : List IssuedD} {S : List SeenD} {g p : Int} : p ∈ ofR I S g ↔ p ∈ peopleL I ∧ Ext I S g p [] := by
  unfold ofR
  rw [List.mem_filter, ← first_iff S.length [] (by simp) (good_nil _ _ _ _)]
  cases firstR I S g p S.length [] <;> simp
theorem ext_way {I : List IssuedD} {S : List SeenD} {g p : Int} : Ext I S g p [] ↔ ∃ f, Way I S f ∧ ∀ j, j < S.length → 0 ≤ p → groupS S j = g → personI I (f j : Int) = p := by
  rw [ext_iff (Nat.zero_le _)]
  constructor
  · rintro ⟨f, h1, h2, _⟩; exact ⟨f, h1, h2⟩
  · rintro ⟨f, h1, h2⟩; exact ⟨f, h1, h2, fun j hj => by simp at hj⟩
theorem any_way {I : List IssuedD} {S : List SeenD} : (firstR I S 0 (-1) S.length []).isSome = true ↔ ∃ f, Way I S f := by
  rw [first_iff S.length [] (by simp) (good_nil _ _ _ _), ext_way]
  constructor
  · rintro ⟨f, h1, _⟩; exact ⟨f, h1⟩
  · rintro ⟨f, h1⟩; exact ⟨f, h1, fun j _ q => by omega⟩
theorem person_mem {I : List IssuedD} {c : Nat} (hc : c < I.length) : personI I (c : Int) ∈ peopleL I := by
  refine (people_mem _ _).2 ⟨I[c], List.getElem_mem _, ?_⟩
  unfold personI
  rw [Int.toNat_natCast, List.getElem?_eq_getElem hc]
theorem occ_iff {S : List SeenD} {g : Int} : occB g S = true ↔ ∃ j, j < S.length ∧ groupS S j = g := by
  unfold occB
  rw [List.any_eq_true]
  constructor
  · rintro ⟨s, hs, hg⟩
    obtain ⟨j, hj, rfl⟩ := List.getElem_of_mem hs
    refine ⟨j, hj, ?_⟩
    unfold groupS
    rw [List.getElem?_eq_getElem hj]
    simpa using hg
  · rintro ⟨j, hj, hg⟩
    refine ⟨S[j], List.getElem_mem _, ?_⟩
    unfold groupS at hg
    rw [List.getElem?_eq_getElem hj] at hg
    simpa using hg
/-- a person is possible just where some way says so -/
theorem of_way {I : List IssuedD} {S : List SeenD} {g p : Int} (ho : occB g S = true) (hI : ∀ x ∈ I, 0 ≤ x.person) : p ∈ ofR I S g ↔ ∃ f, Way I S f ∧ ∀ j, j < S.length → groupS S j = g → personI I (f j : Int) = p := by
  rw [of_mem, ext_way]
  constructor
  · rintro ⟨hp, f, h1, h2⟩
    obtain ⟨x, hx, rfl⟩ := (people_mem I p).1 hp
    exact ⟨f, h1, fun j hj hg => h2 j hj (hI x hx) hg⟩
  · rintro ⟨f, h1, h2⟩
    obtain ⟨j, hj, hg⟩ := occ_iff.1 ho
    refine ⟨?_, f, h1, fun j hj _ hg => h2 j hj hg⟩
    rw [← h2 j hj hg]
    exact person_mem (opt_iff.1 (h1.opt j hj)).1
theorem of_any {I : List IssuedD} {S : List SeenD} {g : Int} (ho : occB g S = true) (hI : ∀ x ∈ I, 0 ≤ x.person) : decide (0 < (ofR I S g).length) = (firstR I S 0 (-1) S.length []).isSome := by
  rw [Bool.eq_iff_iff, decide_eq_true_eq, any_way]
  constructor
  · intro h
    cases hl : ofR I S g with
    | nil => rw [hl] at h; simp at h
    | cons p l =>
      have hp : p ∈ ofR I S g := by rw [hl]; simp
      obtain ⟨f, h1, _⟩ := (of_way ho hI).1 hp
      exact ⟨f, h1⟩
  · rintro ⟨f, hf⟩
    obtain ⟨j, hj, hg⟩ := occ_iff.1 ho
    have hp : personI I (f j : Int) ∈ ofR I S g := (of_way ho hI).2 ⟨f, hf, fun i hi hgi => hf.grp i j hi hj (by rw [hgi, hg])⟩
    cases hl : ofR I S g with
    | nil => rw [hl] at hp; cases hp
    | cons p l => simp
end Go.Proofs.YtffmgfehaahlhaaDoor
namespace Go.Proofs.YtffmgfehaahlhaaDoor
open Go.RowKit

/-! within: all elements of a list are in another one. -/
def isIn (b : List Int) (n : Int) : Bool := b.any fun m => decide (n = m)
def withinB (a b : List Int) : Bool := a.all (isIn b)
theorem isIn_iff {b : List Int} {n : Int} : isIn b n = true ↔ n ∈ b := by
  unfold isIn
  rw [List.any_eq_true]
  constructor
  · rintro ⟨m, hm, he⟩
    simp only [decide_eq_true_eq] at he
    rw [he]; exact hm
  · intro h; exact ⟨n, h, by simp⟩
theorem withinB_iff {a b : List Int} : withinB a b = true ↔ ∀ n ∈ a, n ∈ b := by
  unfold withinB
  rw [List.all_eq_true]
  exact ⟨fun h n hn => isIn_iff.1 (h n hn), fun h n hn => isIn_iff.2 (h n hn)⟩
set_option maxRecDepth 100000 in
set_option maxHeartbeats 4000000 in
theorem within_pure (a b : List Int) (na nb : Option BE) (ha : a.length < 9223372036854775807) (hb : b.length < 9223372036854775807) : Pure Tryd.prog 26 [.slm 1 na intC a, .slm 1 nb intC b] (boolD (withinB a b)) := by
  obtain ⟨r, hr⟩ : ∃ r, r = withinB a b := ⟨_, rfl⟩
  rw [← hr]
  unfold withinB at hr
  obtain ⟨f, hf⟩ : ∃ f : Int → Bool, f = isIn b := ⟨_, rfl⟩
  rw [← hf] at hr
  obtain ⟨fj, hfj⟩ : ∃ f : Int → Nat → Bool, f = fun n j => (b.take j).any fun m => decide (n = m) := ⟨_, rfl⟩
  have h0 : ∀ n, fj n 0 = false := fun n => by rw [hfj]; simp
  have hs : ∀ n j m, b[j]? = some m → fj n (j + 1) = (fj n j || decide (n = m)) := fun n j m h => by
    rw [hfj]
    simp only
    rw [List.take_add_one, h, List.any_append]
    simp
  have he : ∀ n, fj n b.length = f n := fun n => by rw [hfj, hf]; simp [isIn]
  clear hf hfj
  obtain ⟨nA, hnA⟩ : ∃ n : Nat, n = a.length := ⟨_, rfl⟩
  obtain ⟨nB, hnB⟩ : ∃ n : Nat, n = b.length := ⟨_, rfl⟩
  refine Pure.intro (want := [boolD r]) T_ok follows Tryd.func26 rfl (by kernel_rfl) (rs := [.tmp 4]) rfl (by kernel_rfl) ?_
  generalize hP : Tryd.prog = P at *
  have hT : T.ok P := hP ▸ T_ok
  have hm : P.follows .mixedOrders = true := hP ▸ follows
  unfold Tryd.f26
  dsimp only
  cbv
  refine CodeP.loopc hT hm (X := Nat) (fun k => [(12, .int .i64 (.nat k))]) (fun k => k ≤ nA ∧ r = (a.drop k).all f) (fun k => nA - k) 0 ⟨Nat.zero_le _, hr⟩ (Nat.zero_le _) ?_ rfl ?_
  · (cbv; (repeat' (first | exact SnD.refl _ | exact trivial | exact SnD.nat0 | refine And.intro ?_ ?_)))
  intro k ⟨hk, hq⟩
  cbv
  refine SplitP.mk (fun hs1 => ?_) (fun hs1 => ?_)
  rotate_left
  · have hkn : a.length ≤ k := by
      have h5 : decide ((k : Int) < (a.length : Int)) = false := hs1
      have := of_decide_eq_false h5
      omega
    clear hs1
    refine .mk (.cons (.eq (.bool ?_)) .nil) rfl
    rw [BE.lit_d, BE.var_d]
    rw [hq, List.drop_of_length_le (by omega)]; rfl
  have hkn : k < a.length := by
    have h5 : decide ((k : Int) < (a.length : Int)) = true := hs1
    have := of_decide_eq_true h5
    omega
  clear hs1
  refine ElemP.mk (by show (0 : Int) ≤ (k : Int) ∧ (k : Int) < (a.length : Int); omega) (fun x hx => ?_)
  replace hx : a[k]? = some x := hx
  rw [drop_cons hx, List.all_cons] at hq
  have hsx := hs x
  have h0x := h0 x
  have hex := he x
  obtain ⟨fx, hfx⟩ : ∃ g, g = fj x := ⟨_, rfl⟩
  rw [← hfx] at hsx h0x hex
  cbv
  refine CodeP.loopc hT hm (X := Nat × Bool) (fun y => [(18, .int .i64 (.nat y.1)), (7, .bool (.var y.2))]) (fun y => y.1 ≤ nB ∧ y.2 = fx y.1) (fun y => nB - y.1) (0, false) ⟨Nat.zero_le _, h0x.symm⟩ (Nat.zero_le _) ?_ rfl ?_
  · refine ⟨.nat0, .eq (.bool rfl), ?_⟩
    (cbv; (repeat' (first | exact SnD.refl _ | exact trivial | exact SnD.nat0 | refine And.intro ?_ ?_)))
  intro ⟨j, m⟩ ⟨hj, hm2⟩
  simp only at hj hm2
  cbv
  refine SplitP.mk (fun hs2 => ?_) (fun hs2 => ?_)
  · have hkn : j < b.length := by
      have h5 : decide ((j : Int) < (b.length : Int)) = true := hs2
      have := of_decide_eq_true h5
      omega
    clear hs2
    refine ElemP.mk (by show (0 : Int) ≤ (j : Int) ∧ (j : Int) < (b.length : Int); omega) (fun y hy => ?_)
    replace hy : b[j]? = some y := hy
    have hsy := hsx j y hy
    cbv
    refine SplitP.mk (fun h5 => ?_) (fun h5 => ?_)
    · replace h5 : m = true := h5
      refine BackP.intro (j + 1, true) ⟨by simp only; omega, by simp only; rw [hsy, ← hm2, h5]; rfl⟩ (by show nB - (j + 1) < nB - j; omega) ⟨?_, trivial, rfl⟩
      refine ⟨.inc (by omega), .eq (.bool ?_), ?_⟩
      · rfl
      · (cbv; (repeat' (first | exact SnD.refl _ | exact trivial | exact SnD.nat0 | refine And.intro ?_ ?_)))
    · replace h5 : m = false := h5
      refine BackP.intro (j + 1, decide (x = y)) ⟨by simp only; omega, by simp only; rw [hsy, ← hm2, h5]; rfl⟩ (by show nB - (j + 1) < nB - j; omega) ⟨?_, trivial, rfl⟩
      refine ⟨.inc (by omega), .eq (.bool ?_), ?_⟩
      · show (x == y) = decide (x = y)
        rw [Bool.eq_iff_iff]; simp
      · (cbv; (repeat' (first | exact SnD.refl _ | exact trivial | exact SnD.nat0 | refine And.intro ?_ ?_)))
  · have hkn : b.length ≤ j := by
      have h5 : decide ((j : Int) < (b.length : Int)) = false := hs2
      have := of_decide_eq_false h5
      omega
    clear hs2
    have hmf : m = f x := by rw [hm2, ← hex]; congr 1; omega
    refine SplitP.mk (fun h5 => ?_) (fun h5 => ?_)
    · replace h5 : m = false := by simpa using (show (!m) = true from h5)
      refine .mk (.cons (.eq (.bool ?_)) .nil) rfl
      rw [BE.lit_d, BE.var_d]
      rw [hq, ← hmf, h5]; rfl
    · replace h5 : m = true := by simpa using (show (!m) = false from h5)
      refine BackP.intro (k + 1) ⟨by omega, by rw [hq, ← hmf, h5]; rfl⟩ (by show nA - (k + 1) < nA - k; omega) ⟨?_, trivial, rfl⟩
      (cbv; (repeat' (first | exact SnD.refl _ | exact trivial | exact SnD.nat0 | refine And.intro ?_ ?_)))
      exact .inc (by omega)
end Go.Proofs.YtffmgfehaahlhaaDoor
namespace Go.Proofs.YtffmgfehaahlhaaDoor
open Go.RowKit

/-! More copies, more sights. -/
theorem opt_more {I : List IssuedD} {S : List SeenD} {x : IssuedD} {j c : Nat} (h : optO I S j c = true) : optO (I ++ [x]) S j c = true := by
  unfold optO at h ⊢
  cases hx : I[c]? with
  | none => rw [hx] at h; cases h
  | some y =>
    rw [hx] at h
    rw [List.getElem?_append_left (List.getElem?_eq_some_iff.1 hx).1, hx]
    exact h
theorem person_more {I : List IssuedD} {x : IssuedD} {c : Nat} (hc : c < I.length) : personI (I ++ [x]) (c : Int) = personI I (c : Int) := by
  unfold personI
  rw [Int.toNat_natCast, List.getElem?_append_left hc]
theorem group_more {S : List SeenD} {s : SeenD} {j : Nat} (hj : j < S.length) : groupS (S ++ [s]) j = groupS S j := by
  unfold groupS
  rw [List.getElem?_append_left hj]
theorem opt_less {I : List IssuedD} {S : List SeenD} {s : SeenD} {j c : Nat} (hj : j < S.length) : optO I (S ++ [s]) j c = optO I S j c := by
  unfold optO
  rw [List.getElem?_append_left hj]
theorem Way.more {I : List IssuedD} {S : List SeenD} {x : IssuedD} {f : Nat → Nat} (h : Way I S f) : Way (I ++ [x]) S f := by
  refine ⟨fun j hj => opt_more (h.opt j hj), h.inj, fun a b ha hb hg => ?_⟩
  rw [person_more (opt_iff.1 (h.opt a ha)).1, person_more (opt_iff.1 (h.opt b hb)).1]
  exact h.grp a b ha hb hg
theorem Way.less {I : List IssuedD} {S : List SeenD} {s : SeenD} {f : Nat → Nat} (h : Way I (S ++ [s]) f) : Way I S f := by
  have hl : ∀ j, j < S.length → j < (S ++ [s]).length := fun j hj => by simp; omega
  refine ⟨fun j hj => ?_, fun a b ha hb => h.inj a b (hl a ha) (hl b hb), fun a b ha hb hg => h.grp a b (hl a ha) (hl b hb) (by rw [group_more ha, group_more hb]; exact hg)⟩
  rw [← opt_less (s := s) hj]
  exact h.opt j (hl j hj)
theorem iss_person {I : List IssuedD} {S : List SeenD} (h : checkB I S = true) : ∀ x ∈ I, 0 ≤ x.person := fun x hx => (check_issued h hx).1
theorem of_more {I : List IssuedD} {S : List SeenD} {x : IssuedD} {g : Int} (h : okOf I S g = true) (h2 : okOf (I ++ [x]) S g = true) : withinB (ofA I S g) (ofA (I ++ [x]) S g) = true := by
  unfold ofA
  rw [h, h2, if_pos rfl, if_pos rfl, withinB_iff]
  unfold okOf at h h2
  simp only [Bool.and_eq_true] at h h2
  intro p hp
  obtain ⟨f, h3, h4⟩ := (of_way h.2 (iss_person h.1)).1 hp
  refine (of_way h2.2 (iss_person h2.1)).2 ⟨f, h3.more, fun j hj hg => ?_⟩
  rw [person_more (opt_iff.1 (h3.opt j hj)).1]
  exact h4 j hj hg
theorem of_less {I : List IssuedD} {S : List SeenD} {s : SeenD} {g : Int} (h : okOf I S g = true) (h2 : okOf I (S ++ [s]) g = true) : withinB (ofA I (S ++ [s]) g) (ofA I S g) = true := by
  unfold ofA
  rw [h, h2, if_pos rfl, if_pos rfl, withinB_iff]
  unfold okOf at h h2
  simp only [Bool.and_eq_true] at h h2
  intro p hp
  obtain ⟨f, h3, h4⟩ := (of_way h2.2 (iss_person h2.1)).1 hp
  exact (of_way h.2 (iss_person h.1)).2 ⟨f, h3.less, fun j hj hg => h4 j (by simp; omega) (by rw [group_more hj]; exact hg)⟩
theorem check_more {I : List IssuedD} {S : List SeenD} {x : IssuedD} (h : checkB I S = true) (hl : I.length ≤ 12) : checkB (I ++ [x]) S = issB x := by
  unfold checkB at h ⊢
  simp only [Bool.and_eq_true, decide_eq_true_eq] at h
  rw [List.all_append, h.2.1, h.2.2, decide_eq_true (by simp; omega)]
  simp
theorem check_less {I : List IssuedD} {S : List SeenD} {s : SeenD} (h : checkB I S = true) (hl : S.length ≤ 5) : checkB I (S ++ [s]) = seenB s := by
  unfold checkB at h ⊢
  simp only [Bool.and_eq_true, decide_eq_true_eq] at h
  rw [List.all_append, h.2.1, h.2.2, decide_eq_true (by simp; omega)]
  simp
theorem ok_more {I : List IssuedD} {S : List SeenD} {x : IssuedD} {g : Int} (h : okOf I S g = true) (hl : I.length ≤ 12) : okOf (I ++ [x]) S g = issB x := by
  unfold okOf at h ⊢
  simp only [Bool.and_eq_true] at h
  rw [check_more h.1 hl, h.2, Bool.and_true]
theorem ok_less {I : List IssuedD} {S : List SeenD} {s : SeenD} {g : Int} (h : okOf I S g = true) (hl : S.length ≤ 5) : okOf I (S ++ [s]) g = seenB s := by
  unfold okOf at h ⊢
  simp only [Bool.and_eq_true] at h
  have : occB g (S ++ [s]) = true := by
    unfold occB at h ⊢
    rw [List.any_append, h.2]
    rfl
  rw [check_less h.1 hl, this, Bool.and_true]
end Go.Proofs.YtffmgfehaahlhaaDoor
namespace Go.Proofs.YtffmgfehaahlhaaDoor
open Go.ChangeShapes Go.WideShapes Go.ChangeAt Go.RowKit

/-! How great an argument can be. -/
theorem open_slz {H : Type} {enc : TypeId × Value → H} {P : Program} {w : World} {spare : Nat → Bool} {held : Bool} {v : Value} {d : DataW H} {pl : List MemPlace} {r : Reach} {b0 : Nat} {t : TypeId} {α : Type} {e : TypeId} {n : Nat} {c : α → List D} {ok : Bool × List α → Prop} (ht : P.underlying t = some (.slice e)) (ho : OpD P t (slC n c) ok) (hv : Value.okWide P w r b0 t v) (h : DataW.Trod enc P w 0 spare held t v d pl) :
    ∃ p : Bool × List α, ok p ∧ DRep w (allE w) (.slm n (some (.var p.1)) c p.2) v ∧ ∀ (ts : List TypeId) (ds : List (DataW H)) (j : Nat), (DataW.weightsEach P ts ds).all (· ≤ reachBytes) = true → ts[j]? = some t → ds[j]? = some d → p.2.length * P.bytesOf e ≤ reachBytes := by
  obtain ⟨a, m, k, rfl⟩ := okWide_slice ht hv
  obtain ⟨fuel, hf⟩ := h
  obtain ⟨p, h1, h2, h3⟩ := ho enc w spare held fuel _ _ hf
  have hr : DRep w (allE w) (.slm n (some (.var p.1)) c p.2) (.slice a m k) := h3 0 _ _ rfl rfl
  refine ⟨p, h1, hr, fun ts ds j hs hj hd => ?_⟩
  have hm : p.2.length = m := by
    generalize hdd : D.slm n (some (.var p.1)) c p.2 = dd at hr
    generalize hvv : Value.slice a m k = vv at hr
    cases hr with
    | slm => cases hdd; cases hvv; rfl
    | _ => cases hdd
  rcases Go.Deep.open_slice ht hf with ⟨hc, _⟩ | ⟨a', len, cap, m', k', D, Pl, hc, _, hl, _, hmm, hx, _⟩
  · have h0 : m = 0 := by cases hc; rfl
    rw [hm, h0]
    simp
  · have hml : m = len := by cases hc; rfl
    have hd2 : d = .slice ((List.range len).map D) ((List.range (m' - len)).map fun j => D (len + j)) := by
      have := congrArg Prod.fst hx
      exact this
    rw [hd2] at hd
    have := sized_slice hs hj hd ht
    simp only [List.length_map, List.length_range] at this
    rw [hm, hml]
    exact Nat.le_trans (Nat.mul_le_mul_right _ (by omega)) this
end Go.Proofs.YtffmgfehaahlhaaDoor
