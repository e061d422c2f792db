/- Part 2 of the walks and laws that these claims rest on. No condition. -/
import Derived.MapKept
import Derived.Laws.BytesArg
import Derived.Laws.StructEq
import Derived.Test.YtdhfakajlnidiaaGreatPart1
set_option linter.all false
set_option linter.unusedSimpArgs false
set_option linter.unusedVariables false
set_option linter.unnecessarySimpa false
namespace Go.Proofs.YtdhfakajlnidiaaGreat
open Go.RowKit

/-! The operations one by one: places. -/
def qFieldAddr (T : Tab) (H : List Bk) (t f : Nat) (x : D) : QR := match T.get t with
  | some ⟨.struct fs, _, _, _⟩ => (match fs[f]? with
    | some (fo, sz, _) => if sz = 0 then .stuck else (match x with
      | .ptr b ver off => if Bk.at H b ver then .ret (.ptr b ver (off + fo)) else .stuck
      | .rp n b ver i off => if Bk.at H b ver then .ret (.rp n b ver i (off + fo)) else .stuck
      | .dp cells off => .ret (.dp cells (off + fo))
      | _ => .stuck)
    | none => .stuck)
  | _ => .stuck
def partV (sz : Nat) (ag : Bool) (l : List D) (off : Nat) : QR :=
  if ag then (if off + sz ≤ l.length then .ret (.agg ((l.drop off).take sz)) else .stuck) else (match l[off]? with | some d => .ret d | none => .stuck)
def qField (T : Tab) (t f : Nat) (x : D) : QR := match T.get t, x with
  | some ⟨.struct fs, _, _, _⟩, .agg l => (match fs[f]? with
    | some (fo, sz, ag) => partV sz ag l fo
    | none => .stuck)
  | _, _ => .stuck
def IE.lit? : IE → Option Int
  | .lit k => some k
  | _ => none
theorem IE.lit?_den {e : IE} {k : Int} (h : e.lit? = some k) : e.den = k := by
  unfold IE.lit? at h
  split at h
  · cases h; rfl
  · cases h
def litLt (a b : IE) : Bool := match a, b with
  | .lit x, .lit y => decide (0 ≤ x) && decide (x < y)
  | _, _ => false
theorem litLt_spec {a b : IE} (h : litLt a b = true) : 0 ≤ a.den ∧ a.den < b.den := by
  unfold litLt at h
  split at h
  · simpa [IE.den] using h
  · cases h
def idxRow (H : List Bk) (sz n b ver : Nat) (ie : IE) : QR := match H[b]? with
  | some (.row _ m ver' _) => if m = sz && ver' = ver then .reqQ (litLt ie (.lit n)) (fun _ => 0 ≤ ie.den ∧ ie.den < n) (.ret (.rp m b ver ie 0)) else .stuck
  | _ => .stuck
def rowAt (H : List Bk) (b off : Nat) : Bool := match H[b]?, off with
  | some (.row ..), 0 => true
  | _, _ => false
theorem rowAt_off {H : List Bk} {b off : Nat} (h : rowAt H b off = true) : off = 0 := by
  unfold rowAt at h
  split at h
  · rfl
  · cases h
def qIndexAddr (T : Tab) (H : List Bk) (t : Nat) (x i : D) : QR := match i with
  | .int _ ie => (match T.get t with
    | some ⟨.slice e, _, _, _⟩ => (match T.get e with
      | some te => (match x with
        | .slm n _ c l => if n = te.size then .elem c l ie (fun cs => .dp cs 0) else .stuck
        | .sll n es => if n = te.size then (match ie with
          | .lit k => if 0 ≤ k then (match es[k.toNat]? with | some cs => .ret (.dp cs 0) | none => .stuck) else .stuck
          | _ => .elemL es ie (fun cs => .dp cs 0)) else .stuck
        | .osl n b ver _ lo len => if n = te.size && Bk.at H b ver then .reqQ (litLt ie len) (fun _ => 0 ≤ ie.den ∧ ie.den < len.den) (.ret (.rp n b ver (IE.mkSum lo ie) 0)) else .stuck
        | _ => .stuck)
      | none => .stuck)
    | some ⟨.arr n e, _, _, _⟩ => (match T.get e with
      | some te => (match x with
        | .ptr b ver off => if rowAt H b off then idxRow H te.size n b ver ie else (match ie.lit? with
          | some k => if Bk.at H b ver && decide (0 ≤ k) && decide (k < n) then .ret (.ptr b ver (off + k.toNat * te.size)) else .stuck
          | none => .stuck)
        | .dp cells off => (match ie.lit? with
          | some k => if decide (0 ≤ k) && decide (k < n) then .ret (.dp cells (off + k.toNat * te.size)) else .stuck
          | none => .stuck)
        | _ => .stuck)
      | none => .stuck)
    | _ => .stuck)
  | _ => .stuck
def qIndex (T : Tab) (t : Nat) (x i : D) : QR := match T.get t, x, i with
  | some ⟨.arr n e, _, _, _⟩, .agg l, .int _ (.lit k) => (match T.get e with
    | some te => if decide (0 ≤ k) && decide (k < n) then partV te.size te.kind.agg l (k.toNat * te.size) else .stuck
    | none => .stuck)
  | _, _, _ => .stuck
def qExtract (x : D) (i : Nat) : QR := match x with
  | .tup l => (match l[i]? with | some d => .ret d | none => .stuck)
  | _ => .stuck
def qUn (op : UnOp) (x : D) : QR := match op, x with
  | .not, .bool b => .ret (.bool b.mkNot)
  | .neg, .int k e => .ret (.int k (IE.mk2 .sub k (.lit 0) e))
  | .xor, .int k e => .ret (.int k (IE.mk2 .xor k (.lit (if k.signed then -1 else k.max)) e))
  | _, _ => .stuck
def qConv (T : Tab) (s t : Nat) (x : D) : QR := match T.get s, T.get t, x with
  | some _, some ⟨.int k, _, _, _⟩, .int _ e => .ret (.int k (IE.mkConv k e))
  | some ⟨.str, _, _, _⟩, some ⟨.str, _, _, _⟩, .str s => .ret (.str s)
  | _, _, _ => .stuck
def lenD (x : D) : Option IE := match x with
  | .slm _ _ _ l => some (.len l)
  | .sll _ es => some (.lit es.length)
  | .osl _ _ _ _ _ len => some len
  | .nils => some (.lit 0)
  | _ => none
def ME.sizeE : ME → IE
  | .lits es => .lit es.length
  | .setb _ n => n
  | .fi _ _ n => n
theorem ME.sizeE_den (m : ME) : m.sizeE.den = m.size := by cases m <;> rfl
def qLen (T : Tab) (H : List Bk) (t : Nat) (x : D) : QR := match T.get t with
  | some ⟨.slice _, _, _, _⟩ => (match x with
    | .slm _ _ _ l => .ret (.int .i64 (.len l))
    | .sll _ es => .ret (.int .i64 (.lit es.length))
    | .osl _ b ver _ _ len => if Bk.at H b ver then .ret (.int .i64 len) else .stuck
    | .nils => .ret (.int .i64 (.lit 0))
    | _ => .stuck)
  | some ⟨.arr n _, _, _, _⟩ => if n ≤ maxLen then .ret (.int .i64 (.lit n)) else .stuck
  | some ⟨.map _ _, _, _, _⟩ => (match x with
    | .nilm => .ret (.int .i64 (.lit 0))
    | .mapr b => (match H[b]? with
      | some (.mp _ m) => .ret (.int .i64 m.sizeE)
      | _ => .stuck)
    | .mg _ _ n => .ret (.int .i64 n)
    | _ => .stuck)
  | some ⟨.str, _, _, _⟩ => (match x with
    | .str s => .ret (.int .i64 (.nat s.size))
    | _ => .stuck)
  | _ => .stuck
def qPick (c a b : D) : QR := match c with
  | .bool (.lit true) => .ret a
  | .bool (.lit false) => .ret b
  | _ => .stuck
def qMinMax (mx : Bool) (x y : D) : QR := match x, y with
  | .int k (.lit a), .int k' (.lit b) => if k = k' then .ret (.int k (.lit (if mx then max a b else min a b))) else .stuck
  | .int k a, .int k' b => if k = k' then .ret (.int k (if mx then .mx a b else .mn a b)) else .stuck
  | _, _ => .stuck
section
variable {P : Program} {T : Tab} {H : List Bk} {ρ : Operand → D} {o : Oper}
theorem ptr_at {w : World} {E : Env} {b ver off : Nat} {v : Value} (h : Bk.at H b ver = true) (hH : HRep w E H) (hv : DRep w E (.ptr b ver off) v) : ∃ c, E.κ b = ver ∧ E.σ b = some c ∧ v = .pointer (some ⟨c, off, none⟩) := by
  have hs := at_spec h hH
  cases hv with
  | ptr hk h => exact ⟨_, hk, h, rfl⟩
  | ptrs hk => rcases hs with q | q <;> omega
theorem rp_at {w : World} {E : Env} {n b ver : Nat} {i : IE} {off : Nat} {v : Value} (h : Bk.at H b ver = true) (hH : HRep w E H) (hv : DRep w E (.rp n b ver i off) v) : ∃ c, E.κ b = ver ∧ E.σ b = some c ∧ 0 ≤ i.den ∧ v = .pointer (some ⟨c, i.den.toNat * n + off, none⟩) := by
  have hs := at_spec h hH
  cases hv with
  | rp hk h hi => exact ⟨_, hk, h, hi, rfl⟩
  | rps hk => rcases hs with q | q <;> omega
theorem fieldPlace_run {t f : Nat} {fs : List (Nat × Nat × Bool)} {s b : Nat} {z : Value} {fo sz : Nat} {ag : Bool} (h : TI.of P t = some ⟨.struct fs, s, b, z⟩) (hf : fs[f]? = some (fo, sz, ag)) (h0 : sz ≠ 0) (w : World) (c off : Nat) :
    (Instr.fieldAt t (.pointer (some ⟨c, off, none⟩)) f).run P w = .ok (.pointer (some ⟨c, off + fo, none⟩)) w := by
  obtain ⟨ti, d, h1, h2, _, _, _, h6⟩ := TI.of_spec h
  cases d with
  | struct fds =>
    simp only [TK.of, TK.struct.injEq] at h6
    subst h6
    simp only [List.getElem?_map, Option.map_eq_some_iff, Prod.mk.injEq] at hf
    obtain ⟨fd, hfd, e1, e2, _⟩ := hf
    rw [Array.getElem?_toList] at hfd
    have hinfo : ∃ i, P.info? fd.type = some i ∧ i.size = sz := by
      unfold Program.cellsOf at e2
      cases hi : P.info? fd.type with
      | none => rw [hi] at e2; exact absurd e2.symm h0
      | some i => rw [hi] at e2; exact ⟨i, rfl, by simpa using e2⟩
    obtain ⟨i, hi, hsz⟩ := hinfo
    simp [Instr.fieldAt, run_underlying h2, hfd, Instr.sureAddr, fieldPlace, sizeOf, typeInfo, hi, hsz, h0, Addr.add_mid, e1]
  | _ => simp [TK.of] at h6
theorem qFieldAddr_good (hT : T.ok P) {t f : Nat} {x : Operand} (ho : o.op = .fieldAddr t x f) : (qFieldAddr T H t f (ρ x)).good P H ρ o := by
  have hx : ∀ ev : Operand → Value, execOp ev o = (do pure (.value (← Instr.fieldAt t (ev x) f))) := fun ev => by unfold execOp; rw [ho]
  unfold qFieldAddr
  split
  · next fs s b z ht =>
    have hti := Tab.get_ok hT ht
    split
    · next fo sz ag hf =>
      split
      · trivial
      · next h0 =>
        have run := fun w c off => fieldPlace_run hti hf h0 w c off
        split
        · next b ver off hd =>
          split
          · next hat =>
            intro w E ev hev hwf hH
            have h1 := hev x
            rw [hd] at h1
            obtain ⟨c, hk, hs, hv⟩ := ptr_at hat hH h1
            exact ⟨_, by rw [hx, hv]; simp [run], .ptr hk hs⟩
          · trivial
        · next n b ver i off hd =>
          split
          · next hat =>
            intro w E ev hev hwf hH
            have h1 := hev x
            rw [hd] at h1
            obtain ⟨c, hk, hs, hi, hv⟩ := rp_at hat hH h1
            exact ⟨.pointer (some ⟨c, i.den.toNat * n + off + fo, none⟩), by rw [hx, hv]; simp [run], by rw [Nat.add_assoc]; exact .rp hk hs hi⟩
          · trivial
        · next cells off hd =>
          intro w E ev hev hwf hH
          have h1 := hev x
          rw [hd] at h1
          generalize hv : ev x = vx at h1
          cases h1 with | @dp _ _ _ b base u hg hu h =>
          exact ⟨.pointer (some ⟨b, base + off + fo, none⟩), by rw [hx, hv]; simp [run], by rw [Nat.add_assoc]; exact .dp u hg hu h⟩
        · trivial
    · trivial
  · trivial
theorem get_rep {w : World} {E : Env} {l : List D} {vs : Array Value} (hs : l.length = vs.size) (h : ∀ (i : Nat) d v, l[i]? = some d → vs[i]? = some v → DRep w E d v) {i : Nat} {d : D} (hd : l[i]? = some d) : ∃ v, vs[i]? = some v ∧ DRep w E d v := by
  have hlt := (List.getElem?_eq_some_iff.1 hd).1
  have hv : vs[i]? = some (vs[i]'(by omega)) := Array.getElem?_eq_getElem (by omega)
  exact ⟨_, hv, h i d _ hd hv⟩
theorem extract_rep {w : World} {E : Env} {l : List D} {vs : Array Value} (hs : l.length = vs.size) (h : ∀ (i : Nat) d v, l[i]? = some d → vs[i]? = some v → DRep w E d v) (off sz : Nat) (hle : off + sz ≤ l.length) : DRep w E (.agg ((l.drop off).take sz)) (.agg (vs.extract off (off + sz))) := by
  refine .agg (by simp; omega) fun i d v h1 h2 => ?_
  simp only [List.getElem?_take, List.getElem?_drop] at h1
  split at h1
  · next hi =>
    simp only [Array.getElem?_extract] at h2
    split at h2
    · exact h _ _ _ h1 h2
    · cases h2
  · cases h1
/-- a part of a value: what 'part' gives -/
theorem part_run {t sz : Nat} {ag : Bool} {w : World} {E : Env} {l : List D} {vs : Array Value} (hs : l.length = vs.size) (h : ∀ (i : Nat) d v, l[i]? = some d → vs[i]? = some v → DRep w E d v) (off : Nat)
    (hag : (isAgg t).run P w = .ok ag w) (hsz : ag = true → (sizeOf t).run P w = .ok sz w) {d : D} (hd : partV sz ag l off = .ret d) : ∃ v, (part t vs off).run P w = .ok v w ∧ DRep w E d v := by
  unfold partV at hd
  unfold part
  cases ag with
  | true =>
    simp only [if_true] at hd
    split at hd
    · next hle =>
      cases hd
      exact ⟨_, by simp [hag, hsz rfl], extract_rep hs h off sz hle⟩
    · cases hd
  | false =>
    simp only [Bool.false_eq_true, if_false] at hd
    split at hd
    · next d' hd' =>
      cases hd
      obtain ⟨v, h1, h2⟩ := get_rep hs h hd'
      exact ⟨v, by simp [hag, h1], h2⟩
    · cases hd
theorem partV_ret {sz : Nat} {ag : Bool} {l : List D} {off : Nat} : (∃ d, partV sz ag l off = .ret d) ∨ partV sz ag l off = .stuck := by
  unfold partV
  split
  · split
    · exact .inl ⟨_, rfl⟩
    · exact .inr rfl
  · split
    · exact .inl ⟨_, rfl⟩
    · exact .inr rfl
theorem qField_good (hT : T.ok P) {t f : Nat} {x : Operand} (ho : o.op = .field t x f) : (qField T t f (ρ x)).good P H ρ o := by
  have hx : ∀ ev : Operand → Value, execOp ev o = (do pure (.value (← Instr.field t (ev x) f))) := fun ev => by unfold execOp; rw [ho]
  unfold qField
  split
  · next fs s b z l ht hd =>
    obtain ⟨ti, d, h1, h2, _, _, _, h6⟩ := TI.of_spec (Tab.get_ok hT ht)
    split
    · next fo sz ag hf =>
      rcases partV_ret (sz := sz) (ag := ag) (l := l) (off := fo) with ⟨d', hd'⟩ | q
      · rw [hd']
        intro w E ev hev hwf hH
        have h3 := hev x
        rw [hd] at h3
        generalize hv : ev x = vx at h3
        cases h3 with | @agg _ _ vs hs hh =>
        cases d with
        | struct fds =>
          have hall := TI.of_fields (Tab.get_ok hT ht) h2
          simp only [TK.of, TK.struct.injEq] at h6
          subst h6
          simp only [List.getElem?_map, Option.map_eq_some_iff, Prod.mk.injEq] at hf
          obtain ⟨fd, hfd, e1, e2, e3⟩ := hf
          rw [Array.getElem?_toList] at hfd
          obtain ⟨dd, hdd⟩ := Option.isSome_iff_exists.1 (hall fd (Array.mem_of_getElem? hfd))
          obtain ⟨v, h4, h5⟩ := part_run (P := P) (t := fd.type) (sz := sz) (ag := ag) (w := w) hs hh fo (by
            unfold isAgg
            rw [Sem.run_bind, run_underlying hdd w]
            rw [hdd] at e3
            subst e3
            cases dd <;> rfl) (fun hag => by
            have hi : ∃ i, P.info? fd.type = some i := by
              unfold Program.underlying at hdd
              cases hq : P.info? fd.type with
              | none => rw [hq] at hdd; cases hdd
              | some i => exact ⟨i, rfl⟩
            obtain ⟨i, hi⟩ := hi
            unfold Program.cellsOf at e2
            rw [hi] at e2
            simp at e2
            simp [sizeOf, typeInfo, hi, e2]) hd'
          exact ⟨v, by rw [hx, hv]; simp [Instr.field, run_underlying h2, hfd, asAgg, e1, h4], h5⟩
        | _ => simp [TK.of] at h6
      · rw [q]; trivial
    · trivial
  · trivial
theorem qIndexAddr_good (hT : T.ok P) {t : Nat} {x i : Operand} (ho : o.op = .indexAddr t x i) : (qIndexAddr T H t (ρ x) (ρ i)).good P H ρ o := by
  have hx : ∀ ev : Operand → Value, execOp ev o = (do pure (.value (← Instr.indexAt t (ev x) (ev i)))) := fun ev => by unfold execOp; rw [ho]
  have sl : ∀ {e s b s' b' : Nat} {z z' : Value} {k' : TK} (_ : T.get t = some ⟨.slice e, s, b, z⟩) (_ : T.get e = some ⟨k', s', b', z'⟩) {k : IntKind} {n : Int} {c off len cap : Nat} {w : World}, 0 ≤ n → n < len →
      (Instr.indexAt t (.slice (some ⟨c, off, none⟩) len cap) (.int k n)).run P w = .ok (.pointer (some ⟨c, off + n.toNat * s', none⟩)) w := by
    intro e s b s' b' z z' k' h1 h2 k n c off len cap w h3 h4
    obtain ⟨ti, d, g1, g2, _, _, _, g6⟩ := TI.of_spec (Tab.get_ok hT h1)
    obtain ⟨ti', d', f1, f2, _, f4, _, f6⟩ := TI.of_spec (Tab.get_ok hT h2)
    cases d with
    | slice e' =>
      simp only [TK.of, TK.slice.injEq] at g6
      subst g6
      simp only at f4
      simp [Instr.indexAt, asIntOf, run_underlying g2, h3, h4, sizeOf, typeInfo, f1, f4, Addr.add_mid]
    | _ => simp [TK.of] at g6
  have ar : ∀ {m e s b s' b' : Nat} {z z' : Value} {k' : TK} (_ : T.get t = some ⟨.arr m e, s, b, z⟩) (_ : T.get e = some ⟨k', s', b', z'⟩) {k : IntKind} {n : Int} {c off : Nat} {w : World}, 0 ≤ n → n < m →
      (Instr.indexAt t (.pointer (some ⟨c, off, none⟩)) (.int k n)).run P w = .ok (.pointer (some ⟨c, off + n.toNat * s', none⟩)) w := by
    intro m e s b s' b' z z' k' h1 h2 k n c off w h3 h4
    obtain ⟨ti, d, g1, g2, _, _, _, g6⟩ := TI.of_spec (Tab.get_ok hT h1)
    obtain ⟨ti', d', f1, f2, _, f4, _, f6⟩ := TI.of_spec (Tab.get_ok hT h2)
    cases d with
    | array m' e' =>
      simp only [TK.of, TK.arr.injEq] at g6
      obtain ⟨rfl, rfl⟩ := g6
      simp only at f4
      simp [Instr.indexAt, asIntOf, run_underlying g2, Instr.sureAddr, h3, h4, sizeOf, typeInfo, f1, f4, Addr.add_mid]
    | _ => simp [TK.of] at g6
  unfold qIndexAddr
  split
  · next k ie hi =>
    have hint : ∀ {w : World} {E : Env} {ev : Operand → Value}, (∀ x, DRep w E (ρ x) (ev x)) → ev i = .int k ie.den := fun {w E ev} hev => by
      have := hev i
      rw [hi] at this
      generalize ev i = vi at this
      cases this
      rfl
    split
    · next e s b z ht =>
      split
      · next te hte =>
        obtain ⟨k', s', b', z'⟩ := te
        split
        · next α n nb c l hd =>
          split
          · next hn =>
            replace hn : n = s' := hn
            subst hn
            intro h0 y hy w E ev hev hwf hH
            have h1 := hev x
            rw [hd] at h1
            generalize hv : ev x = vx at h1
            cases h1 with | @slm _ _ _ _ _ _ a cap u hnb hc hm hxx ha h =>
            have hlt := (List.getElem?_eq_some_iff.1 hy).1
            obtain ⟨bb, base, rfl, hG, hcell⟩ := ha (by intro e; subst e; simp at hy)
            have hrun := sl ht hte (k := k) (n := ie.den) (c := bb) (off := base) (len := l.length) (cap := cap) (w := w) h0 (by omega)
            have hlen := hxx y (List.mem_of_getElem? hy)
            refine ⟨_, by rw [hx, hv, hint hev]; simp [hrun]; rfl, ?_⟩
            have := DRep.dp (w := w) (E := E) (cells := c y) (off := 0) (b := bb) (base := base + ie.den.toNat * n) (u ie.den.toNat) hG (fun j hj => hcell _ j hlt (by omega)) (fun j d hd => h _ y j d hy hd)
            simpa using this
          · trivial
        · next n es hd =>
          have lits : ∀ (y : List D), 0 ≤ ie.den → es[ie.den.toNat]? = some y → n = s' → OpRet P H ρ o (.dp y 0) := by
            intro y h0 hy hn
            subst hn
            intro w E ev hev hwf hH
            have h1 := hev x
            rw [hd] at h1
            generalize hv : ev x = vx at h1
            cases h1 with | @sll _ _ _ a cap u hc hm hxx ha h =>
            have hlt := (List.getElem?_eq_some_iff.1 hy).1
            obtain ⟨bb, base, rfl, hG, hcell⟩ := ha
            have hrun := sl ht hte (k := k) (n := ie.den) (c := bb) (off := base) (len := es.length) (cap := cap) (w := w) h0 (by omega)
            have hlen := hxx y (List.mem_of_getElem? hy)
            refine ⟨_, by rw [hx, hv, hint hev]; simp [hrun]; rfl, ?_⟩
            have := DRep.dp (w := w) (E := E) (cells := y) (off := 0) (b := bb) (base := base + ie.den.toNat * n) (u ie.den.toNat) hG (fun j hj => hcell _ j hlt (by omega)) (fun j d hd => h _ y j d hy hd)
            simpa using this
          split
          · next hn =>
            split
            · next kk =>
              split
              · next h0 =>
                split
                · next cs hcs => exact lits cs h0 hcs hn
                · trivial
              · trivial
            · exact fun h0 y hy => lits y h0 hy hn
          · trivial
        · next n bb ver nb lo len hd =>
          split
          · next hn =>
            simp only [Bool.and_eq_true, decide_eq_true_eq] at hn
            obtain ⟨hn, hat⟩ := hn
            refine QR.reqQ_good litLt_spec fun hb => ?_
            intro w E ev hev hwf hH
            have h1 := hev x
            rw [hd] at h1
            generalize hv : ev x = vx at h1
            have hs := at_spec hat hH
            cases h1 with
            | @oslc _ _ _ _ _ _ _ c m cap hk hσ hnb hl hlen hc hm hsz =>
              have hrun := sl ht hte (k := k) (n := ie.den) (c := c) (off := lo.den.toNat * n) (len := m) (cap := cap) (w := w) hb.1 (by omega)
              refine ⟨.pointer (some ⟨c, (IE.mkSum lo ie).den.toNat * n + 0, none⟩), ?_, .rp hk hσ (by rw [IE.mkSum_den]; omega)⟩
              rw [hx, hv, hint hev]
              simp only [Sem.run_bind, hrun, Result.andThen_ok, Sem.run_pure]
              rw [IE.mkSum_den, Int.toNat_add hl hb.1, Nat.add_mul, hn]
              rfl
            | osln hk hσ hnb hl hlen => exfalso; omega
            | osls hk => rcases hs with q | q <;> omega
          · trivial
        · trivial
      · trivial
    · next m e s b z ht =>
      split
      · next te hte =>
        obtain ⟨k', s', b', z'⟩ := te
        split
        · next bb ver off hd =>
          split
          · next h0 =>
              obtain rfl := rowAt_off h0
              unfold idxRow
              split
              · next mm ver' r hb =>
                split
                · next hc =>
                  simp only [Bool.and_eq_true, decide_eq_true_eq] at hc
                  obtain ⟨hm, rfl⟩ := hc
                  refine QR.reqQ_good litLt_spec fun hbd => ?_
                  intro w E ev hev hwf hH
                  have h1 := hev x
                  rw [hd] at h1
                  have hat : Bk.at H bb ver' = true := by unfold Bk.at; rw [hb]; simp
                  obtain ⟨c, hk, hs, hv⟩ := ptr_at hat hH h1
                  have hrun := ar ht hte (k := k) (n := ie.den) (c := c) (off := 0) (w := w) hbd.1 hbd.2
                  refine ⟨.pointer (some ⟨c, ie.den.toNat * mm + 0, none⟩), ?_, .rp hk hs hbd.1⟩
                  rw [hx, hv, hint hev]
                  simp [hrun, hm]
                · trivial
              · trivial
          · split
            · next kk hkk =>
              replace hkk := IE.lit?_den hkk
              split
              · next hc =>
                simp only [Bool.and_eq_true, decide_eq_true_eq] at hc
                obtain ⟨⟨hat, h0⟩, h3⟩ := hc
                intro w E ev hev hwf hH
                have h1 := hev x
                rw [hd] at h1
                obtain ⟨c, hk, hs, hv⟩ := ptr_at hat hH h1
                have hrun := ar ht hte (k := k) (n := kk) (c := c) (off := off) (w := w) h0 h3
                exact ⟨_, by rw [hx, hv, hint hev, hkk]; simp [hrun], .ptr hk hs⟩
              · trivial
            · trivial
        · next cells off hd =>
          split
          · next kk hkk =>
            replace hkk := IE.lit?_den hkk
            split
            · next hc =>
              simp only [Bool.and_eq_true, decide_eq_true_eq] at hc
              intro w E ev hev hwf hH
              have h1 := hev x
              rw [hd] at h1
              generalize hv : ev x = vx at h1
              cases h1 with | @dp _ _ _ bb base u hg hu h =>
              have hrun := ar ht hte (k := k) (n := kk) (c := bb) (off := base + off) (w := w) hc.1 hc.2
              refine ⟨.pointer (some ⟨bb, base + off + kk.toNat * s', none⟩), by rw [hx, hv, hint hev, hkk]; simp [hrun], ?_⟩
              rw [Nat.add_assoc]
              exact .dp u hg hu h
            · trivial
          · trivial
        · trivial
      · trivial
    · trivial
  · trivial
theorem qIndex_good (hT : T.ok P) {t : Nat} {x i : Operand} (ho : o.op = .index t x i) : (qIndex T t (ρ x) (ρ i)).good P H ρ o := by
  have hx : ∀ ev : Operand → Value, execOp ev o = (do pure (.value (← Instr.index t (ev x) (ev i)))) := fun ev => by unfold execOp; rw [ho]
  unfold qIndex
  split
  · next m e s b z l kk k ht hd hi =>
    split
    · next te hte =>
      split
      · next hc =>
        simp only [Bool.and_eq_true, decide_eq_true_eq] at hc
        rcases partV_ret (sz := te.size) (ag := te.kind.agg) (l := l) (off := k.toNat * te.size) with ⟨d', hd'⟩ | q
        · rw [hd']
          intro w E ev hev hwf hH
          have h3 := hev x
          have h4 := hev i
          rw [hd] at h3
          rw [hi] at h4
          generalize hv : ev x = vx at h3
          generalize hv2 : ev i = vi at h4
          cases h3 with | @agg _ _ vs hs hh =>
          cases h4
          obtain ⟨ti, d, g1, g2, _, _, _, g6⟩ := TI.of_spec (Tab.get_ok hT ht)
          obtain ⟨ti', d2, f1, f2, _, f4, _, f6⟩ := TI.of_spec (Tab.get_ok hT hte)
          cases d with
          | array m' e' =>
            simp only [TK.of, TK.arr.injEq] at g6
            obtain ⟨rfl, rfl⟩ := g6
            obtain ⟨v, h5, h6⟩ := part_run (P := P) (t := e) (sz := te.size) (ag := te.kind.agg) (w := w) hs hh (k.toNat * te.size) (by
              unfold isAgg
              rw [Sem.run_bind, run_underlying f2 w, f6]
              cases d2 <;> simp [TK.of, TK.agg] <;> (try split) <;> rfl) (fun _ => by simp [sizeOf, typeInfo, f1, f4]) hd'
            refine ⟨v, ?_, h6⟩
            rw [hx, hv, hv2]
            simp [Instr.index, asIntOf, run_underlying g2, IE.den, hc.1, hc.2, sizeOf, typeInfo, f1, f4, h5]
          | _ => simp [TK.of] at g6
        · rw [q]; trivial
      · trivial
    · trivial
  · trivial
theorem qExtract_good {x : Operand} {i : Nat} (ho : o.op = .extract x i) : (qExtract (ρ x) i).good P H ρ o := by
  have hx : ∀ ev : Operand → Value, execOp ev o = (do pure (.value (← Instr.extract (ev x) i))) := fun ev => by unfold execOp; rw [ho]
  unfold qExtract
  split
  · next l hd =>
    split
    · next d hi =>
      intro w E ev hev hwf hH
      have h3 := hev x
      rw [hd] at h3
      generalize hv : ev x = vx at h3
      cases h3 with | tup hs hh =>
      obtain ⟨v, h1, h2⟩ := get_rep hs hh hi
      exact ⟨v, by rw [hx, hv]; simp [Instr.extract, h1], h2⟩
    · trivial
  · trivial
theorem qUn_good {op : UnOp} {t : Nat} {x : Operand} (ho : o.op = .unOp op t x) : (qUn op (ρ x)).good P H ρ o := by
  have hx : ∀ ev : Operand → Value, execOp ev o = (do pure (.value (← Op.unary op (ev x)))) := fun ev => by unfold execOp; rw [ho]
  unfold qUn
  split
  · next b hd =>
    intro w E ev hev hwf hH
    have h3 := hev x
    rw [hd] at h3
    generalize hv : ev x = vx at h3
    cases h3
    exact ⟨.bool b.mkNot.den, by rw [hx, hv]; simp [Op.unary, BE.mkNot_den], .bool⟩
  · next k e hd =>
    intro w E ev hev hwf hH
    have h3 := hev x
    rw [hd] at h3
    generalize hv : ev x = vx at h3
    cases h3
    exact ⟨.int k (IE.mk2 .sub k (.lit 0) e).den, by rw [hx, hv]; simp [Op.unary, Op.intArith, IE.mk2_den, binDen, IE.den], .int (by rw [IE.mk2_den]; exact InR.wrap _ _)⟩
  · next k e hd =>
    intro w E ev hev hwf hH
    have h3 := hev x
    rw [hd] at h3
    generalize hv : ev x = vx at h3
    cases h3
    exact ⟨.int k (IE.mk2 .xor k (.lit (if k.signed then -1 else k.max)) e).den, by rw [hx, hv]; simp [Op.unary, Op.intBits, IE.mk2_den, binDen, IE.den], .int (by rw [IE.mk2_den]; exact InR.wrap _ _)⟩
  · trivial
theorem qConv_good (hT : T.ok P) {s t : Nat} {x : Operand} (ho : o.op = .convert s t x) : (qConv T s t (ρ x)).good P H ρ o := by
  have hx : ∀ ev : Operand → Value, execOp ev o = (do pure (.value (← convert s t (ev x)))) := fun ev => by unfold execOp; rw [ho]
  unfold qConv
  split
  · next ks k _ _ _ _ e hs ht hd =>
    intro w E ev hev hwf hH
    have h3 := hev x
    rw [hd] at h3
    generalize hv : ev x = vx at h3
    cases h3
    obtain ⟨ti, d, g1, g2, _, _, _, g6⟩ := TI.of_spec (Tab.get_ok hT hs)
    obtain ⟨ti', d2, f1, f2, _, _, _, f6⟩ := TI.of_spec (Tab.get_ok hT ht)
    refine ⟨.int k (IE.mkConv k e).den, ?_, .int (by rw [IE.mkConv_den]; exact InR.wrap _ _)⟩
    rw [hx, hv, IE.mkConv_den]
    cases d2 with
    | int k2 =>
      simp only [TK.of, TK.int.injEq] at f6
      subst f6
      simp [convert, run_underlying g2, run_underlying f2, Conv.intToInt]
    | _ => simp [TK.of] at f6
  · next _ _ _ st hs ht hd =>
    intro w E ev hev hwf hH
    have h3 := hev x
    rw [hd] at h3
    generalize hv : ev x = vx at h3
    cases h3 with | str h =>
    obtain ⟨ti, d, g1, g2, _, _, _, g6⟩ := TI.of_spec (Tab.get_ok hT hs)
    obtain ⟨ti', d2, f1, f2, _, _, _, f6⟩ := TI.of_spec (Tab.get_ok hT ht)
    refine ⟨.string st, ?_, .str h⟩
    rw [hx, hv]
    cases d2 with
    | string => simp [convert, run_underlying g2, run_underlying f2]
    | _ => simp [TK.of] at f6
  · trivial
theorem execOp_blt {b : Builtin} {xs : Array Operand} {ats : Array TypeId} {ev : Operand → Value} (ho : o.op = .call ⟨.builtin b, xs, ats⟩) : ∃ cs, ∀ w : World, (execOp ev o).run P w = (builtin b ats o.type cs (xs.map ev)).run P w := by
  unfold execOp
  rw [ho]
  simp only [resolve, invoke, Sem.run_bind, Sem.run_pure, Result.andThen_ok]
  exact ⟨_, fun w => rfl⟩
theorem qLen_good (hT : T.ok P) {t : Nat} {x : Operand} (ho : o.op = .call ⟨.builtin .len, #[x], #[t]⟩) : (qLen T H t (ρ x)).good P H ρ o := by
  have hx : ∀ (ev : Operand → Value) (w : World), (execOp ev o).run P w = (do pure (.value (← Builtin.len_ #[t] o.type #[ev x])) : Sem Next).run P w := fun ev w => by
    obtain ⟨cs, h⟩ := execOp_blt (P := P) (ev := ev) ho
    rw [h w]
    simp [builtin]
  have sl : ∀ {e s b : Nat} {z : Value} (_ : T.get t = some ⟨.slice e, s, b, z⟩) {a : Option Addr} {n c : Nat} {w : World}, (Builtin.len_ #[t] o.type #[.slice a n c]).run P w = .ok (.int .i64 n) w := by
    intro e s b z h1 a n c w
    obtain ⟨ti, d, g1, g2, _, _, _, g6⟩ := TI.of_spec (Tab.get_ok hT h1)
    cases d with
    | slice e' => simp [Builtin.len_, run_underlying g2, goInt]
    | _ => simp [TK.of] at g6
  have lenR : ∀ {n : Nat}, n ≤ maxLen → InR .i64 (n : Int) := fun h => by
    unfold maxLen at h
    simp [InR, IntKind.min, IntKind.max, IntKind.signed, IntKind.bits]
    omega
  unfold qLen
  split
  · next e s b z ht =>
    split
    · next α n nb c l hd =>
      intro w E ev hev hwf hH
      have h3 := hev x
      rw [hd] at h3
      generalize hv : ev x = vx at h3
      cases h3 with | slm u hnb hc hm hxx ha h =>
      exact ⟨_, by rw [hx, hv]; simp [sl ht]; rfl, .int (e := .len l) (lenR (by omega))⟩
    · next n es hd =>
      intro w E ev hev hwf hH
      have h3 := hev x
      rw [hd] at h3
      generalize hv : ev x = vx at h3
      cases h3 with | sll u hc hm hxx ha h =>
      exact ⟨_, by rw [hx, hv]; simp [sl ht]; rfl, .int (e := .lit es.length) (lenR (by omega))⟩
    · next n bb ver nb lo len hd =>
      split
      · next hat =>
        intro w E ev hev hwf hH
        have h3 := hev x
        rw [hd] at h3
        generalize hv : ev x = vx at h3
        have hs := at_spec hat hH
        cases h3 with
        | oslc hk hσ hnb hl hlen hc hm hsz => exact ⟨.int .i64 len.den, by rw [hx, hv]; simp [sl ht, hlen], .int (by rw [hlen]; exact lenR (by omega))⟩
        | osln hk hσ hnb hl hlen => exact ⟨.int .i64 len.den, by rw [hx, hv]; simp [sl ht, hlen], .int (by rw [hlen]; exact InR.zero _)⟩
        | osls hk => rcases hs with q | q <;> omega
      · trivial
    · next hd =>
      intro w E ev hev hwf hH
      have h3 := hev x
      rw [hd] at h3
      generalize hv : ev x = vx at h3
      cases h3
      exact ⟨_, by rw [hx, hv]; simp [sl ht]; rfl, .int (e := .lit 0) (InR.zero _)⟩
    · trivial
  · next n e s b z ht =>
    split
    · next hn =>
      intro w E ev hev hwf hH
      obtain ⟨ti, d, g1, g2, _, _, _, g6⟩ := TI.of_spec (Tab.get_ok hT ht)
      cases d with
      | array n2 e2 =>
        simp only [TK.of, TK.arr.injEq] at g6
        obtain ⟨rfl, rfl⟩ := g6
        exact ⟨_, by rw [hx]; simp [Builtin.len_, run_underlying g2, goInt]; rfl, .int (e := .lit n) (lenR hn)⟩
      | _ => simp [TK.of] at g6
    · trivial
  · next k2 e2 s b z ht =>
    split
    · next hd =>
      intro w E ev hev hwf hH
      have h3 := hev x
      rw [hd] at h3
      generalize hv : ev x = vx at h3
      cases h3
      obtain ⟨ti, d, g1, g2, _, _, _, g6⟩ := TI.of_spec (Tab.get_ok hT ht)
      cases d with
      | map k3 e3 => exact ⟨_, by rw [hx, hv]; simp [Builtin.len_, run_underlying g2, goInt]; rfl, .int (e := .lit 0) (InR.zero _)⟩
      | _ => simp [TK.of] at g6
    · next bb hd =>
      split
      · next kk m hb =>
        intro w E ev hev hwf hH
        have h3 := hev x
        rw [hd] at h3
        generalize hv : ev x = vx at h3
        have hbb := hH bb _ hb
        obtain ⟨ti, d, g1, g2, _, _, _, g6⟩ := TI.of_spec (Tab.get_ok hT ht)
        cases h3 with
        | @mapr _ _ c hκ hσ =>
          rcases hbb with hbb | ⟨_, hbb, _⟩
          · omega
          · obtain ⟨es, clock, q1, q2, q3, _⟩ := hbb c hσ
            have q5 : m.sizeE.den = (es.size : Int) := by rw [ME.sizeE_den, q2]
            have q6 : (getObj c).run P w = .ok (.map es clock) w := by simp [getObj, Sem.run, q1]
            cases d with
            | map k3 e3 => exact ⟨.int .i64 m.sizeE.den, by rw [hx, hv]; simp [Builtin.len_, run_underlying g2, goInt, q6, q5], .int (by rw [q5]; exact lenR q3)⟩
            | _ => simp [TK.of] at g6
        | maps hκ =>
          rcases hbb with hbb | ⟨hbb, _, _⟩
          · omega
          · simp only [Bk.ver] at hbb; omega
      · trivial
    · next kk F n hd =>
      intro w E ev hev hwf hH
      have h3 := hev x
      rw [hd] at h3
      generalize hv : ev x = vx at h3
      obtain ⟨ti, d, g1, g2, _, _, _, g6⟩ := TI.of_spec (Tab.get_ok hT ht)
      cases h3 with | @mg _ _ _ _ c es clock hg hb hn hm hk hh ha hc hvv =>
      have q6 : (getObj c).run P w = .ok (.map es clock) w := by simp [getObj, Sem.run, hb]
      cases d with
      | map k3 e3 => exact ⟨.int .i64 n.den, by rw [hx, hv]; simp [Builtin.len_, run_underlying g2, goInt, q6, hn], .int (by rw [← hn]; exact lenR hm)⟩
      | _ => simp [TK.of] at g6
    · trivial
  · next s b z ht =>
    split
    · next bs hd =>
      intro w E ev hev hwf hH
      have h3 := hev x
      rw [hd] at h3
      generalize hv : ev x = vx at h3
      cases h3 with | str hs =>
      obtain ⟨ti, d, g1, g2, _, _, _, g6⟩ := TI.of_spec (Tab.get_ok hT ht)
      cases d with
      | string => exact ⟨_, by rw [hx, hv]; simp [Builtin.len_, run_underlying g2, goInt]; rfl, .int (e := .nat bs.size) (lenR hs)⟩
      | _ => simp [TK.of] at g6
    · trivial
  · trivial
theorem qMove_good {x : Operand} (ho : o.op = .move x ∨ o.op = .assign x) : (QR.ret (ρ x)).good P H ρ o := fun w E ev hev hwf hH =>
  ⟨ev x, by unfold execOp; rcases ho with h | h <;> rw [h] <;> simp, hev x⟩
theorem qPick_good {c a b : Operand} (ho : o.op = .pick c a b) : (qPick (ρ c) (ρ a) (ρ b)).good P H ρ o := by
  have hx : ∀ ev : Operand → Value, execOp ev o = (do pure (.value (if ← asBool (ev c) then ev a else ev b))) := fun ev => by unfold execOp; rw [ho]
  unfold qPick
  split
  · next hd =>
    intro w E ev hev hwf hH
    have h3 := hev c
    rw [hd] at h3
    generalize hv : ev c = vx at h3
    cases h3
    exact ⟨ev a, by rw [hx, hv]; simp [asBool, BE.den], hev a⟩
  · next hd =>
    intro w E ev hev hwf hH
    have h3 := hev c
    rw [hd] at h3
    generalize hv : ev c = vx at h3
    cases h3
    exact ⟨ev b, by rw [hx, hv]; simp [asBool, BE.den], hev b⟩
  · trivial
theorem qMinMax_good {mx : Bool} {x y : Operand} {ats : Array TypeId} (ho : o.op = .call ⟨.builtin (if mx then .max else .min), #[x, y], ats⟩) : (qMinMax mx (ρ x) (ρ y)).good P H ρ o := by
  have key : ∀ {k : IntKind} {a b r : IE}, ρ x = .int k a → ρ y = .int k b → r.den = (if mx then max a.den b.den else min a.den b.den) → OpRet P H ρ o (.int k r) := by
    intro k a b r hx hy hr w E ev hev hwf hH
    have h3 := hev x
    have h4 := hev y
    rw [hx] at h3
    rw [hy] at h4
    generalize hv : ev x = vx at h3
    generalize hv2 : ev y = vy at h4
    cases h3 with | int i1 => cases h4 with | int i2 =>
    obtain ⟨cs, h⟩ := execOp_blt (P := P) (ev := ev) ho
    refine ⟨.int k r.den, ?_, .int (by rw [hr]; split <;> (unfold InR at *; omega))⟩
    rw [h w, hr]
    cases mx
    · simp only [Bool.false_eq_true, if_false]
      simp [builtin, Builtin.min_, hv, hv2, Builtin.min2]
      omega
    · simp only [if_true]
      simp [builtin, Builtin.max_, hv, hv2, Builtin.max2]
      omega
  unfold qMinMax
  split
  · next k a k' b hx hy =>
    split
    · next e =>
      subst e
      exact key hx hy (by cases mx <;> rfl)
    · trivial
  · next k a k' b _ hx hy =>
    split
    · next e =>
      subst e
      exact key hx hy (by cases mx <;> rfl)
    · trivial
  · trivial
theorem qMakeFunc_good {f : Fn} {a b : Array Operand} (ho : o.op = .makeFunc f a b) : (QR.ret (.fn f (a.toList.map ρ) (b.toList.map ρ))).good P H ρ o := fun w E ev hev hwf hH => by
  refine ⟨.func f (a.map ev) (b.map ev), by unfold execOp; rw [ho]; simp [Instr.makeFunc], .fn (by simp) (by simp) (fun i d v h1 h2 => ?_) (fun i d v h1 h2 => ?_)⟩
  all_goals
    simp only [List.getElem?_map, Option.map_eq_some_iff, Array.getElem?_toList] at h1
    simp only [Array.getElem?_map, Option.map_eq_some_iff] at h2
    obtain ⟨x, hx, rfl⟩ := h1
    obtain ⟨y, hy, rfl⟩ := h2
    rw [hx] at hy
    cases hy
    exact hev x
end
end Go.Proofs.YtdhfakajlnidiaaGreat
namespace Go.Proofs.YtdhfakajlnidiaaGreat
open Go.RowKit

/-! The operations one by one: maps of the call's own, with integers as keys. -/
def ansM (ck : Bool) (d : D) (b : BE) : D := if ck then .tup [d, .bool b] else d
def qMakeMap (T : Tab) (t : Nat) (r : Option D) : QR := match r, T.get t with
  | none, some ⟨.map k _, _, _, _⟩ => (match T.get k with
    | some ⟨.int kk, _, _, _⟩ => .newm kk
    | some ⟨.struct _, _, _, _⟩ => .newm .i64
    | _ => .stuck)
  | _, _ => .stuck
def lookM (te : TI) (m : ME) (ie : IE) (ck : Bool) : QR := match m with
  | .lits es => (match es, ie with
    | [], _ => .ret (ansM ck (D.ofV te.zero) (.lit false))
    | es, .lit x => (match findE es x with
      | some d => .ret (ansM ck d (.lit true))
      | none => .ret (ansM ck (D.ofV te.zero) (.lit false)))
    | _, _ => .stuck)
  | .setb S _ => (match te.zero with
    | .bool false => .letb (fun _ => S ie.den) (fun b => ansM ck (.bool (.var b)) (.var b))
    | _ => .stuck)
  | .fi k F _ => .leto (fun _ => F ie.den) (ansM ck (D.ofV te.zero) (.lit false)) (fun y => ansM ck (.int k (.var y)) (.lit true))
def qLookup (T : Tab) (H : List Bk) (t : Nat) (x i : D) (ck : Bool) : QR := match T.get t with
  | some ⟨.map k e, _, _, _⟩ => (match T.get k, T.get e, i with
    | some ⟨.int kk, _, _, _⟩, some te, .int ki ie => if ki = kk then (match x with
      | .nilm => .ret (ansM ck (D.ofV te.zero) (.lit false))
      | .mapr b => (match H[b]? with
        | some (.mp kk' m) => if kk' = kk then lookM te m ie ck else .stuck
        | _ => .stuck)
      | _ => .stuck) else .stuck
    | _, _, _ => .stuck)
  | _ => .stuck
section
variable {P : Program} {T : Tab} {H : List Bk} {ρ : Operand → D} {o : Oper}
theorem TI.of_int {t : Nat} {kk : IntKind} {s b : Nat} {z : Value} (h : TI.of P t = some ⟨.int kk, s, b, z⟩) : P.underlying t = some (.int kk) := by
  obtain ⟨ti, d, g1, g2, _, _, _, g6⟩ := TI.of_spec h
  cases d <;> simp [TK.of] at g6
  subst g6
  exact g2
theorem TI.of_map {t k e : Nat} {s b : Nat} {z : Value} (h : TI.of P t = some ⟨.map k e, s, b, z⟩) : P.underlying t = some (.map k e) := by
  obtain ⟨ti, d, g1, g2, _, _, _, g6⟩ := TI.of_spec h
  cases d <;> simp [TK.of] at g6
  obtain ⟨rfl, rfl⟩ := g6
  exact g2
theorem TI.of_zero {t : Nat} {ti : TI} (h : TI.of P t = some ti) (w : World) : (zeroValue t).run P w = .ok ti.zero w := by
  obtain ⟨i, d, g1, _, g3, _⟩ := TI.of_spec h
  simp [zeroValue, typeInfo, g1, g3]
theorem map_find {w : World} {E : Env} {kk : IntKind} {es : List MapEntry} {clock : Nat} {F : Int → Option D} (h : MapOK w E kk es clock F) (n : Int) :
    (F n = none ∧ Instr.findNow (.int kk) (.int kk n) es 0 = some none) ∨ ∃ j e d, Instr.findNow (.int kk) (.int kk n) es 0 = some (some (j, e.val)) ∧ es[j]? = some e ∧ e.key = .int kk n ∧ F n = some d ∧ DRep w E d e.val := by
  have hk : ∀ x ∈ es, MapKept.IsKey (.int kk) x.key := fun x hx => by
    obtain ⟨y, d, h1, _⟩ := h.val x hx
    rw [h1]
    rfl
  rcases MapKept.findNow_spec (d := .int kk) (k := .int kk n) rfl es 0 hk with ⟨h1, h2⟩ | ⟨j, e, h1, h2, h3⟩
  · refine .inl ⟨?_, h1⟩
    cases hF : F n with
    | none => rfl
    | some d =>
      obtain ⟨e, he, hke⟩ := h.has n d hF
      exact absurd hke (h2 e he)
  · refine .inr ⟨j, e, ?_⟩
    obtain ⟨x, d, q1, _, q3, q4⟩ := h.val e (List.mem_of_getElem? h2)
    rw [q1] at h3
    obtain rfl : x = n := by simpa using h3
    exact ⟨d, by simpa using h1, h2, q1, q3, q4⟩
theorem execOp_lookup {ev : Operand → Value} {t : Nat} {x i : Operand} {ck : Bool} (ho : o.op = .lookup t x i ck) : execOp ev o = (do pure (.value (← Instr.lookup t (ev x) (ev i) ck))) := by
  unfold execOp; rw [ho]
theorem execOp_makeMap {ev : Operand → Value} {t : Nat} (ho : o.op = .makeMap t none) : execOp ev o = (do pure (.value (← Instr.makeMap t none))) := by
  unfold execOp; rw [ho]; rfl
theorem qMakeMap_good {t : Nat} {r : Option Operand} (ho : o.op = .makeMap t r) : (qMakeMap T t (r.map ρ)).good P H ρ o := by
  unfold qMakeMap
  split
  · next h1 ht =>
    split
    · intro w E ev hev hwf hH
      have hr : r = none := by cases r <;> simp_all
      subst hr
      rw [execOp_makeMap ho]
      simp [Instr.makeMap, Result.andThen]
    · intro w E ev hev hwf hH
      have hr : r = none := by cases r <;> simp_all
      subst hr
      rw [execOp_makeMap ho]
      simp [Instr.makeMap, Result.andThen]
    · trivial
  · trivial
theorem ansM_rep {w : World} {E : Env} {ck : Bool} {d : D} {v : Value} {b : BE} (h : DRep w E d v) : DRep w E (ansM ck d b) (if ck then .tuple #[v, .bool b.den] else v) := by
  unfold ansM
  cases ck
  · exact h
  · refine .tup rfl fun i d' v' h1 h2 => ?_
    match i with
    | 0 => simp at h1 h2; subst h1; subst h2; exact h
    | 1 => simp at h1 h2; subst h1; subst h2; exact .bool
    | i + 2 => simp at h1
theorem lookup_runM {t k e : Nat} {kk : IntKind} {te : TI} {s1 b1 s2 b2 : Nat} {z1 z2 : Value} (h1 : TI.of P t = some ⟨.map k e, s1, b1, z1⟩) (h2 : TI.of P k = some ⟨.int kk, s2, b2, z2⟩) (h3 : TI.of P e = some te) {w : World} {c : Nat} {es : Array MapEntry} {clock : Nat} (hb : w.heap[c]? = some (.map es clock))
    {n : Int} {ck : Bool} {r : Option (Nat × Value)} (hr : Instr.findNow (.int kk) (.int kk n) es.toList 0 = some r) :
    (Instr.lookup t (.map (some c)) (.int kk n) ck).run P w = .ok (match r with | some (_, v) => (if ck then .tuple #[v, .bool true] else v) | none => (if ck then .tuple #[te.zero, .bool false] else te.zero)) w := by
  unfold Instr.lookup
  simp only [Sem.run_bind, run_underlying (TI.of_map h1), Result.andThen, MapKept.run_getObj_map hb, Sem.run_pure, MapKept.run_checkKey (TI.of_int h2) (k := .int kk n) rfl, MapKept.run_findKey (TI.of_int h2) hr]
  cases r with
  | none => simp only [Sem.run_bind, TI.of_zero h3, Result.andThen, Sem.run_pure]
  | some p => rfl
theorem lookup_runN {t k e : Nat} {kk : IntKind} {te : TI} {s1 b1 s2 b2 : Nat} {z1 z2 : Value} (h1 : TI.of P t = some ⟨.map k e, s1, b1, z1⟩) (h2 : TI.of P k = some ⟨.int kk, s2, b2, z2⟩) (h3 : TI.of P e = some te) {w : World}
    {n : Int} {ck : Bool} :
    (Instr.lookup t (.map none) (.int kk n) ck).run P w = .ok (if ck then .tuple #[te.zero, .bool false] else te.zero) w := by
  unfold Instr.lookup
  simp only [Sem.run_bind, run_underlying (TI.of_map h1), Result.andThen, Sem.run_pure, MapKept.run_checkKey (TI.of_int h2) (k := .int kk n) rfl, MapKept.run_findKey (TI.of_int h2) (show Instr.findNow (.int kk) (.int kk n) (#[] : Array MapEntry).toList 0 = some none from rfl), TI.of_zero h3]
theorem qLookup_good (hT : T.ok P) {t : Nat} {x i : Operand} {ck : Bool} (ho : o.op = .lookup t x i ck) : (qLookup T H t (ρ x) (ρ i) ck).good P H ρ o := by
  unfold qLookup
  split
  case h_2 => trivial
  next k e s1 b1 z1 ht =>
  split
  case h_2 => trivial
  next kk s2 b2 z2 te ki ie hk he hi =>
  split
  case isFalse => trivial
  next hkk =>
  subst hkk
  have g1 := Tab.get_ok hT ht
  have g2 := Tab.get_ok hT hk
  have g3 := Tab.get_ok hT he
  split
  · next hd =>
    intro w E ev hev hwf hH
    have h3 := hev x
    rw [hd] at h3
    have h4 := hev i
    rw [hi] at h4
    generalize hv : ev x = vx at h3
    generalize hvi : ev i = vi at h4
    cases h3
    cases h4
    exact ⟨_, by rw [execOp_lookup ho, hv, hvi]; simp [lookup_runN g1 g2 g3]; rfl, ansM_rep (b := .lit false) (D.ofV_rep _)⟩
  · next b hd =>
    split
    case h_2 => trivial
    next kk' m hb =>
    split
    case isFalse => trivial
    next hkk =>
    subst hkk
    -- what the operation does
    have base : ∀ (w : World) (E : Env) (ev : Operand → Value), (∀ x, DRep w E (ρ x) (ev x)) → E.wf → HRep w E H →
        (m.den ie.den = none ∧ (execOp ev o).run P w = .ok (.value (if ck then .tuple #[te.zero, .bool false] else te.zero)) w) ∨
        ∃ d v, m.den ie.den = some d ∧ DRep w E d v ∧ (execOp ev o).run P w = .ok (.value (if ck then .tuple #[v, .bool true] else v)) w := by
      intro w E ev hev hwf hH
      have h3 := hev x
      rw [hd] at h3
      have h4 := hev i
      rw [hi] at h4
      generalize hv : ev x = vx at h3
      generalize hvi : ev i = vi at h4
      cases h4
      have hbb := hH b _ hb
      cases h3 with
      | @mapr _ _ c hκ hσ =>
        rcases hbb with hbb | ⟨_, hbb, _⟩
        · omega
        · obtain ⟨es, clock, q1, _, _, q4⟩ := hbb c hσ
          rcases map_find q4 ie.den with ⟨f1, f2⟩ | ⟨j, e', d, f1, _, _, f4, f5⟩
          · exact .inl ⟨f1, by rw [execOp_lookup ho, hv, hvi]; simp [lookup_runM g1 g2 g3 q1 f2]⟩
          · exact .inr ⟨d, e'.val, f4, f5.undata hwf, by rw [execOp_lookup ho, hv, hvi]; simp [lookup_runM g1 g2 g3 q1 f1]⟩
      | maps hκ =>
        rcases hbb with hbb | ⟨hbb, _, _⟩
        · omega
        · simp only [Bk.ver] at hbb; omega
    have no : m.den ie.den = none → OpRet P H ρ o (ansM ck (D.ofV te.zero) (.lit false)) := fun hm w E ev hev hwf hH => by
      rcases base w E ev hev hwf hH with ⟨_, h⟩ | ⟨d, v, h, _⟩
      · exact ⟨_, h, ansM_rep (b := .lit false) (D.ofV_rep _)⟩
      · rw [hm] at h; cases h
    have yes : ∀ d, m.den ie.den = some d → OpRet P H ρ o (ansM ck d (.lit true)) := fun d hm w E ev hev hwf hH => by
      rcases base w E ev hev hwf hH with ⟨h, _⟩ | ⟨d', v, h, h2, h3⟩
      · rw [hm] at h; cases h
      · rw [hm] at h; cases h
        exact ⟨_, h3, ansM_rep (b := .lit true) h2⟩
    unfold lookM
    split
    · next es =>
      split
      · exact no rfl
      · next x _ =>
        split
        · next d hf => exact yes d hf
        · next hf => exact no hf
      · trivial
    · next S n =>
      split
      · next hz =>
        show OpRet P H ρ o _
        intro w E ev hev hwf hH
        rcases base w E ev hev hwf hH with ⟨h, h2⟩ | ⟨d', v, h, h2, h3⟩
        · have hS : S ie.den = false := by
            simp only [ME.den] at h
            split at h
            · cases h
            · next q => simpa using q
          rw [hS]
          rw [hz] at h2
          exact ⟨_, h2, ansM_rep (b := .var false) (.bool (e := .var false))⟩
        · have hS : S ie.den = true ∧ d' = .bool (.lit true) := by
            simp only [ME.den] at h
            split at h
            · next q => exact ⟨q, by cases h; rfl⟩
            · cases h
          obtain ⟨hS, rfl⟩ := hS
          rw [hS]
          cases h2
          exact ⟨_, h3, ansM_rep (b := .var true) (.bool (e := .var true))⟩
      · trivial
    · next k' F n =>
      refine ⟨fun hf => no (by simp [ME.den, hf]), fun y hf => yes _ (by simp [ME.den, hf])⟩
  · trivial
end
end Go.Proofs.YtdhfakajlnidiaaGreat
namespace Go.Proofs.YtdhfakajlnidiaaGreat
open Go.RowKit

/-! The operations one by one: equality of arrays of integers, strings out of bytes, slices of own arrays and own rows. -/
def eqDs (k : IntKind) : List D → List D → Option BE
  | [], [] => some (.lit true)
  | .int k1 a :: l, .int k2 b :: m => if k1 = k ∧ k2 = k then (match eqDs k l m with | some e => some (BE.mkAnd (BE.mk2 .eql a b) e) | none => none) else none
  | _, _ => none
def qEqA (T : Tab) (op : BinOp) (t : Nat) (l m : List D) : QR := match T.get t with
  | some ⟨.arr n e, _, _, _⟩ => (match T.get e with
    | some ⟨.int k, sz, _, _⟩ => if sz = 1 ∧ l.length = n then (match eqDs k l m with | some b => retEq op b | none => .stuck) else .stuck
    | _ => .stuck)
  | _ => .stuck
section
variable {P : Program} {T : Tab} {H : List Bk} {ρ : Operand → D} {o : Oper}
theorem eqDs_spec {w : World} {E : Env} {k : IntKind} : ∀ {l m : List D} {b : BE}, eqDs k l m = some b → ∀ {xs ys : List Value}, l.length = xs.length → m.length = ys.length → (∀ (i : Nat) d v, l[i]? = some d → xs[i]? = some v → DRep w E d v) → (∀ (i : Nat) d v, m[i]? = some d → ys[i]? = some v → DRep w E d v) →
    ∃ la lb : List Int, xs = la.map (Value.int k) ∧ ys = lb.map (Value.int k) ∧ la.length = lb.length ∧ b.den = decide (la = lb)
  | [], [], b, h, [], [], _, _, _, _ => by
    simp only [eqDs, Option.some.injEq] at h
    subst h
    exact ⟨[], [], rfl, rfl, rfl, rfl⟩
  | .int k1 a :: l, .int k2 c :: m, b, h, x :: xs, y :: ys, h1, h2, h3, h4 => by
    simp only [eqDs] at h
    split at h
    · next hk =>
      obtain ⟨rfl, rfl⟩ := hk
      split at h
      · next e he =>
        cases h
        obtain ⟨la, lb, q1, q2, q3, q4⟩ := eqDs_spec he (xs := xs) (ys := ys) (by simpa using h1) (by simpa using h2) (fun i d v hd hv => h3 (i + 1) d v (by simpa using hd) (by simpa using hv)) (fun i d v hd hv => h4 (i + 1) d v (by simpa using hd) (by simpa using hv))
        have r1 := h3 0 _ _ rfl rfl
        have r2 := h4 0 _ _ rfl rfl
        cases r1
        cases r2
        refine ⟨a.den :: la, c.den :: lb, by simp [q1], by simp [q2], by simp [q3], ?_⟩
        rw [BE.mkAnd_den, BE.mk2_den, q4]
        simp [cmpDen, List.cons.injEq, Bool.decide_and]
        by_cases q : a.den = c.den <;> simp [q]
      · cases h
    · cases h
  | [], _ :: _, b, h, _, _, _, _, _, _ => by simp [eqDs] at h
  | .int k1 a :: l, .int k2 c :: m, b, h, [], _, h1, _, _, _ => by simp at h1
  | .int k1 a :: l, .int k2 c :: m, b, h, _ :: _, [], _, h2, _, _ => by simp at h2
theorem run_part_int {e : Nat} {k : IntKind} (he : P.underlying e = some (.int k)) (w : World) (xs : Array Value) (i : Nat) (v : Value) (hv : xs[i]? = some v) : (part e xs i).run P w = .ok v w := by
  unfold part
  simp [isAgg, run_underlying he, hv]
theorem run_eqArr {t n e : Nat} {k : IntKind} {ti : TypeInfo} (ht : P.underlying t = some (.array n e)) (he : P.underlying e = some (.int k)) (hi : P.info? e = some ti) (h1 : ti.size = 1) (w : World) (d : Nat) (la lb : List Int) (hl : la.length = n) (hb : lb.length = n) :
    (Op.equalIn (d + 2) t (.agg (la.map (Value.int k)).toArray) (.agg (lb.map (Value.int k)).toArray)).run P w = .ok (decide (la = lb)) w := by
  unfold Op.equalIn
  simp only [Sem.run_bind, run_underlying ht, Result.andThen_ok, sizeOf, typeInfo, run_program, hi, Sem.run_pure, h1, Nat.mul_one]
  rw [Std.Legacy.Range.forIn_eq_forIn_range']
  simp only [Std.Legacy.Range.size, Nat.sub_zero, Nat.add_sub_cancel, Nat.div_one]
  have key : ∀ (f : Nat → Option Bool × PUnit → Sem (ForInStep (Option Bool × PUnit))) (_ : ∀ j r (h1 : j < la.length) (h2 : j < lb.length), (f j r).run P w = .ok (if la[j] = lb[j] then .yield (none, ⟨⟩) else .done (some false, ⟨⟩)) w) (m i : Nat), i + m = n → la.take i = lb.take i →
      ∃ r, (forIn (List.range' i m) ((none, ⟨⟩) : Option Bool × PUnit) f).run P w = .ok r w ∧ (match r.1 with | none => true | some b => b) = decide (la = lb) := by
    intro f hf m
    induction m with
    | zero =>
      intro i h0 h2
      refine ⟨(none, ⟨⟩), by simp, ?_⟩
      rw [List.take_of_length_le (by omega), List.take_of_length_le (by omega)] at h2
      simp [h2]
    | succ m ih =>
      intro i h0 h2
      rw [List.range'_succ, List.forIn_cons]
      simp only [Sem.run_bind, hf i _ (by omega) (by omega), Result.andThen_ok]
      by_cases q : la[i]'(by omega) = lb[i]'(by omega)
      · rw [if_pos q]
        refine ih (i + 1) (by omega) ?_
        rw [List.take_add_one, List.take_add_one, h2, List.getElem?_eq_getElem (by omega), List.getElem?_eq_getElem (by omega), q]
      · rw [if_neg q]
        refine ⟨(some false, ⟨⟩), by simp, ?_⟩
        simp only
        refine (decide_eq_false fun e => q ?_).symm
        subst e
        rfl
  have fin : ∀ (f : Nat → Option Bool × PUnit → Sem (ForInStep (Option Bool × PUnit))) (_ : ∀ j r (h1 : j < la.length) (h2 : j < lb.length), (f j r).run P w = .ok (if la[j] = lb[j] then .yield (none, ⟨⟩) else .done (some false, ⟨⟩)) w) (g : Option Bool × PUnit → World → Result Bool)
      (_ : ∀ r : Option Bool × PUnit, (match r.1 with | none => true | some b => b) = decide (la = lb) → g r w = .ok (decide (la = lb)) w), ((forIn (List.range' 0 n) ((none, ⟨⟩) : Option Bool × PUnit) f).run P w).andThen g = .ok (decide (la = lb)) w := fun f hf g hg => by
    obtain ⟨r, h2, h3⟩ := key f hf n 0 (by omega) rfl
    rw [h2]
    exact hg r h3
  exact fin _ (fun j r h2 h3 => by
    simp only [Sem.run_bind, run_part_int he w (la.map (Value.int k)).toArray j (.int k la[j]) (by simp [h2]), run_part_int he w (lb.map (Value.int k)).toArray j (.int k lb[j]) (by simp [h3]), Result.andThen_ok, run_equalIn_int w d e k k _ _ he]
    by_cases q : la[j] = lb[j] <;> simp [q]) _ (fun r h3 => by
    obtain ⟨r1, r2⟩ := r
    cases r1 with
    | none => simp only at h3 ⊢; rw [Sem.run_pure, ← h3]
    | some b => simp only at h3 ⊢; rw [Sem.run_pure, ← h3])
theorem run_guardArr {t n e : Nat} {k : IntKind} {ti : TypeInfo} (ht : P.underlying t = some (.array n e)) (he : P.underlying e = some (.int k)) (hi : P.info? e = some ti) (h1 : ti.size = 1) (w : World) (d : Nat) (la lb : List Int) (hl : la.length = n) (hb : lb.length = n) :
    (Op.eqGuardIn (d + 2) t (.agg (la.map (Value.int k)).toArray) (.agg (lb.map (Value.int k)).toArray)).run P w = .ok false w := by
  unfold Op.eqGuardIn
  simp only [Sem.run_bind, run_underlying ht, Result.andThen_ok, sizeOf, typeInfo, run_program, hi, Sem.run_pure, h1, Nat.mul_one]
  rw [Std.Legacy.Range.forIn_eq_forIn_range']
  simp only [Std.Legacy.Range.size, Nat.sub_zero, Nat.add_sub_cancel, Nat.div_one]
  have key : ∀ (f : Nat → Option Bool × PUnit → Sem (ForInStep (Option Bool × PUnit))) (_ : ∀ j r (h1 : j < la.length) (h2 : j < lb.length), (f j r).run P w = .ok (.yield (none, ⟨⟩)) w) (m i : Nat), i + m = n →
      (forIn (List.range' i m) ((none, ⟨⟩) : Option Bool × PUnit) f).run P w = .ok (none, ⟨⟩) w := by
    intro f hf m
    induction m with
    | zero => intro i h0; simp
    | succ m ih =>
      intro i h0
      rw [List.range'_succ, List.forIn_cons]
      simp only [Sem.run_bind, hf i _ (by omega) (by omega), Result.andThen_ok]
      exact ih (i + 1) (by omega)
  have fin : ∀ (f : Nat → Option Bool × PUnit → Sem (ForInStep (Option Bool × PUnit))) (_ : ∀ j r (h1 : j < la.length) (h2 : j < lb.length), (f j r).run P w = .ok (.yield (none, ⟨⟩)) w) (g : Option Bool × PUnit → World → Result Bool)
      (_ : g (none, ⟨⟩) w = .ok false w), ((forIn (List.range' 0 n) ((none, ⟨⟩) : Option Bool × PUnit) f).run P w).andThen g = .ok false w := fun f hf g hg => by
    rw [key f hf n 0 (by omega)]
    exact hg
  exact fin _ (fun j r h2 h3 => by
    simp only [Sem.run_bind, run_part_int he w (la.map (Value.int k)).toArray j (.int k la[j]) (by simp [h2]), run_part_int he w (lb.map (Value.int k)).toArray j (.int k lb[j]) (by simp [h3]), Result.andThen_ok]
    simp [Op.eqGuardIn, run_underlying he]) _ (by simp)
theorem qEqA_good (hT : T.ok P) {op : BinOp} {t ty : Nat} {x y : Operand} (ho : o.op = .binOp op t x y ty) {l m : List D} (hx : ρ x = .agg l) (hy : ρ y = .agg m) : (qEqA T op t l m).good P H ρ o := by
  unfold qEqA
  split
  case h_2 => trivial
  next n e s1 b1 z1 ht =>
  split
  case h_2 => trivial
  next k sz b2 z2 hte =>
  split
  case isFalse => trivial
  next hc =>
  obtain ⟨rfl, hln⟩ := hc
  split
  case h_2 => trivial
  next b hb =>
  obtain ⟨ti, d, g1, g2, _, _, _, g6⟩ := TI.of_spec (Tab.get_ok hT ht)
  obtain ⟨ti', d', f1, f2, _, f4, _, f6⟩ := TI.of_spec (Tab.get_ok hT hte)
  have hu : P.underlying t = some (.array n e) := by
    cases d with
    | array n2 e2 => simp only [TK.of, TK.arr.injEq] at g6; rw [g2, g6.1, g6.2]
    | _ => simp [TK.of] at g6
  have hue : P.underlying e = some (.int k) := TI.of_int (Tab.get_ok hT hte)
  refine eq_good ho hx hy fun w E vx vy h1 h2 _ _ => ?_
  cases h1 with | @agg _ _ vs hs hh =>
  cases h2 with | @agg _ _ us hs2 hh2 =>
  obtain ⟨la, lb, q1, q2, q3, q4⟩ := eqDs_spec hb (w := w) (E := E) (xs := vs.toList) (ys := us.toList) (by simpa using hs) (by simpa using hs2) (fun i d v hd hv => hh i d v hd (by simpa using hv)) (fun i d v hd hv => hh2 i d v hd (by simpa using hv))
  have e1 : vs = (la.map (Value.int k)).toArray := by rw [← q1]
  have e2 : us = (lb.map (Value.int k)).toArray := by rw [← q2]
  have hal : la.length = n := by have := congrArg List.length q1; simp at this; omega
  have he1 := run_eqArr hu hue f1 f4 w 9998 la lb hal (by omega)
  rw [← e1, ← e2] at he1
  have hg1 := run_guardArr hu hue f1 f4 w 9998 la lb hal (by omega)
  rw [← e1, ← e2] at hg1
  have hq : (Op.equal t (.agg vs) (.agg us)).run P w = .ok b.den w := by rw [q4]; exact he1
  refine ⟨fun op => ?_, by simp [binOp, hq], by simp [binOp, hq]⟩
  have hgg : (Op.eqGuardIn Op.maxDepth t (.agg vs) (.agg us)).run P w = .ok false w := hg1
  unfold eqGuard
  cases op <;> simp [hgg] <;> (try (split <;> simp [hgg]))
/-- strings out of bytes -/
def byteOf : List D → UInt8
  | [.int _ e] => UInt8.ofNat e.den.toNat
  | _ => 0
def byteD : List D → Bool
  | [.int .u8 _] => true
  | _ => false
def bytesOf {α : Type} (c : α → List D) (l : List α) : ByteArray := ⟨(l.map fun x => byteOf (c x)).toArray⟩
def qStr (T : Tab) (s t : Nat) (x : D) : QR := match T.get s, T.get t with
  | some ⟨.slice e, _, _, _⟩, some ⟨.str, _, _, _⟩ => (match T.get e, x with
    | some ⟨.int .u8, _, _, _⟩, .slm n _ c l => if n = 1 then .req (fun _ => ∀ x ∈ l, byteD (c x) = true) (.lets (fun _ => bytesOf c l) fun s => .str s) else .stuck
    | some ⟨.int .u8, _, _, _⟩, .nils => .ret (.str ⟨#[]⟩)
    | _, _ => .stuck)
  | _, _ => .stuck
theorem qStr_good (hT : T.ok P) {s t : Nat} {x : Operand} (ho : o.op = .convert s t x) : (qStr T s t (ρ x)).good P H ρ o := by
  have hx : ∀ ev : Operand → Value, execOp ev o = (do pure (.value (← convert s t (ev x)))) := fun ev => by unfold execOp; rw [ho]
  unfold qStr
  split
  case h_2 => trivial
  next e s1 b1 z1 s2 b2 z2 hs ht =>
  obtain ⟨ti, d, g1, g2, _, _, _, g6⟩ := TI.of_spec (Tab.get_ok hT hs)
  obtain ⟨ti2, d2, j1, j2, _, _, _, j6⟩ := TI.of_spec (Tab.get_ok hT ht)
  have hu : P.underlying s = some (.slice e) := by
    cases d with
    | slice e2 => simp only [TK.of, TK.slice.injEq] at g6; rw [g2, g6]
    | _ => simp [TK.of] at g6
  have hut : P.underlying t = some .string := by
    cases d2 with
    | string => exact j2
    | _ => simp [TK.of] at j6
  split
  · next s3 b3 z3 α n nb c l hte hd =>
    split
    case isFalse => trivial
    next hn =>
    subst hn
    have hue := TI.of_int (Tab.get_ok hT hte)
    intro hb
    intro w E ev hev hwf hH
    have h3 := hev x
    rw [hd] at h3
    generalize hv : ev x = vx at h3
    cases h3 with | @slm _ _ _ _ _ _ a cap u hnb hc hm hxx ha hh =>
    have one : ∀ i y, l[i]? = some y → ∃ n : Int, u i 0 = .int .u8 n ∧ byteOf (c y) = UInt8.ofNat n.toNat := fun i y hy => by
      have h1 := hb y (List.mem_of_getElem? hy)
      unfold byteD at h1
      split at h1
      · next ee hce =>
        have h2 := hh i y 0 (.int .u8 ee) hy (by rw [hce]; rfl)
        generalize hui : u i 0 = ui at h2
        cases h2
        exact ⟨ee.den, rfl, by rw [hce]; rfl⟩
      · cases h1
    have h63 : (bytesOf c l).size ≤ maxLen := by
      show ((l.map fun x => byteOf (c x)).toArray).size ≤ maxLen
      simp
      omega
    refine ⟨.string (bytesOf c l), ?_, .str h63⟩
    rw [hx, hv]
    by_cases hne : l = []
    · subst hne
      cases a with
      | none => simp [run_convert_bytes_nil w s e hu hue _ _ t hut]; rfl
      | some a =>
        have hlc : (loadCells a 0).run P w = .ok (([] : List Int).map (Value.int .u8)).toArray w := by simp [loadCells, loadCellsFrom]
        have := run_bytesToString (P := P) w a 0 cap [] hlc
        simp [run_convert_bytes_string w s t e _ _ _ hu hue hut, this]
        rfl
    · obtain ⟨b, base, rfl, _, hcell⟩ := ha hne
      have hcs : ∃ xs : List Int, xs.length = l.length ∧ (∀ i, i < l.length → w.cell? ⟨b, base + i, none⟩ = some (.int .u8 (xs.getD i 0))) ∧ strOfNums xs = bytesOf c l := by
        refine ⟨(List.range l.length).map fun i => match u i 0 with | .int _ n => n | _ => 0, by simp, fun i hi => ?_, ?_⟩
        · have h1 := hcell i 0 hi (by omega)
          rw [Nat.mul_one, Nat.add_zero] at h1
          obtain ⟨n, h2, _⟩ := one i _ (List.getElem?_eq_getElem hi)
          rw [h1, h2]
          simp [hi, h2]
        · unfold strOfNums bytesOf
          congr 1
          congr 1
          apply List.ext_getElem (by simp)
          intro i h1 h2
          simp at h1 h2
          obtain ⟨n, h3, h4⟩ := one i _ (List.getElem?_eq_getElem h2)
          simp [h3, h4]
      obtain ⟨xs, q1, q2, q3⟩ := hcs
      simp [run_convert_bytes_arg w s e hu hue b base l.length cap xs q1 q2 t hut, q3]
  · next s3 b3 z3 hte hd =>
    have hue := TI.of_int (Tab.get_ok hT hte)
    intro w E ev hev hwf hH
    have h3 := hev x
    rw [hd] at h3
    generalize hv : ev x = vx at h3
    cases h3
    exact ⟨_, by rw [hx, hv]; simp [run_convert_bytes_nil w s e hu hue _ _ t hut]; rfl, .str (Nat.zero_le _)⟩
  · trivial
end
end Go.Proofs.YtdhfakajlnidiaaGreat
namespace Go.Proofs.YtdhfakajlnidiaaGreat
open Go.RowKit

/-! The operations one by one: arrays of integers as functions; frozen maps; nil checks. -/
def intT (T : Tab) (t : Nat) (k : IntKind) : Bool := match T.get t with | some ⟨.int k', 1, _, _⟩ => decide (k' = k) | _ => false
def arrT (T : Tab) (t : Nat) (k : IntKind) (m : Nat) : Bool := match T.get t with | some ⟨.arr n e, s, _, _⟩ => decide (n = m) && decide (s = m) && intT T e k | _ => false
def qLoad2 (T : Tab) (H : List Bk) (t : Nat) (d : D) : QR := match d with
  | .ap m b i => (match H[b]? with
    | some (.arr k m' f) => if m' = m && intT T t k then .ret (.int k (.at f i)) else .stuck
    | _ => .stuck)
  | .ptr b ver 0 => (match H[b]? with
    | some (.arr k m f) => if ver = 1 && arrT T t k m then .ret (.arr k m f) else .stuck
    | _ => qLoad T H t d)
  | .dpa k m f => if arrT T t k m then .ret (.arr k m f) else .stuck
  | d => qLoad T H t d
def qIdx2 (T : Tab) (H : List Bk) (t : Nat) (x i : D) : QR := match x, i with
  | .dpa k m f, .int _ ie => if arrT T t k m then .reqQ (litLt ie (.lit m)) (fun _ => 0 ≤ ie.den ∧ ie.den < m) (.ret (.dp [.int k (.at f ie)] 0)) else .stuck
  | .ptr b ver 0, .int k' ie => (match H[b]? with
    | some (.arr k m _) => if ver = 1 && arrT T t k m then .reqQ (litLt ie (.lit m)) (fun _ => 0 ≤ ie.den ∧ ie.den < m) (.ret (.ap m b ie)) else .stuck
    | _ => qIndexAddr T H t x i)
  | x, i => qIndexAddr T H t x i
def qLookup2 (T : Tab) (H : List Bk) (t : Nat) (x i : D) (ck : Bool) : QR := match x with
  | .mapd kk k F _ => (match T.get t, i with
    | some ⟨.map tk e, _, _, _⟩, .int ki ie => (match T.get tk, T.get e with
      | some ⟨.int kk', _, _, _⟩, some te => if kk' = kk ∧ ki = kk then .leto (fun _ => F ie.den) (ansM ck (D.ofV te.zero) (.lit false)) (fun y => ansM ck (.int k (.var y)) (.lit true)) else .stuck
      | _, _ => .stuck)
    | _, _ => .stuck)
  | .mg kk F _ => (match T.get t, i with
    | some ⟨.map tk e, _, _, _⟩, .int ki ie => (match T.get tk, T.get e with
      | some ⟨.int kk', _, _, _⟩, some te => if kk' = kk ∧ ki = kk then .letd (fun _ => F ie.den) (ansM ck (D.ofV te.zero) (.lit false)) (fun d => ansM ck d (.lit true)) else .stuck
      | _, _ => .stuck)
    | _, _ => .stuck)
  | _ => qLookup T H t x i ck
def qNil (H : List Bk) (d : D) : QR := match d with
  | .ptr b ver _ => if Bk.at H b ver then .ret d else .stuck
  | .rp _ b ver _ _ => if Bk.at H b ver then .ret d else .stuck
  | .ap _ b _ => if Bk.at H b 1 then .ret d else .stuck
  | .dp _ _ | .dpa _ _ _ => .ret d
  | _ => .stuck
section
variable {P : Program} {T : Tab} {H : List Bk} {ρ : Operand → D} {o : Oper}
theorem intT_spec (hT : T.ok P) {t : Nat} {k : IntKind} (h : intT T t k = true) : ∃ ti, TI.of P t = some ti ∧ ti.kind.agg = false ∧ ti.size = 1 ∧ P.underlying t = some (.int k) := by
  unfold intT at h
  split at h
  · next k' b z he =>
    simp only [decide_eq_true_eq] at h
    subst h
    exact ⟨_, Tab.get_ok hT he, rfl, rfl, TI.of_int (Tab.get_ok hT he)⟩
  · cases h
theorem arrT_spec (hT : T.ok P) {t : Nat} {k : IntKind} {m : Nat} (h : arrT T t k m = true) : ∃ ti e te, TI.of P t = some ti ∧ ti.kind = .arr m e ∧ ti.size = m ∧ P.underlying t = some (.array m e) ∧ TI.of P e = some te ∧ te.size = 1 ∧ P.underlying e = some (.int k) := by
  unfold arrT at h
  split at h
  · next n e s b z he =>
    simp only [Bool.and_eq_true, decide_eq_true_eq] at h
    obtain ⟨⟨rfl, rfl⟩, h⟩ := h
    obtain ⟨te, h1, h2, h3, h4⟩ := intT_spec hT h
    refine ⟨_, e, te, Tab.get_ok hT he, rfl, rfl, ?_, h1, h3, h4⟩
    obtain ⟨ti, d, g1, g2, _, _, _, g6⟩ := TI.of_spec (Tab.get_ok hT he)
    cases d with
    | array n' e' =>
      simp only [TK.of, TK.arr.injEq] at g6
      obtain ⟨rfl, rfl⟩ := g6
      exact g2
    | _ => simp [TK.of] at g6
  · cases h
theorem arr_at {w : World} {E : Env} {b : Nat} {k : IntKind} {m : Nat} {f : Nat → Int} (hH : HRep w E H) (hb : H[b]? = some (.arr k m f)) {c : Nat} (hk : E.κ b = 1) (hs : E.σ b = some c) : ∀ i, i < m → w.cell? ⟨c, i, none⟩ = some (.int k (f i)) ∧ InR k (f i) := by
  intro i hi
  rcases hH b _ hb with q | ⟨_, q, _⟩
  · omega
  · obtain ⟨cs, t, h1, h2, h3, h4⟩ := q c hs
    obtain ⟨h5, h6⟩ := h4 i hi
    exact ⟨by simp [World.cell?, h1, h5], h6⟩
/-- a whole array that is read -/
theorem load_arr (hT : T.ok P) {t : Nat} {k : IntKind} {m : Nat} {f : Nat → Int} (ht : arrT T t k m = true) {w : World} {E : Env} {b base : Nat} (h : ∀ i, i < m → w.cell? ⟨b, base + i, none⟩ = some (.int k (f i)) ∧ InR k (f i)) :
    ∃ v, (Instr.loadAt t (.pointer (some ⟨b, base, none⟩))).run P w = .ok v w ∧ DRep w E (.arr k m f) v := by
  obtain ⟨ti, e, te, h1, h2, h3, _⟩ := arrT_spec hT ht
  have hrun := run_load_ti (w := w) h1 (b := b) (o := base) (cs := (List.range m).map fun i => Value.int k (f i)) (fun j v hv => by
    simp only [List.getElem?_map, Option.map_eq_some_iff] at hv
    obtain ⟨i, hi, rfl⟩ := hv
    obtain ⟨hi1, hi2⟩ := List.getElem?_eq_some_iff.1 hi
    simp at hi1 hi2
    subst hi2
    exact (h j hi1).1) (by simp [h3]) (fun ha => by rw [h2] at ha; cases ha)
  rw [h2] at hrun
  refine ⟨_, hrun, ?_⟩
  rw [if_pos (show (TK.arr m e).agg = true from rfl)]
  exact .arr (by simp) fun i hi => ⟨by simp [hi], (h i hi).2⟩
theorem qLoad2_good (hT : T.ok P) {t : Nat} {a : Operand} (ho : o.op = .load t a) : (qLoad2 T H t (ρ a)).good P H ρ o := by
  have h0 := qLoad_good (H := H) (ρ := ρ) hT ho
  unfold qLoad2
  split
  · next m b i hd =>
    split
    · next k m' f hb =>
      split
      · next hc =>
        simp only [Bool.and_eq_true, decide_eq_true_eq] at hc
        obtain ⟨rfl, hc⟩ := hc
        obtain ⟨ti, h1, h2, h3, _⟩ := intT_spec hT hc
        intro w E ev hev hwf hH
        have hva := hev a
        rw [hd] at hva
        generalize hv : ev a = va at hva
        cases hva with
        | @ap _ _ _ _ c hk hs hi =>
          obtain ⟨h4, h5⟩ := arr_at hH hb hk hs i.den.toNat (by omega)
          have hrun := run_load_ti (w := w) h1 (b := c) (o := i.den.toNat) (cs := [.int k (f i.den.toNat)]) (fun j v hv => by
            cases j with
            | zero => simp at hv; subst hv; exact h4
            | succ j => simp at hv) (by simp [h3]) (fun _ => by omega)
          rw [h2] at hrun
          exact ⟨_, by rw [execOp_load ho, hv]; simp [hrun]; rfl, .int (e := .at f i) h5⟩
        | aps hk =>
          rcases hH b _ hb with q | ⟨q, _⟩
          · omega
          · simp only [Bk.ver] at q; omega
      · trivial
    · trivial
  · next b ver hd =>
    split
    · next k m f hb =>
      split
      · next hc =>
        simp only [Bool.and_eq_true, decide_eq_true_eq] at hc
        obtain ⟨rfl, hc⟩ := hc
        intro w E ev hev hwf hH
        have hva := hev a
        rw [hd] at hva
        obtain ⟨c, hk, hs, hv⟩ := ptr_at (by unfold Bk.at; rw [hb]; simp) hH hva
        obtain ⟨v, h1, h2⟩ := load_arr (w := w) (E := E) hT hc (b := c) (base := 0) (f := f) (fun i hi => by rw [Nat.zero_add]; exact arr_at hH hb hk hs i hi)
        exact ⟨v, by rw [execOp_load ho, hv]; simp [h1], h2⟩
      · trivial
    · exact hd ▸ h0
  · next k m f hd =>
    split
    · next hc =>
      intro w E ev hev hwf hH
      have hva := hev a
      rw [hd] at hva
      generalize hv : ev a = va at hva
      cases hva with | @dpa _ _ _ _ c base hg h =>
      obtain ⟨v, h1, h2⟩ := load_arr (w := w) (E := E) hT hc (b := c) (base := base) (f := f) h
      exact ⟨v, by rw [execOp_load ho, hv]; simp [h1], h2⟩
    · trivial
  · exact h0
theorem run_index_arr (hT : T.ok P) {t : Nat} {k : IntKind} {m : Nat} (ht : arrT T t k m = true) {k' : IntKind} {n : Int} {c off : Nat} {w : World} (h0 : 0 ≤ n) (h1 : n < m) :
    (Instr.indexAt t (.pointer (some ⟨c, off, none⟩)) (.int k' n)).run P w = .ok (.pointer (some ⟨c, off + n.toNat, none⟩)) w := by
  obtain ⟨ti, e, te, _, _, _, g2, h4, h5, _⟩ := arrT_spec hT ht
  obtain ⟨ti', d', f1, f2, _, f4, _, f6⟩ := TI.of_spec h4
  rw [h5] at f4
  simp [Instr.indexAt, asIntOf, run_underlying g2, Instr.sureAddr, h0, h1, sizeOf, typeInfo, f1, f4, Addr.add_mid]
theorem qIdx2_good (hT : T.ok P) {t : Nat} {x i : Operand} (ho : o.op = .indexAddr t x i) : (qIdx2 T H t (ρ x) (ρ i)).good P H ρ o := by
  have h0 := qIndexAddr_good (H := H) (ρ := ρ) hT ho
  have hx : ∀ ev : Operand → Value, execOp ev o = (do pure (.value (← Instr.indexAt t (ev x) (ev i)))) := fun ev => by unfold execOp; rw [ho]
  have hint : ∀ {k ie} (_ : ρ i = .int k ie) {w : World} {E : Env} {ev : Operand → Value}, (∀ x, DRep w E (ρ x) (ev x)) → ev i = .int k ie.den := fun {k ie} hi {w E ev} hev => by
    have := hev i
    rw [hi] at this
    generalize ev i = vi at this
    cases this
    rfl
  unfold qIdx2
  split
  · next k m f k' ie hd hi =>
    split
    · next hc =>
      refine QR.reqQ_good litLt_spec fun hbd => ?_
      intro w E ev hev hwf hH
      have hva := hev x
      rw [hd] at hva
      generalize hv : ev x = va at hva
      cases hva with | @dpa _ _ _ _ c base hg h =>
      have hrun := run_index_arr (w := w) hT hc (k' := k') (c := c) (off := base) hbd.1 hbd.2
      refine ⟨.pointer (some ⟨c, base + ie.den.toNat, none⟩), by rw [hx, hv, hint hi hev]; simp [hrun], ?_⟩
      have hlt : ie.den.toNat < m := by omega
      have := DRep.dp (w := w) (E := E) (cells := [.int k (.at f ie)]) (off := 0) (b := c) (base := base + ie.den.toNat) (fun _ => .int k (f ie.den.toNat)) hg (fun j hj => by
        have : j = 0 := by simpa using hj
        subst this
        exact (h _ hlt).1) (fun j d hd => by
        cases j with
        | zero => simp at hd; subst hd; exact .int (e := .at f ie) (h _ hlt).2
        | succ j => simp at hd)
      simpa using this
    · trivial
  · next b ver k' ie hd hi =>
    split
    · next k m f hb =>
      split
      · next hc =>
        simp only [Bool.and_eq_true, decide_eq_true_eq] at hc
        obtain ⟨rfl, hc⟩ := hc
        refine QR.reqQ_good litLt_spec fun hbd => ?_
        intro w E ev hev hwf hH
        have hva := hev x
        rw [hd] at hva
        obtain ⟨c, hk, hs, hv⟩ := ptr_at (by unfold Bk.at; rw [hb]; simp) hH hva
        have hrun := run_index_arr (w := w) hT hc (k' := k') (c := c) (off := 0) hbd.1 hbd.2
        exact ⟨.pointer (some ⟨c, 0 + ie.den.toNat, none⟩), by rw [hx, hv, hint hi hev]; simp [hrun], by rw [Nat.zero_add]; exact .ap hk hs hbd⟩
      · trivial
    · exact h0
  · exact h0
theorem qLookup2_good (hT : T.ok P) {t : Nat} {x i : Operand} {ck : Bool} (ho : o.op = .lookup t x i ck) : (qLookup2 T H t (ρ x) (ρ i) ck).good P H ρ o := by
  unfold qLookup2
  split
  · next kk k F n hd =>
    split
    case h_2 => trivial
    next tk e s1 b1 z1 ki ie ht hi =>
    split
    case h_2 => trivial
    next kk' s2 b2 z2 te hk he =>
    split
    case isFalse => trivial
    next hkk =>
    obtain ⟨hk1, hk2⟩ := hkk
    subst hk1
    subst hk2
    have g1 := Tab.get_ok hT ht
    have g2 := Tab.get_ok hT hk
    have g3 := Tab.get_ok hT he
    have base : ∀ (w : World) (E : Env) (ev : Operand → Value), (∀ x, DRep w E (ρ x) (ev x)) → E.wf → HRep w E H →
        (F ie.den = none ∧ (execOp ev o).run P w = .ok (.value (if ck then .tuple #[te.zero, .bool false] else te.zero)) w) ∨
        ∃ y, F ie.den = some y ∧ InR k y ∧ (execOp ev o).run P w = .ok (.value (if ck then .tuple #[.int k y, .bool true] else .int k y)) w := by
      intro w E ev hev hwf hH
      have h3 := hev x
      rw [hd] at h3
      have h4 := hev i
      rw [hi] at h4
      generalize hv : ev x = vx at h3
      generalize hvi : ev i = vi at h4
      cases h4
      cases h3 with | @mapd _ _ _ _ _ c es clock hg hb hn hm hvv hh ha hc =>
      have mk : MapOK w E.data ki es.toList clock (fun z => (F z).map fun y => .int k (.var y)) := ⟨fun e he => by
        obtain ⟨x, y, q1, q2, q3, q4, q5⟩ := hvv e he
        exact ⟨x, _, q1, q2, by rw [q3]; rfl, by rw [q5]; exact .int (e := .var y) q4⟩, fun z d hz => by
        cases hF : F z with
        | none => rw [hF] at hz; cases hz
        | some y => exact hh z y hF, ha, hc⟩
      rcases map_find mk ie.den with ⟨f1, f2⟩ | ⟨j, e', d, f1, f2, f3, f4, f5⟩
      · refine .inl ⟨?_, by rw [execOp_lookup ho, hv, hvi]; simp [lookup_runM g1 g2 g3 hb f2]⟩
        cases hF : F ie.den with
        | none => rfl
        | some y => rw [hF] at f1; cases f1
      · obtain ⟨x2, y, q1, q2, q3, q4, q5⟩ := hvv e' (List.mem_of_getElem? f2)
        rw [f3] at q1
        obtain rfl : ie.den = x2 := by simpa using q1
        refine .inr ⟨y, q3, q4, ?_⟩
        rw [execOp_lookup ho, hv, hvi]
        rw [q5] at f1
        simp [lookup_runM g1 g2 g3 hb f1]
    refine ⟨fun hF w E ev hev hwf hH => ?_, fun y hF w E ev hev hwf hH => ?_⟩ <;> (first | replace hF : F ie.den = none := hF | replace hF : F ie.den = some y := hF)
    · rcases base w E ev hev hwf hH with ⟨_, h⟩ | ⟨y, h, _⟩
      · exact ⟨_, h, ansM_rep (b := .lit false) (D.ofV_rep _)⟩
      · rw [hF] at h; cases h
    · rcases base w E ev hev hwf hH with ⟨h, _⟩ | ⟨y', h, h2, h3⟩
      · rw [hF] at h; cases h
      · rw [hF] at h; cases h
        exact ⟨_, h3, ansM_rep (b := .lit true) (.int (e := .var y) h2)⟩
  · next kk F n hd =>
    split
    case h_2 => trivial
    next tk e s1 b1 z1 ki ie ht hi =>
    split
    case h_2 => trivial
    next kk' s2 b2 z2 te hk he =>
    split
    case isFalse => trivial
    next hkk =>
    obtain ⟨hk1, hk2⟩ := hkk
    subst hk1
    subst hk2
    have g1 := Tab.get_ok hT ht
    have g2 := Tab.get_ok hT hk
    have g3 := Tab.get_ok hT he
    have base : ∀ (w : World) (E : Env) (ev : Operand → Value), (∀ x, DRep w E (ρ x) (ev x)) → E.wf → HRep w E H →
        (F ie.den = none ∧ (execOp ev o).run P w = .ok (.value (if ck then .tuple #[te.zero, .bool false] else te.zero)) w) ∨
        ∃ d u, F ie.den = some d ∧ DRep w E d u ∧ (execOp ev o).run P w = .ok (.value (if ck then .tuple #[u, .bool true] else u)) w := by
      intro w E ev hev hwf hH
      have h3 := hev x
      rw [hd] at h3
      have h4 := hev i
      rw [hi] at h4
      generalize hv : ev x = vx at h3
      generalize hvi : ev i = vi at h4
      cases h4
      cases h3 with | @mg _ _ _ _ c es clock hg hb hn hm hkk hh ha hc hvv =>
      have mk : MapOK w E.data ki es.toList clock F := ⟨fun e he => by
        obtain ⟨x, d, q1, q2, q3⟩ := hkk e he
        exact ⟨x, d, q1, q2, q3, hvv e x d he q1 q3⟩, hh, ha, hc⟩
      rcases map_find mk ie.den with ⟨f1, f2⟩ | ⟨j, e', d, f1, f2, f3, f4, f5⟩
      · exact .inl ⟨f1, by rw [execOp_lookup ho, hv, hvi]; simp [lookup_runM g1 g2 g3 hb f2]⟩
      · exact .inr ⟨d, e'.val, f4, f5.undata hwf, by rw [execOp_lookup ho, hv, hvi]; simp [lookup_runM g1 g2 g3 hb f1]⟩
    refine ⟨fun hF w E ev hev hwf hH => ?_, fun y hF w E ev hev hwf hH => ?_⟩ <;> (first | replace hF : F ie.den = none := hF | replace hF : F ie.den = some y := hF)
    · rcases base w E ev hev hwf hH with ⟨_, h⟩ | ⟨d, u, h, _⟩
      · exact ⟨_, h, ansM_rep (b := .lit false) (D.ofV_rep _)⟩
      · rw [hF] at h; cases h
    · rcases base w E ev hev hwf hH with ⟨h, _⟩ | ⟨d, u, h, h2, h3⟩
      · rw [hF] at h; cases h
      · rw [hF] at h; cases h
        exact ⟨_, h3, ansM_rep (b := .lit true) h2⟩
  · exact qLookup_good hT ho
theorem qNil_good {x : Operand} (ho : o.op = .nilCheck x) : (qNil H (ρ x)).good P H ρ o := by
  have key : (∀ (w : World) (E : Env) (v : Value), DRep w E (ρ x) v → E.wf → HRep w E H → ∃ a, v = .pointer (some a)) → OpRet P H ρ o (ρ x) := fun hp w E ev hev hwf hH => by
    obtain ⟨a, ha⟩ := hp w E _ (hev x) hwf hH
    exact ⟨ev x, by unfold execOp; rw [ho]; simp [ha], hev x⟩
  unfold qNil
  split
  · next b ver off hd =>
    split
    · next hat =>
      refine key fun w E v hv hwf hH => ?_
      rw [hd] at hv
      obtain ⟨c, _, _, h⟩ := ptr_at hat hH hv
      exact ⟨_, h⟩
    · trivial
  · next n b ver i off hd =>
    split
    · next hat =>
      refine key fun w E v hv hwf hH => ?_
      rw [hd] at hv
      obtain ⟨c, _, _, _, h⟩ := rp_at hat hH hv
      exact ⟨_, h⟩
    · trivial
  · next m b i hd =>
    split
    · next hat =>
      refine key fun w E v hv hwf hH => ?_
      rw [hd] at hv
      cases hv with
      | ap hk hs hi => exact ⟨_, rfl⟩
      | aps hk => rcases at_spec hat hH with q | q <;> omega
    · trivial
  · next hd =>
    refine key fun w E v hv hwf hH => ?_
    rw [hd] at hv
    cases hv
    exact ⟨_, rfl⟩
  · next hd =>
    refine key fun w E v hv hwf hH => ?_
    rw [hd] at hv
    cases hv
    exact ⟨_, rfl⟩
  · trivial
/-- interface values -/
def qIface (T : Tab) (t : Nat) (x : D) : QR := match T.get t with
  | some ti => (match ti.kind with
    | .other => .stuck
    | _ => .ret (.ifc t x))
  | none => .stuck
def qAssert (T : Tab) (u : Nat) (ck : Bool) (x : D) : QR := match x, T.get u with
  | .ifc t d, some ti => (match ti.kind with
    | .other => .stuck
    | _ => if t = u then .ret (ansM ck d (.lit true)) else .stuck)
  | _, _ => .stuck
theorem kind_iface {P : Program} {t : Nat} {ti : TI} (h : TI.of P t = some ti) (hk : ti.kind ≠ .other) : ∃ d, P.underlying t = some d ∧ ∀ ms, d ≠ .interface ms := by
  obtain ⟨i, d, _, g2, _, _, _, g6⟩ := TI.of_spec h
  refine ⟨d, g2, fun ms e => hk ?_⟩
  subst e
  rw [g6]
  rfl
theorem qIface_good (hT : T.ok P) {t : Nat} {x : Operand} (ho : o.op = .makeInterface t x) : (qIface T t (ρ x)).good P H ρ o := by
  unfold qIface
  split
  · next ti ht =>
    split
    · trivial
    · next hk =>
      obtain ⟨d, h1, h2⟩ := kind_iface (Tab.get_ok hT ht) hk
      intro w E ev hev hwf hH
      refine ⟨.iface t (ev x), ?_, .ifc (hev x)⟩
      unfold execOp
      rw [ho]
      cases d with
      | interface ms => exact absurd rfl (h2 ms)
      | _ => simp [Instr.makeInterface, run_underlying h1]
  · trivial
theorem qAssert_good (hT : T.ok P) {t u : Nat} {ck : Bool} {x : Operand} (ho : o.op = .typeAssert x t u ck) : (qAssert T u ck (ρ x)).good P H ρ o := by
  unfold qAssert
  split
  · next t' d ti hd ht =>
    split
    · trivial
    · next hk =>
      split
      case isFalse => trivial
      next e =>
      subst e
      obtain ⟨dd, h1, h2⟩ := kind_iface (Tab.get_ok hT ht) hk
      intro w E ev hev hwf hH
      have h3 := hev x
      rw [hd] at h3
      generalize hv : ev x = vx at h3
      cases h3 with | @ifc _ _ _ v hr =>
      refine ⟨_, ?_, ansM_rep (ck := ck) (b := .lit true) hr⟩
      have hx : execOp ev o = (do pure (.value (← Instr.typeAssert (ev x) t t' ck))) := by unfold execOp; rw [ho]
      rw [hx, hv]
      cases dd with
      | interface ms => exact absurd rfl (h2 ms)
      | _ => cases ck <;> simp [Instr.typeAssert, run_underlying h1, BE.den]
  · trivial
end
end Go.Proofs.YtdhfakajlnidiaaGreat
