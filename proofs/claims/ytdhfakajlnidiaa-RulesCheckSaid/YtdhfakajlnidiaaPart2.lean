/- Part 2 of the walks and laws that these claims rest on. No condition. -/
import Derived.Test.YtdhfakajlnidiaaPart1
set_option linter.all false
set_option linter.unusedSimpArgs false
set_option linter.unusedVariables false
set_option linter.unnecessarySimpa false
namespace Go.Proofs.Ytdhfakajlnidiaa
open Go.RowKit

/-! The operations one by one: what lays new blocks; literals. -/
def D.dataB : Nat → D → Bool
  | 0, _ => false
  | n + 1, d => match d with
    | .agg l | .tup l => l.all (D.dataB n)
    | .ptr .. | .rp .. | .osl .. | .mapr _ | .ap .. => false
    | .fn _ a b => a.all (D.dataB n) && b.all (D.dataB n)
    | .ifc _ e => D.dataB n e
    | _ => true
theorem D.dataB_rep {w : World} {E E' : Env} (hG : E'.G = E.G) : ∀ (n : Nat) {d : D} {v : Value}, d.dataB n = true → DRep w E d v → DRep w E' d v
  | 0, _, _, h, _ => by cases h
  | n + 1, d, v, h, hr => by
    have ed : E'.data = E.data := by unfold Env.data; rw [hG]
    cases hr with
    | junk => exact .junk
    | int h' => exact .int h'
    | bool => exact .bool
    | str h' => exact .str h'
    | agg hs hh =>
      simp only [D.dataB, List.all_eq_true] at h
      exact .agg hs fun i d v h1 h2 => D.dataB_rep hG n (h d (List.mem_of_getElem? h1)) (hh i d v h1 h2)
    | tup hs hh =>
      simp only [D.dataB, List.all_eq_true] at h
      exact .tup hs fun i d v h1 h2 => D.dataB_rep hG n (h d (List.mem_of_getElem? h1)) (hh i d v h1 h2)
    | nils => exact .nils
    | slm u hnb hc hm hx ha hh => exact .slm u hnb hc hm hx (by rw [hG]; exact ha) (by rw [ed]; exact hh)
    | sll u hc hm hx ha hh => exact .sll u hc hm hx (by rw [hG]; exact ha) (by rw [ed]; exact hh)
    | dp u hg hu hh => exact .dp u (by rw [hG]; exact hg) hu (by rw [ed]; exact hh)
    | ptr => cases h
    | ptrs => cases h
    | rp => cases h
    | rps => cases h
    | nilp => exact .nilp
    | oslc => cases h
    | osln => cases h
    | osls => cases h
    | mapr => cases h
    | maps => cases h
    | nilm => exact .nilm
    | fn hs0 hs1 h0 h1 =>
      simp only [D.dataB, Bool.and_eq_true, List.all_eq_true] at h
      exact .fn hs0 hs1 (fun i d v h2 h3 => D.dataB_rep hG n (h.1 d (List.mem_of_getElem? h2)) (h0 i d v h2 h3)) (fun i d v h2 h3 => D.dataB_rep hG n (h.2 d (List.mem_of_getElem? h2)) (h1 i d v h2 h3))
    | nilf => exact .nilf
    | nilI => exact .nilI
    | arr hs hh => exact .arr hs hh
    | dpa hg hh => exact .dpa (by rw [hG]; exact hg) hh
    | mapd hg hb hn hm hv hh ha hc => exact .mapd (by rw [hG]; exact hg) hb hn hm hv hh ha hc
    | ap => cases h
    | aps => cases h
    | mg hg hb hn hm hk hh ha hc hv => exact .mg (by rw [hG]; exact hg) hb hn hm hk hh ha hc (by rw [ed]; exact hv)
    | ifc hh => simp only [D.dataB] at h; exact .ifc (D.dataB_rep hG n h hh)
    | svl => exact .svl
def fillD (place : Nat → Option (Nat × Nat)) (cells : List D) : List (Nat × D) → Option (List D)
  | [] => some cells
  | (i, d) :: rest => match place i, d.cells with
    | some (off, size), some l => if l.length = size ∧ off + size ≤ cells.length then fillD place (over cells off l) rest else none
    | _, _ => none
/-- cells that stand for symbolic cells -/
def CRep (w : World) (E : Env) (l : List D) (cs : Array Value) : Prop := cs.size = l.length ∧ ∀ (i : Nat) d, l[i]? = some d → ∃ v, cs[i]? = some v ∧ DRep w E d v
theorem foldl_set (vs : List Value) : ∀ (off k : Nat) (cs : Array Value), (vs.zipIdx k).foldl (fun cs (c, j) => cs.setIfInBounds (off + j) c) cs = (vs.zipIdx (off + k)).foldl (fun cs (c, j) => cs.setIfInBounds j c) cs := by
  induction vs with
  | nil => intros; rfl
  | cons v vs ih => intro off k cs; simp only [List.zipIdx_cons, List.foldl_cons]; rw [ih off (k + 1)]; rfl
theorem foldl_set_get (vs : List Value) : ∀ (k : Nat) (cs : Array Value) (i : Nat), ((vs.zipIdx k).foldl (fun cs (c, j) => cs.setIfInBounds j c) cs).size = cs.size ∧
    (i < cs.size → ((vs.zipIdx k).foldl (fun cs (c, j) => cs.setIfInBounds j c) cs)[i]? = if k ≤ i ∧ i < k + vs.length then vs[i - k]? else cs[i]?) := by
  induction vs with
  | nil => intro k cs i; refine ⟨rfl, fun _ => ?_⟩; simp; omega
  | cons v vs ih =>
    intro k cs i
    simp only [List.zipIdx_cons, List.foldl_cons]
    obtain ⟨h1, h2⟩ := ih (k + 1) (cs.setIfInBounds k v) i
    refine ⟨by rw [h1]; simp, fun hi => ?_⟩
    rw [h2 (by simpa using hi)]
    by_cases e : i = k
    · subst e
      rw [if_neg (by omega), if_pos (by simp)]
      simp [hi]
    · by_cases h3 : k + 1 ≤ i ∧ i < k + 1 + vs.length
      · rw [if_pos h3, if_pos (by simp; omega)]
        rw [show i - k = (i - (k + 1)) + 1 by omega, List.getElem?_cons_succ]
      · rw [if_neg h3, if_neg (by simp; omega)]
        rw [Array.getElem?_setIfInBounds_ne (by omega)]
theorem CRep.over {w : World} {E : Env} {l m : List D} {cs : Array Value} {v : Value} (h : CRep w E l cs) (off : Nat) (hm : v.cells.size = m.length) (hv : ∀ (i : Nat) e, m[i]? = some e → ∃ u, v.cells[i]? = some u ∧ DRep w E e u) (hle : off + m.length ≤ l.length) :
    CRep w E (over l off m) (v.cells.zipIdx.foldl (fun cs (c, j) => cs.setIfInBounds (off + j) c) cs) := by
  have e1 : v.cells.zipIdx.foldl (fun cs (c, j) => cs.setIfInBounds (off + j) c) cs = (v.cells.toList.zipIdx off).foldl (fun cs (c, j) => cs.setIfInBounds j c) cs := by
    rw [← Array.foldl_toList, Array.toList_zipIdx, foldl_set, Nat.add_zero]
  rw [e1]
  have hl : (Go.Proofs.Ytdhfakajlnidiaa.over l off m).length = l.length := by simp [Go.Proofs.Ytdhfakajlnidiaa.over]; omega
  refine ⟨by rw [(foldl_set_get _ _ _ 0).1, h.1, hl], fun i d hd => ?_⟩
  have hi : i < l.length := by rw [← hl]; exact (List.getElem?_eq_some_iff.1 hd).1
  rw [(foldl_set_get _ _ _ i).2 (by rw [h.1]; exact hi)]
  simp only [Array.length_toList, hm]
  unfold Go.Proofs.Ytdhfakajlnidiaa.over at hd
  rw [List.append_assoc] at hd
  by_cases h1 : i < off
  · rw [if_neg (by omega)]
    rw [List.getElem?_append_left (by simp; omega), List.getElem?_take, if_pos h1] at hd
    exact h.2 i d hd
  · rw [List.getElem?_append_right (by simp; omega)] at hd
    have e2 : i - (List.take off l).length = i - off := by simp; omega
    rw [e2] at hd
    by_cases h2 : i < off + m.length
    · rw [if_pos ⟨by omega, h2⟩]
      rw [List.getElem?_append_left (by omega)] at hd
      obtain ⟨u, h3, h4⟩ := hv (i - off) d hd
      exact ⟨u, by rw [Array.getElem?_toList]; exact h3, h4⟩
    · rw [if_neg (by omega)]
      rw [List.getElem?_append_right (by omega), List.getElem?_drop] at hd
      rw [show off + m.length + (i - off - m.length) = i by omega] at hd
      exact h.2 i d hd
theorem fill_rep {w : World} {E : Env} {place : Nat → Option (Nat × Nat)} : ∀ (ps : List (Nat × D)) (qs : List (Nat × Value)) (l r : List D) (cs : Array Value), ps.length = qs.length → (∀ (i : Nat) p q, ps[i]? = some p → qs[i]? = some q → p.1 = q.1 ∧ DRep w E p.2 q.2) →
    CRep w E l cs → fillD place l ps = some r → ∃ rs, Instr.fill place cs qs = some rs ∧ CRep w E r rs
  | [], [], l, r, cs, _, _, hc, hr => by
    simp only [fillD, Option.some.injEq] at hr
    subst hr
    exact ⟨cs, rfl, hc⟩
  | [], q :: qs, _, _, _, hl, _, _, _ => by simp at hl
  | p :: ps, [], _, _, _, hl, _, _, _ => by simp at hl
  | (i, d) :: ps, (j, v) :: qs, l, r, cs, hl, hh, hc, hr => by
    obtain ⟨e, hd⟩ := hh 0 _ _ rfl rfl
    simp only at e hd
    subst e
    unfold fillD at hr
    split at hr
    · next off size m h1 h2 =>
      split at hr
      · next h3 =>
        obtain ⟨h4, h5⟩ := hd.cells h2
        have hc' := hc.over off h4 h5 (by omega)
        obtain ⟨rs, h6, h7⟩ := fill_rep ps qs _ r _ (by simpa using hl) (fun i p q hp hq => hh (i + 1) p q (by simpa using hp) (by simpa using hq)) hc' hr
        refine ⟨rs, ?_, h7⟩
        unfold Instr.fill
        simp only [h1]
        rw [if_neg (by rw [h4, hc.1]; simp; omega)]
        exact h6
      · cases hr
    · cases hr
def qAlloc (T : Tab) (t : Nat) : QR := match T.get t with
  | some ti => (match (D.ofV ti.zero).cells with | some l => .newc l | none => .stuck)
  | none => .stuck
def qBox (x : D) : QR := match x.cells with | some l => .newc l | none => .stuck
def fieldP (fs : List (Nat × Nat × Bool)) (i : Nat) : Option (Nat × Nat) := match fs[i]? with | some (o, s, _) => some (o, s) | none => none
def qBuild (T : Tab) (t : Nat) (ps : List (Nat × D)) : QR := match T.get t with
  | some ⟨.struct fs, _, _, z⟩ => (match (D.ofV z).cells with
    | some l => (match fillD (fieldP fs) l ps with | some r => .ret (.agg r) | none => .stuck)
    | none => .stuck)
  | some ⟨.arr _ e, _, _, z⟩ => (match (D.ofV z).cells, T.get e with
    | some l, some te => (match fillD (fun i => some (i * te.size, te.size)) l ps with | some r => .ret (.agg r) | none => .stuck)
    | _, _ => .stuck)
  | _ => .stuck
def chunk (n : Nat) (l : List D) (len : Nat) : List (List D) := (List.range len).map fun i => (l.drop (i * n)).take n
def qEmpty (T : Tab) (t : Nat) : QR := match T.get t with
  | some ⟨.slice e, _, _, _⟩ => (match T.get e with
    | some te => if 0 < te.size then .newr e te.size (.lits []) (.lit 0) else .stuck
    | none => .stuck)
  | _ => .stuck
def RE.mkRep (a : IE) (z : List D) : RE := match a with
  | .lit k => .lits (List.replicate k.toNat z)
  | a => .rep a z
theorem RE.mkRep_den (a : IE) (z : List D) : (RE.mkRep a z).den = List.replicate a.den.toNat z := by
  unfold RE.mkRep
  split <;> rfl
def mkLit (a b : IE) (by_ : Nat) : Bool := match a, b with
  | .lit x, .lit y => decide (0 ≤ x) && decide (x ≤ y) && decide (y ≤ 9223372036854775807) && decide ((by_ : Int) * y ≤ 281474976710656)
  | _, _ => false
theorem mkLit_spec {a b : IE} {by_ : Nat} (h : mkLit a b by_ = true) : 0 ≤ a.den ∧ a.den ≤ b.den ∧ b.den ≤ 9223372036854775807 ∧ (by_ : Int) * b.den ≤ 281474976710656 := by
  unfold mkLit at h
  split at h
  · simpa [IE.den, and_assoc] using h
  · cases h
def qMake (T : Tab) (t : Nat) (x y : D) : QR := match T.get t with
  | some ⟨.slice e, _, _, _⟩ => (match T.get e with
    | some te => (match (D.ofV te.zero).cells, x, y with
      | some z, .int _ a, .int _ b => if z.length = te.size ∧ 0 < te.size ∧ z.all (D.dataB 5) then .reqQ (mkLit a b te.bytes) (fun _ => 0 ≤ a.den ∧ a.den ≤ b.den ∧ b.den ≤ 9223372036854775807 ∧ (te.bytes : Int) * b.den ≤ 281474976710656) (.newr e te.size (RE.mkRep a z) a) else .stuck
      | _, _, _ => .stuck)
    | none => .stuck)
  | _ => .stuck
def qBuildSlice (T : Tab) (t len : Nat) (ps : List (Nat × D)) : QR := match T.get t with
  | some ⟨.slice e, _, _, _⟩ => (match T.get e with
    | some te => (match (D.ofV te.zero).cells with
      | some z => if z.length = te.size ∧ len * te.size ≤ 16777216 ∧ 0 < te.size then (match fillD (fun i => some (i * te.size, te.size)) ((List.replicate len z).flatten) ps with
        | some r => if r.all (D.dataB 5) then .newd e te.size (chunk te.size r len) else .stuck
        | none => .stuck) else .stuck
      | none => .stuck)
    | none => .stuck)
  | _ => .stuck
def int0 (k : IntKind) : Value → Bool
  | .int k' n => decide (k' = k) && decide (n = 0)
  | _ => false
def qAlloc2 (T : Tab) (t : Nat) : QR := match T.get t with
  | some ⟨.arr m e, s, _, .agg cs⟩ => (match T.get e with
    | some ⟨.int k, 1, _, _⟩ => if k = .u8 then qAlloc T t else if decide (s = m) && decide (cs.size = m) && cs.toList.all (int0 k) then .newa k m (fun _ => 0) else .stuck
    | _ => qAlloc T t)
  | _ => qAlloc T t
def qBox2 (x : D) : QR := match x with
  | .arr k m f => .newa k m f
  | x => qBox x
section
variable {P : Program} {T : Tab} {H : List Bk} {ρ : Operand → D} {o : Oper}
theorem qAlloc_good (hT : T.ok P) {t : Nat} (ho : o.op = .alloc t) : (qAlloc T t).good P H ρ o := by
  have hx : ∀ ev : Operand → Value, execOp ev o = (do pure (.value (← Instr.alloc t true (.tuple #[])))) := fun ev => by unfold execOp; rw [ho]
  unfold qAlloc
  split
  · next ti ht =>
    split
    · next l hl =>
      intro w E ev hev hwf hH
      obtain ⟨i, d, g1, g2, g3, _, _, g6⟩ := TI.of_spec (Tab.get_ok hT ht)
      obtain ⟨h1, h2⟩ := (D.ofV_rep (w := w) (E := E) ti.zero).cells hl
      exact ⟨ti.zero.cells, t, by rw [hx]; simp [Instr.alloc, zeroValue, typeInfo, g1, g3, newVar, newRow], h1, h2⟩
    · trivial
  · trivial
theorem qBox_good {t : Nat} {x : Operand} (ho : o.op = .box t x) : (qBox (ρ x)).good P H ρ o := by
  have hx : ∀ ev : Operand → Value, execOp ev o = (do pure (.value (← Instr.box t (ev x)))) := fun ev => by unfold execOp; rw [ho]
  unfold qBox
  split
  · next l hl =>
    intro w E ev hev hwf hH
    obtain ⟨h1, h2⟩ := (hev x).cells hl
    exact ⟨(ev x).cells, t, by rw [hx]; simp [Instr.box, newVar, newRow], h1, h2⟩
  · trivial
theorem int0_spec {k : IntKind} {v : Value} (h : int0 k v = true) : v = .int k 0 := by
  unfold int0 at h
  split at h
  · simp only [Bool.and_eq_true, decide_eq_true_eq] at h
    rw [h.1, h.2]
  · cases h
theorem qAlloc2_good (hT : T.ok P) {t : Nat} (ho : o.op = .alloc t) : (qAlloc2 T t).good P H ρ o := by
  have h0 := qAlloc_good (H := H) (ρ := ρ) hT ho
  have hx : ∀ ev : Operand → Value, execOp ev o = (do pure (.value (← Instr.alloc t true (.tuple #[])))) := fun ev => by unfold execOp; rw [ho]
  unfold qAlloc2
  split
  · next m e s b cs ht =>
    split
    · next k b' z' he =>
      split
      · exact h0
      · split
        · next hc =>
          simp only [Bool.and_eq_true, decide_eq_true_eq, List.all_eq_true] at hc
          intro w E ev hev hwf hH
          obtain ⟨i, d, g1, g2, g3, _, _, g6⟩ := TI.of_spec (Tab.get_ok hT ht)
          refine ⟨cs, t, by rw [hx]; simp [Instr.alloc, zeroValue, typeInfo, g1, g3, newVar, newRow, Value.cells], hc.1.2, fun i hi => ?_⟩
          have hlt : i < cs.size := by omega
          refine ⟨?_, InR.zero k⟩
          rw [Array.getElem?_eq_getElem hlt, int0_spec (hc.2 cs[i] (by simp))]
        · trivial
    · exact h0
  · exact h0
theorem qBox2_good {t : Nat} {x : Operand} (ho : o.op = .box t x) : (qBox2 (ρ x)).good P H ρ o := by
  have h0 := qBox_good (P := P) (H := H) (ρ := ρ) ho
  have hx : ∀ ev : Operand → Value, execOp ev o = (do pure (.value (← Instr.box t (ev x)))) := fun ev => by unfold execOp; rw [ho]
  unfold qBox2
  split
  · next k m f hd =>
    intro w E ev hev hwf hH
    have hva := hev x
    rw [hd] at hva
    generalize hv : ev x = va at hva
    cases hva with | @arr _ _ _ _ vs hs h =>
    exact ⟨vs, t, by rw [hx, hv]; simp [Instr.box, newVar, newRow, Value.cells], hs, h⟩
  · exact h0
def evParts (ps : Array (Nat × Operand)) (ρ : Operand → D) : List (Nat × D) := ps.toList.map fun p => (p.1, ρ p.2)
theorem parts_rep {w : World} {E : Env} {ev : Operand → Value} (hev : ∀ x, DRep w E (ρ x) (ev x)) (ps : Array (Nat × Operand)) : (evParts ps ρ).length = ((ps.map fun (i, x) => (i, ev x)).toList).length ∧
    ∀ (i : Nat) p q, (evParts ps ρ)[i]? = some p → (ps.map fun (i, x) => (i, ev x)).toList[i]? = some q → p.1 = q.1 ∧ DRep w E p.2 q.2 := by
  refine ⟨by simp [evParts], fun i p q hp hq => ?_⟩
  simp only [evParts, List.getElem?_map, Option.map_eq_some_iff, Array.getElem?_toList, Array.getElem?_map] at hp hq
  obtain ⟨a, ha, rfl⟩ := hp
  obtain ⟨b, hb, rfl⟩ := hq
  rw [ha] at hb
  cases hb
  exact ⟨rfl, hev _⟩
theorem qBuild_good (hT : T.ok P) {t : Nat} {ps : Array (Nat × Operand)} (ho : o.op = .build t ps) : (qBuild T t (evParts ps ρ)).good P H ρ o := by
  have hx : ∀ ev : Operand → Value, execOp ev o = (do pure (.value (← Instr.build t (ps.map fun (i, x) => (i, ev x))))) := fun ev => by unfold execOp; rw [ho]
  unfold qBuild
  split
  · next fs s b z ht =>
    split
    · next l hl =>
      split
      · next r hr =>
        intro w E ev hev hwf hH
        obtain ⟨i, d, g1, g2, g3, _, _, g6⟩ := TI.of_spec (Tab.get_ok hT ht)
        have hz := (D.ofV_rep (w := w) (E := E) z).cells hl
        obtain ⟨hp1, hp2⟩ := parts_rep hev ps
        cases d with
        | struct fds =>
          have hfd := TI.of_fields (Tab.get_ok hT ht) g2
          simp only [TK.of, TK.struct.injEq] at g6
          have hpl : (fds.mapM fun f => (do pure (f.offset, ← sizeOf f.type) : Sem (Nat × Nat))).run P w = .ok (fds.map fun f => (f.offset, P.cellsOf f.type)) w := by
            have hall : ∀ f ∈ fds.toList, (sizeOf f.type).run P w = .ok (P.cellsOf f.type) w := fun f hf => by
              obtain ⟨dd, hdd⟩ := Option.isSome_iff_exists.1 (hfd f (by simpa using hf))
              have hi : ∃ i, P.info? f.type = some i := by
                unfold Program.underlying at hdd
                cases hq : P.info? f.type with
                | none => rw [hq] at hdd; cases hdd
                | some i => exact ⟨i, rfl⟩
              obtain ⟨i, hi⟩ := hi
              simp [sizeOf, typeInfo, hi, Program.cellsOf]
            have hlist : ∀ l : List Field, (∀ f ∈ l, (sizeOf f.type).run P w = .ok (P.cellsOf f.type) w) → (l.mapM fun f => (do pure (f.offset, ← sizeOf f.type) : Sem (Nat × Nat))).run P w = .ok (l.map fun f => (f.offset, P.cellsOf f.type)) w := by
              intro l
              induction l with
              | nil => intro _; simp
              | cons f l ih =>
                intro h
                have h1 := h f (by simp)
                have h2 := ih fun g hg => h g (by simp [hg])
                rw [List.mapM_cons]
                simp [h1] at h2 ⊢
                simp [h2]
            rw [Array.mapM_eq_mapM_toList]
            simp only [Sem.run_map, hlist _ hall, Result.andThen_ok]
            congr 1
            apply Array.ext'
            simp
          have hfill : ∀ i, (fds.map fun f => (f.offset, P.cellsOf f.type))[i]? = fieldP fs i := fun i => by
            unfold fieldP
            rw [g6]
            simp only [Array.getElem?_map, List.getElem?_map, Array.getElem?_toList]
            cases fds[i]? <;> rfl
          obtain ⟨rs, h1, h2⟩ := fill_rep _ _ l r z.cells hp1 hp2 hz hr
          refine ⟨.agg rs, ?_, .agg h2.1.symm fun i d v hd hv => ?_⟩
          · rw [hx]
            have e1 : Instr.fill ((fds.map fun f => (f.offset, P.cellsOf f.type))[·]?) z.cells (ps.map fun (i, x) => (i, ev x)).toList = some rs := by
              rw [show ((fds.map fun f => (f.offset, P.cellsOf f.type))[·]?) = fieldP fs from funext hfill]
              exact h1
            simp only [Instr.build, Sem.run_bind, zeroValue, typeInfo, run_program, Result.andThen_ok, g1, g3, run_underlying g2, hpl, Sem.run_pure, e1]
          · obtain ⟨u, h3, h4⟩ := h2.2 i d hd
            rw [h3] at hv
            cases hv
            exact h4
        | _ => simp [TK.of] at g6
      · trivial
    · trivial
  · next n e s b z ht =>
    split
    · next l te hl hte =>
      split
      · next r hr =>
        intro w E ev hev hwf hH
        obtain ⟨i, d, g1, g2, g3, _, _, g6⟩ := TI.of_spec (Tab.get_ok hT ht)
        obtain ⟨i', d', f1, f2, f3, f4, _, f6⟩ := TI.of_spec (Tab.get_ok hT hte)
        have hz := (D.ofV_rep (w := w) (E := E) z).cells hl
        obtain ⟨hp1, hp2⟩ := parts_rep hev ps
        cases d with
        | array n2 e2 =>
          simp only [TK.of, TK.arr.injEq] at g6
          obtain ⟨rfl, rfl⟩ := g6
          obtain ⟨rs, h1, h2⟩ := fill_rep _ _ l r z.cells hp1 hp2 hz hr
          refine ⟨.agg rs, ?_, .agg h2.1.symm fun i d v hd hv => ?_⟩
          · rw [hx]
            simp only [Instr.build, Sem.run_bind, zeroValue, typeInfo, run_program, Result.andThen_ok, g1, g3, run_underlying g2, sizeOf, f1, f4, Sem.run_pure, h1]
          · obtain ⟨u, h3, h4⟩ := h2.2 i d hd
            rw [h3] at hv
            cases hv
            exact h4
        | _ => simp [TK.of] at g6
      · trivial
    · trivial
  · trivial
theorem flat_get (z : List D) (hz : 0 < z.length) : ∀ (len i : Nat) d, ((List.replicate len z).flatten)[i]? = some d → i < len * z.length ∧ z[i % z.length]? = some d
  | 0, i, d, h => by simp at h
  | len + 1, i, d, h => by
    rw [List.replicate_succ, List.flatten_cons] at h
    by_cases hi : i < z.length
    · rw [List.getElem?_append_left hi] at h
      rw [Nat.mod_eq_of_lt hi]
      exact ⟨by rw [Nat.add_mul]; omega, h⟩
    · rw [List.getElem?_append_right (by omega)] at h
      obtain ⟨h1, h2⟩ := flat_get z hz len _ d h
      refine ⟨by rw [Nat.add_mul]; omega, ?_⟩
      rw [Nat.mod_eq_sub_mod (by omega)]
      exact h2
theorem flat_len (z : List D) (len : Nat) : ((List.replicate len z).flatten).length = len * z.length := by
  induction len with
  | zero => simp
  | succ n ih => rw [List.replicate_succ, List.flatten_cons, List.length_append, ih, Nat.add_mul]; omega
theorem qBuildSlice_good (hT : T.ok P) {t len : Nat} {ps : Array (Nat × Operand)} (ho : o.op = .buildSlice t len ps) : (qBuildSlice T t len (evParts ps ρ)).good P H ρ o := by
  have hx : ∀ ev : Operand → Value, execOp ev o = (do pure (.value (← Instr.buildSlice t len (ps.map fun (i, x) => (i, ev x))))) := fun ev => by unfold execOp; rw [ho]
  unfold qBuildSlice
  split
  · next e s b z ht =>
    split
    · next te hte =>
      split
      · next zl hzl =>
        split
        · next hc =>
          obtain ⟨hzn, hbig, hpos⟩ := hc
          split
          · next r hr =>
            split
            · next hdata =>
              intro w E ev hev hwf hH
              obtain ⟨i, d, g1, g2, g3, _, _, g6⟩ := TI.of_spec (Tab.get_ok hT ht)
              obtain ⟨i', d', f1, f2, f3, f4, _, f6⟩ := TI.of_spec (Tab.get_ok hT hte)
              obtain ⟨hz1, hz2⟩ := (D.ofV_rep (w := w) (E := E) te.zero).cells hzl
              obtain ⟨hp1, hp2⟩ := parts_rep hev ps
              cases d with
              | slice e2 =>
                simp only [TK.of, TK.slice.injEq] at g6
                subst g6
                have hzero : CRep w E ((List.replicate len zl).flatten) ((Array.range (len * te.size)).map (te.zero.cells[· % te.zero.cells.size]!)) := by
                  refine ⟨by simp [hzn], fun i d hd => ?_⟩
                  obtain ⟨h1, h2⟩ := flat_get zl (by omega) len i d hd
                  obtain ⟨u, h3, h4⟩ := hz2 _ d h2
                  refine ⟨u, ?_, h4⟩
                  rw [hzn] at h1
                  have h5 : te.zero.cells[i % te.zero.cells.size]? = some u := by rw [hz1]; exact h3
                  simp [h1, h5, Array.getElem!_eq_getD]
                obtain ⟨rs, h1, h2⟩ := fill_rep _ _ _ r _ hp1 hp2 hzero hr
                have hrl : r.length = len * te.size := by
                  have := h2.1
                  have fl : ∀ (ps : List (Nat × D)) (l r : List D) {pl : Nat → Option (Nat × Nat)}, fillD pl l ps = some r → r.length = l.length := by
                    intro ps
                    induction ps with
                    | nil => intro l r pl h; simp only [fillD, Option.some.injEq] at h; rw [h]
                    | cons p ps ih =>
                      intro l r pl h
                      obtain ⟨i, d⟩ := p
                      unfold fillD at h
                      split at h
                      · split at h
                        · next hq => rw [ih _ _ h]; simp [over]; omega
                        · cases h
                      · cases h
                  rw [fl _ _ _ hr, flat_len, hzn]
                refine ⟨rs, ?_, ?_, ?_, fun k x hk => ?_⟩
                · rw [hx]
                  have hl : (chunk te.size r len).length = len := by simp [chunk]
                  rw [hl]
                  have n1 : ¬ (len * te.size > 2 ^ 24) := by omega
                  by_cases h0 : len * te.size = 0
                  · obtain rfl : len = 0 := by rcases Nat.mul_eq_zero.1 h0 with q | q <;> omega
                    simp [Array.range_zero'] at h1
                    simp [Instr.buildSlice, run_underlying g2, sizeOf, typeInfo, f1, f4, newRow, Array.range_zero', h1]
                  · simp [Instr.buildSlice, run_underlying g2, sizeOf, typeInfo, f1, f4, h0, newRow, zeroValue, f3]
                    rw [if_neg (by omega)]
                    try simp at h1
                    simp [h1]
                · simp [chunk]; unfold maxLen; have := Nat.le_mul_of_pos_right len hpos; omega
                · have hcl : (chunk te.size r len).length = len := by simp [chunk]
                  rw [hcl, h2.1, hrl]
                · skip
                  unfold chunk at hk
                  simp only [List.getElem?_map, Option.map_eq_some_iff] at hk
                  obtain ⟨k', hk', rfl⟩ := hk
                  obtain ⟨hk1, hk2⟩ := List.getElem?_eq_some_iff.1 hk'
                  simp at hk1 hk2
                  subst hk2
                  have hkm : k * te.size + te.size ≤ len * te.size := by
                    rw [← Nat.succ_mul]; exact Nat.mul_le_mul_right _ hk1
                  refine ⟨by simp; omega, fun j d hd => ?_⟩
                  simp only [List.getElem?_take, List.getElem?_drop] at hd
                  split at hd
                  · obtain ⟨v, h5, h6⟩ := h2.2 _ d hd
                    exact ⟨v, h5, D.dataB_rep (by rfl) 5 (List.all_eq_true.1 hdata d (List.mem_of_getElem? hd)) h6⟩
                  · cases hd
              | _ => simp [TK.of] at g6
            · trivial
          · trivial
        · trivial
      · trivial
    · trivial
  · trivial
theorem qEmpty_good (hT : T.ok P) {t : Nat} {ps : Array (Nat × Operand)} (hp : ps.size = 0) (ho : o.op = .buildSlice t 0 ps) : (qEmpty T t).good P H ρ o := by
  have hx : ∀ ev : Operand → Value, execOp ev o = (do pure (.value (← Instr.buildSlice t 0 (ps.map fun (i, x) => (i, ev x))))) := fun ev => by unfold execOp; rw [ho]
  unfold qEmpty
  split
  · next e s b z ht =>
    split
    · next te hte =>
      split
      · next hpos =>
        intro w E ev hev hwf hH
        obtain ⟨i, d, g1, g2, g3, _, _, g6⟩ := TI.of_spec (Tab.get_ok hT ht)
        obtain ⟨i', d', f1, f2, f3, f4, _, f6⟩ := TI.of_spec (Tab.get_ok hT hte)
        cases d with
        | slice e2 =>
          simp only [TK.of, TK.slice.injEq] at g6
          subst g6
          have : ps = #[] := Array.eq_empty_of_size_eq_zero hp
          subst this
          exact ⟨#[], 0, 0, by rw [hx]; simp [Instr.buildSlice, run_underlying g2, sizeOf, typeInfo, f1, f4, newRow, Instr.fill, Array.range_zero'], Nat.le_refl _, Nat.zero_le _, rfl, rfl, by simp, fun i e h => by simp [RE.den] at h⟩
        | _ => simp [TK.of] at g6
      · trivial
    · trivial
  · trivial
theorem qMake_good (hT : T.ok P) {t : Nat} {x y : Operand} (ho : o.op = .makeSlice t x y) : (qMake T t (ρ x) (ρ y)).good P H ρ o := by
  have hx : ∀ ev : Operand → Value, execOp ev o = (do pure (.value (← Instr.makeSlice t (ev x) (ev y)))) := fun ev => by unfold execOp; rw [ho]
  unfold qMake
  split
  · next e s b z ht =>
    split
    · next te hte =>
      split
      · next zl kx a ky bb hzl hxx hyy =>
        split
        · next hc =>
          obtain ⟨hzn, hpos, hdata⟩ := hc
          refine QR.reqQ_good mkLit_spec fun ⟨h0, hab, h63, hbytes⟩ => ?_
          intro w E ev hev hwf hH
          obtain ⟨i, d, g1, g2, g3, _, _, g6⟩ := TI.of_spec (Tab.get_ok hT ht)
          obtain ⟨i', d', f1, f2, f3, f4, f5, f6⟩ := TI.of_spec (Tab.get_ok hT hte)
          obtain ⟨hz1, hz2⟩ := (D.ofV_rep (w := w) (E := E) te.zero).cells hzl
          have h1 := hev x
          have h2 := hev y
          rw [hxx] at h1
          rw [hyy] at h2
          generalize hvx : ev x = vx at h1
          generalize hvy : ev y = vy at h2
          cases h1; cases h2
          cases d with
          | slice e2 =>
            simp only [TK.of, TK.slice.injEq] at g6
            subst g6
            have hrun := run_make (P := P) w t e i' te.zero g2 f1 f3 kx ky a.den bb.den h0 hab (by rw [f5]; exact hbytes) (by omega)
            rw [f4] at hrun
            have hle : a.den.toNat ≤ bb.den.toNat := by omega
            refine ⟨madeCells te.zero.cells (bb.den.toNat * te.size), a.den.toNat, bb.den.toNat, by rw [hx, hvx, hvy]; simp [hrun], hle, by unfold maxLen; omega, by omega, by simp [RE.mkRep_den], size_madeCells _ _, fun k el hk => ?_⟩
            simp only [RE.mkRep_den, List.getElem?_replicate] at hk
            split at hk
            · next hka =>
              cases hk
              refine ⟨hzn, fun j d hd => ?_⟩
              have hj : j < te.size := by rw [← hzn]; exact (List.getElem?_eq_some_iff.1 hd).1
              obtain ⟨u, k1, k2⟩ := hz2 j d hd
              refine ⟨u, ?_, D.dataB_rep (E := E) (E' := E.data) rfl 5 (List.all_eq_true.1 hdata d (List.mem_of_getElem? hd)) k2⟩
              have hlt : k * te.size + j < bb.den.toNat * te.size := by
                have : (k + 1) * te.size ≤ bb.den.toNat * te.size := Nat.mul_le_mul_right _ (by omega)
                rw [Nat.add_mul, Nat.one_mul] at this
                omega
              have hmod : (k * te.size + j) % te.zero.cells.size = j := by
                rw [hz1, hzn, Nat.mul_comm, Nat.mul_add_mod]
                exact Nat.mod_eq_of_lt hj
              simp [madeCells, hlt, hmod, k1, Array.getElem!_eq_getD]
            · cases hk
          | _ => simp [TK.of] at g6
        · trivial
      · trivial
    · trivial
  · trivial
def OpAt (P : Program) (o : Oper) (w : World) (E : Env) (ev : Operand → Value) (d : D) : Prop := ∃ v, (execOp ev o).run P w = .ok (.value v) w ∧ DRep w E d v
def optIE : Option D → Option (Option IE)
  | none => some none
  | some (.int _ e) => some (some e)
  | some _ => none
def qSlice (T : Tab) (H : List Bk) (t : Nat) (x : D) (lo hi mx : Option D) : QR := match T.get t, optIE lo, optIE hi, optIE mx with
  | some ⟨.slice e, _, _, _⟩, some lo, some hi, some mx => (match T.get e with
    | some te => (match x with
      | .slm n nb c l => if n = te.size then
          .req (fun _ => 0 ≤ (lo.getD (.lit 0)).den ∧ (lo.getD (.lit 0)).den ≤ (hi.getD (.len l)).den ∧ (hi.getD (.len l)).den ≤ (mx.getD (.len l)).den ∧ (mx.getD (.len l)).den ≤ l.length ∧ (mx.isSome = true → hi.isSome = true))
            (.letl (fun _ => (l.take (hi.getD (.len l)).den.toNat).drop (lo.getD (.lit 0)).den.toNat) fun l' => .slm n nb c l') else .stuck
      | .osl n b ver nb lo0 len => (match lo, hi, mx with
        | none, some h, none => if Bk.at H b ver then .req (fun _ => 0 ≤ h.den ∧ h.den ≤ len.den) (.ret (.osl n b ver nb lo0 h)) else .stuck
        | _, _, _ => .stuck)
      | _ => .stuck)
    | none => .stuck)
  | _, _, _, _ => .stuck
theorem qSlice_good (hT : T.ok P) {t : Nat} {x : Operand} {lo hi mx : Option Operand} (ho : o.op = .slice t x lo hi mx) : (qSlice T H t (ρ x) (lo.map ρ) (hi.map ρ) (mx.map ρ)).good P H ρ o := by
  have hx : ∀ ev : Operand → Value, execOp ev o = (do pure (.value (← Instr.sliceAt t (ev x) (lo.map ev) (hi.map ev) (mx.map ev)))) := fun ev => by unfold execOp; rw [ho]
  -- a bound that is there
  have bnd : ∀ {q : Option Operand} {r : Option IE}, optIE (q.map ρ) = some r → ∀ {w : World} {E : Env} {ev : Operand → Value}, (∀ x, DRep w E (ρ x) (ev x)) → (r = none ∧ q = none) ∨ ∃ e y k, r = some e ∧ q = some y ∧ ev y = .int k e.den := by
    intro q r h w E ev hev
    cases q with
    | none => simp [optIE] at h; exact .inl ⟨h.symm, rfl⟩
    | some y =>
      simp only [Option.map_some] at h
      have hy := hev y
      unfold optIE at h
      split at h
      · next h1 => cases h1
      · next k e h1 =>
        cases h
        simp only [Option.some.injEq] at h1
        rw [h1] at hy
        generalize hv : ev y = v at hy
        cases hy
        exact .inr ⟨e, y, k, rfl, rfl, hv⟩
      · cases h
  unfold qSlice
  split
  · next e s b z l1 h1 m1 ht hlo hhi hmx =>
    split
    · next te hte =>
      obtain ⟨ti, d, g1, g2, _, _, _, g6⟩ := TI.of_spec (Tab.get_ok hT ht)
      obtain ⟨ti', d', f1, f2, _, f4, _, f6⟩ := TI.of_spec (Tab.get_ok hT hte)
      have hu : P.underlying t = some (.slice e) := by
        cases d with
        | slice e2 => simp only [TK.of, TK.slice.injEq] at g6; rw [g2, g6]
        | _ => simp [TK.of] at g6
      split
      · next α n nb c l hd =>
        split
        · next hn =>
          subst hn
          intro ⟨q1, q2, q3, q4, q5⟩ w E ev hev hwf hH
          have h3 := hev x
          rw [hd] at h3
          generalize hv : ev x = vx at h3
          cases h3 with | @slm _ _ _ _ _ _ a cap u hnb hc hm hxx ha hh =>
          -- the three bounds
          obtain ⟨L, hL⟩ : ∃ L : Nat, (L : Int) = (l1.getD (.lit 0)).den := ⟨_, Int.toNat_of_nonneg q1⟩
          obtain ⟨Hh, hHh⟩ : ∃ Hh : Nat, (Hh : Int) = (h1.getD (.len l)).den := ⟨(h1.getD (.len l)).den.toNat, Int.toNat_of_nonneg (by omega)⟩
          have hrun : ∃ M, Hh ≤ M ∧ M ≤ cap ∧ (Instr.sliceAt t (.slice a l.length cap) (lo.map ev) (hi.map ev) (mx.map ev)).run P w = .ok (.slice (if M = L then a else a.map (·.add (L * te.size))) (Hh - L) (M - L)) w := by
            have hLH : L ≤ Hh := by omega
            have hHl : Hh ≤ l.length := by omega
            rcases bnd hlo hev with ⟨rfl, rfl⟩ | ⟨e1, y1, k1, rfl, rfl, v1⟩ <;> rcases bnd hhi hev with ⟨rfl, rfl⟩ | ⟨e2, y2, k2, rfl, rfl, v2⟩ <;> rcases bnd hmx hev with ⟨rfl, rfl⟩ | ⟨e3, y3, k3, rfl, rfl, v3⟩
            all_goals simp only [Option.getD_none, Option.getD_some, Option.isSome_none, Option.isSome_some, IE.den, Bool.false_eq_true, false_imp_iff, true_imp_iff, forall_const, imp_false] at hL hHh q1 q2 q3 q4 q5
            · have e1 : L = 0 := by omega
              have e2 : Hh = l.length := by omega
              subst e1; subst e2
              exact ⟨cap, hc, Nat.le_refl _, by simp [Instr.sliceAt, Instr.slice, run_underlying hu, Instr.sliceBounds, sizeOf, typeInfo, f1, f4]⟩
            · have e1 : L = 0 := by omega
              subst e1
              exact ⟨cap, by omega, Nat.le_refl _, by simp [Instr.sliceAt, Instr.slice, run_underlying hu, Instr.sliceBounds, Instr.sliceBound, asIntOf, v2, ← hHh, sizeOf, typeInfo, f1, f4, show Hh ≤ cap by omega]⟩
            · obtain ⟨M, hM⟩ : ∃ M : Nat, (M : Int) = e3.den := ⟨e3.den.toNat, Int.toNat_of_nonneg (by omega)⟩
              have e1 : L = 0 := by omega
              subst e1
              exact ⟨M, by omega, by omega, by simp [Instr.sliceAt, Instr.slice, run_underlying hu, Instr.sliceBounds, Instr.sliceBound, asIntOf, v2, v3, ← hHh, ← hM, sizeOf, typeInfo, f1, f4, show M ≤ cap by omega, show Hh ≤ M by omega]⟩
            · have e2 : Hh = l.length := by omega
              subst e2
              exact ⟨cap, hc, Nat.le_refl _, by simp [Instr.sliceAt, Instr.slice, run_underlying hu, Instr.sliceBounds, Instr.sliceBound, asIntOf, v1, ← hL, sizeOf, typeInfo, f1, f4, hLH]⟩
            · exact ⟨cap, by omega, Nat.le_refl _, by simp [Instr.sliceAt, Instr.slice, run_underlying hu, Instr.sliceBounds, Instr.sliceBound, asIntOf, v1, v2, ← hL, ← hHh, sizeOf, typeInfo, f1, f4, show Hh ≤ cap by omega, hLH]⟩
            · obtain ⟨M, hM⟩ : ∃ M : Nat, (M : Int) = e3.den := ⟨e3.den.toNat, Int.toNat_of_nonneg (by omega)⟩
              exact ⟨M, by omega, by omega, by simp [Instr.sliceAt, Instr.slice, run_underlying hu, Instr.sliceBounds, Instr.sliceBound, asIntOf, v1, v2, v3, ← hL, ← hHh, ← hM, sizeOf, typeInfo, f1, f4, show M ≤ cap by omega, show Hh ≤ M by omega, hLH]⟩
          obtain ⟨M, hM1, hM2, hrun⟩ := hrun
          have hl' : ((l.take (h1.getD (.len l)).den.toNat).drop (l1.getD (.lit 0)).den.toNat).length = Hh - L := by simp; omega
          have eL : (l1.getD (.lit 0)).den.toNat = L := by omega
          have eH : (h1.getD (.len l)).den.toNat = Hh := by omega
          rw [eL, eH] at hl'
          show OpAt P o w E ev (.slm te.size nb c ((l.take _).drop _))
          rw [eL, eH]
          refine ⟨_, by rw [hx, hv]; simp [hrun]; rfl, ?_⟩
          have get : ∀ (i : Nat) y, ((l.take Hh).drop L)[i]? = some y → l[L + i]? = some y := fun i y hy => by
            rw [List.getElem?_drop, List.getElem?_take] at hy
            split at hy
            · exact hy
            · cases hy
          have hd := DRep.slm (w := w) (E := E) (n := te.size) (nb := nb) (c := c) (l := (l.take Hh).drop L) (a := if M = L then a else a.map (·.add (L * te.size))) (cap := M - L) (fun i j => u (L + i) j) (fun e he => by
            rw [hnb e he]
            split
            · rfl
            · cases a <;> rfl) (by rw [hl']; omega) (by omega) (fun y hy => by
              obtain ⟨i, hi⟩ := List.getElem?_of_mem hy
              exact hxx y (List.mem_of_getElem? (get i y hi))) (fun hne => by
              have hlt : L < Hh := by
                rcases Nat.lt_or_ge L Hh with q | q
                · exact q
                · exact absurd (List.length_eq_zero_iff.1 (by rw [hl']; omega)) hne
              obtain ⟨bb, base, rfl, hG, hcell⟩ := ha (by intro e; subst e; simp at hne)
              refine ⟨bb, base + L * te.size, by rw [if_neg (by omega)]; simp [Addr.add_mid], hG, fun i j hi hj => ?_⟩
              rw [hl'] at hi
              have := hcell (L + i) j (by omega) hj
              rw [Nat.add_mul, ← Nat.add_assoc] at this
              exact this) (fun i y j d hy hd => hh (L + i) y j d (get i y hy) hd)
          rw [hl'] at hd
          exact hd
        · trivial
      · next n bb ver nb lo0 len hd =>
        split
        · next h2 =>
          split
          · next hat =>
            intro ⟨q1, q2⟩ w E ev hev hwf hH
            have h3 := hev x
            rw [hd] at h3
            generalize hv : ev x = vx at h3
            have hs := at_spec hat hH
            rcases bnd hlo hev with ⟨_, rfl⟩ | ⟨e1, y1, k1, c1, _⟩
            case inr => cases c1
            rcases bnd hmx hev with ⟨_, rfl⟩ | ⟨e1, y1, k1, c1, _⟩
            case inr => cases c1
            rcases bnd hhi hev with ⟨c1, _⟩ | ⟨e2, y2, k2, c1, rfl, v2⟩
            case inl => cases c1
            cases c1
            obtain ⟨Hh, hHh⟩ : ∃ Hh : Nat, (Hh : Int) = h2.den := ⟨h2.den.toNat, Int.toNat_of_nonneg q1⟩
            cases h3 with
            | @oslc _ _ _ _ _ _ _ cc m cap hk hσ hnb hl hn hc hm hsz =>
              refine ⟨.slice (some ⟨cc, lo0.den.toNat * n, none⟩) Hh cap, ?_, .oslc hk hσ hnb hl hHh.symm (by omega) hm hsz⟩
              rw [hx, hv]
              simp [Instr.sliceAt, Instr.slice, run_underlying hu, Instr.sliceBounds, Instr.sliceBound, asIntOf, v2, ← hHh, sizeOf, typeInfo, f1, f4, show Hh ≤ cap by omega, Addr.add]
            | osln hk hσ hnb hl hn =>
              have : Hh = 0 := by omega
              subst this
              refine ⟨.slice none 0 0, ?_, .osln hk hσ hnb hl hHh.symm⟩
              rw [hx, hv]
              simp [Instr.sliceAt, Instr.slice, run_underlying hu, Instr.sliceBounds, Instr.sliceBound, asIntOf, v2, ← hHh, sizeOf, typeInfo, f1, f4]
            | osls hk => rcases hs with q | q <;> omega
          · trivial
        · trivial
      · trivial
    · trivial
  · trivial
def arrLen (H : List Bk) (b : Nat) : Option Nat := match H[b]? with
  | some (.cells l) => some l.length
  | _ => none
def qSlice2 (T : Tab) (H : List Bk) (t : Nat) (x : D) (lo hi mx : Option D) : QR := match T.get t, x, lo, hi, mx with
  | some ⟨.arr m e, _, _, _⟩, .ptr b ver 0, none, none, none => (match T.get e with
    | some te => if ver = 1 ∧ arrLen H b = some (m * te.size) ∧ m ≤ maxLen then .ret (.osl te.size b 1 (.lit false) (.lit 0) (.lit m)) else .stuck
    | none => .stuck)
  | some ⟨.slice e, _, _, _⟩, .osl n b ver nb lo0 len, some (.int _ l), none, none => (match T.get e with
    | some te => if n = te.size ∧ Bk.at H b ver = true then .req (fun _ => 0 ≤ l.den ∧ l.den < len.den) (.ret (.osl n b ver nb (IE.mkSum lo0 l) (IE.mkDif len l))) else .stuck
    | none => .stuck)
  | some ⟨.arr m e, _, _, _⟩, .dp cells 0, none, none, none => (match T.get e with
    | some te => if te.size = 1 ∧ cells.length = m ∧ m ≤ maxLen then .ret (.sll 1 (cells.map fun d => [d])) else .stuck
    | none => .stuck)
  | _, x, lo, hi, mx => qSlice T H t x lo hi mx
theorem qSlice2_good (hT : T.ok P) {t : Nat} {x : Operand} {lo hi mx : Option Operand} (ho : o.op = .slice t x lo hi mx) : (qSlice2 T H t (ρ x) (lo.map ρ) (hi.map ρ) (mx.map ρ)).good P H ρ o := by
  have hx : ∀ ev : Operand → Value, execOp ev o = (do pure (.value (← Instr.sliceAt t (ev x) (lo.map ev) (hi.map ev) (mx.map ev)))) := fun ev => by unfold execOp; rw [ho]
  unfold qSlice2
  split
  · next m e s b z bb ver ht hd hlo hhi hmx =>
    split
    · next te hte =>
      split
      · next hc =>
        obtain ⟨rfl, hal, hm⟩ := hc
        obtain ⟨ti, d, g1, g2, _, _, _, g6⟩ := TI.of_spec (Tab.get_ok hT ht)
        obtain ⟨ti', d', f1, f2, _, f4, _, f6⟩ := TI.of_spec (Tab.get_ok hT hte)
        have hu : P.underlying t = some (.array m e) := by
          cases d with
          | array n2 e2 => simp only [TK.of, TK.arr.injEq] at g6; rw [g2, g6.1, g6.2]
          | _ => simp [TK.of] at g6
        have l0 : lo = none := by cases lo <;> simp_all
        have h0 : hi = none := by cases hi <;> simp_all
        have m0 : mx = none := by cases mx <;> simp_all
        subst l0 h0 m0
        intro w E ev hev hwf hH
        have h1 := hev x
        rw [hd] at h1
        unfold arrLen at hal
        split at hal
        · next l hl =>
          simp only [Option.some.injEq] at hal
          obtain ⟨c, hk, hs, hv⟩ := ptr_at (by unfold Bk.at; rw [hl]; rfl) hH h1
          have hz : l.length = E.ζ bb := by
            rcases hH bb _ hl with q | ⟨_, q, _⟩
            · rw [q.2] at hs; cases hs
            · obtain ⟨cs, t', q1, q2, q3, _⟩ := q c hs
              exact q3
          refine ⟨.slice (some ⟨c, (IE.lit 0).den.toNat * te.size, none⟩) m m, ?_, .oslc hk hs rfl (by simp [IE.den]) (by simp [IE.den]) (Nat.le_refl _) hm (by simp [IE.den]; omega)⟩
          rw [hx, hv]
          simp [Instr.sliceAt, run_underlying hu, Instr.sureAddr, Instr.sliceBounds, sizeOf, typeInfo, f1, IE.den, Addr.add_mid]
        · cases hal
      · trivial
    · trivial
  · next e s b z n bb ver nb lo0 len kl l ht hd hlo hhi hmx =>
    split
    · next te hte =>
      split
      · next hc =>
        obtain ⟨rfl, hat⟩ := hc
        obtain ⟨ti, d, g1, g2, _, _, _, g6⟩ := TI.of_spec (Tab.get_ok hT ht)
        obtain ⟨ti', d', f1, f2, _, f4, _, f6⟩ := TI.of_spec (Tab.get_ok hT hte)
        have hu : P.underlying t = some (.slice e) := by
          cases d with
          | slice e2 => simp only [TK.of, TK.slice.injEq] at g6; rw [g2, g6]
          | _ => simp [TK.of] at g6
        have h0 : hi = none := by cases hi <;> simp_all
        have m0 : mx = none := by cases mx <;> simp_all
        subst h0 m0
        obtain ⟨y, rfl, hy⟩ : ∃ y, lo = some y ∧ ρ y = .int kl l := by cases lo <;> simp_all
        intro ⟨q1, q2⟩ w E ev hev hwf hH
        have h1 := hev x
        rw [hd] at h1
        have h2 := hev y
        rw [hy] at h2
        generalize hvy : ev y = vy at h2
        cases h2
        generalize hv : ev x = vx at h1
        have hs' := at_spec hat hH
        cases h1 with
        | @oslc _ _ _ _ _ _ _ c mm cap hk hs hnb hl hn hc hm hsz =>
          obtain ⟨L, hL⟩ : ∃ L : Nat, (L : Int) = l.den := ⟨l.den.toNat, Int.toNat_of_nonneg q1⟩
          have e1 : (IE.mkSum lo0 l).den.toNat = lo0.den.toNat + L := by rw [IE.mkSum_den]; omega
          have e2 : (IE.mkDif len l).den = ((mm - L : Nat) : Int) := by rw [IE.mkDif_den]; omega
          refine ⟨.slice (some ⟨c, (IE.mkSum lo0 l).den.toNat * te.size, none⟩) (mm - L) (cap - L), ?_, .oslc hk hs hnb (by rw [IE.mkSum_den]; omega) e2 (by omega) (by omega) (by rw [e1, ← hsz]; congr 1; omega)⟩
          rw [hx, hv]
          have hne : ¬ cap = L := by omega
          simp [Instr.sliceAt, Instr.slice, run_underlying hu, Instr.sliceBounds, Instr.sliceBound, asIntOf, hvy, ← hL, sizeOf, typeInfo, f1, f4, show L ≤ mm by omega, hc, hne, Addr.add_mid, e1, Nat.add_mul]
        | osln hk hs hnb hl hn => exfalso; omega
        | osls hk => rcases hs' with q | q <;> omega
      · trivial
    · trivial
  · next m e s b z cells ht hd hlo hhi hmx =>
    split
    · next te hte =>
      split
      · next hc =>
        obtain ⟨hsz, hlen, hm⟩ := hc
        obtain ⟨ti, d, g1, g2, _, _, _, g6⟩ := TI.of_spec (Tab.get_ok hT ht)
        obtain ⟨ti', d', f1, f2, _, f4, _, f6⟩ := TI.of_spec (Tab.get_ok hT hte)
        have hu : P.underlying t = some (.array m e) := by
          cases d with
          | array n2 e2 => simp only [TK.of, TK.arr.injEq] at g6; rw [g2, g6.1, g6.2]
          | _ => simp [TK.of] at g6
        have l0 : lo = none := by cases lo <;> simp_all
        have h0 : hi = none := by cases hi <;> simp_all
        have m0 : mx = none := by cases mx <;> simp_all
        subst l0 h0 m0
        intro w E ev hev hwf hH
        have h1 := hev x
        rw [hd] at h1
        generalize hv : ev x = vx at h1
        cases h1 with
        | @dp _ _ _ bb base u hg hu2 hr =>
          have key := DRep.sll (w := w) (E := E) (n := 1) (es := cells.map fun d => [d]) (a := some ⟨bb, base + 0, none⟩) (cap := m) (fun i _ => u i) (by simp [hlen]) hm (fun x hx => by simp only [List.mem_map] at hx; obtain ⟨d, _, rfl⟩ := hx; rfl) ⟨bb, base, rfl, hg, fun i j hi hj => by
            have hj0 : j = 0 := by omega
            subst hj0
            rw [Nat.mul_one, Nat.add_zero]
            exact hu2 i (by simpa using hi)⟩ fun i x j d hx hd => by
              simp only [List.getElem?_map, Option.map_eq_some_iff] at hx
              obtain ⟨y, hy, rfl⟩ := hx
              have hj := (List.getElem?_eq_some_iff.1 hd).1
              have hj0 : j = 0 := by simp at hj; exact hj
              subst hj0
              cases hd
              exact hr i _ hy
          rw [List.length_map, hlen] at key
          refine ⟨_, ?_, key⟩
          rw [hx, hv]
          simp [Instr.sliceAt, run_underlying hu, Instr.sureAddr, Instr.sliceBounds, sizeOf, typeInfo, f1, Addr.add_mid]
      · trivial
    · trivial
  · exact qSlice_good hT ho
/-- an operation that only reads or lays something new -/
def qop (T : Tab) (H : List Bk) (ρ : Operand → D) (o : Oper) : QR := match o.op with
  | .move x | .assign x => .ret (ρ x)
  | .pick c a b => qPick (ρ c) (ρ a) (ρ b)
  | .alloc t => qAlloc2 T t
  | .box _ x => qBox2 (ρ x)
  | .build t ps => qBuild T t (evParts ps ρ)
  | .buildSlice t len ps => if len = 0 ∧ ps.size = 0 then qEmpty T t else qBuildSlice T t len (evParts ps ρ)
  | .makeSlice t a b => qMake T t (ρ a) (ρ b)
  | .load t a => qLoad2 T H t (ρ a)
  | .binOp op t x y _ => (match ρ x, ρ y with
    | .agg l, .agg m => qEqA T op t l m
    | a, b => qBin T H op t a b)
  | .unOp op _ x => qUn op (ρ x)
  | .convert s t x => (match T.get t, T.get s with
    | some ⟨.str, _, _, _⟩, some ⟨.slice _, _, _, _⟩ => qStr T s t (ρ x)
    | _, _ => qConv T s t (ρ x))
  | .makeFunc f a b => .ret (.fn f (a.toList.map ρ) (b.toList.map ρ))
  | .fieldAddr t x f => qFieldAddr T H t f (ρ x)
  | .field t x f => qField T t f (ρ x)
  | .indexAddr t x i => qIdx2 T H t (ρ x) (ρ i)
  | .nilCheck x => qNil H (ρ x)
  | .index t x i => qIndex T t (ρ x) (ρ i)
  | .extract x i => qExtract (ρ x) i
  | .makeMap t r => qMakeMap T t (r.map ρ)
  | .lookup t x i ck => qLookup2 T H t (ρ x) (ρ i) ck
  | .slice t x lo hi mx => qSlice2 T H t (ρ x) (lo.map ρ) (hi.map ρ) (mx.map ρ)
  | .makeInterface t x => qIface T t (ρ x)
  | .typeAssert x _ u ck => qAssert T u ck (ρ x)
  | .call ⟨.builtin .len, ⟨[x]⟩, ⟨[t]⟩⟩ => qLen T H t (ρ x)
  | .call ⟨.builtin .min, ⟨[x, y]⟩, _⟩ => qMinMax false (ρ x) (ρ y)
  | .call ⟨.builtin .max, ⟨[x, y]⟩, _⟩ => qMinMax true (ρ x) (ρ y)
  | _ => .stuck
theorem qop_good (hT : T.ok P) : (qop T H ρ o).good P H ρ o := by
  unfold qop
  split
  · next x h => exact qMove_good (.inl h)
  · next x h => exact qMove_good (.inr h)
  · next h => exact qPick_good h
  · next h => exact qAlloc2_good hT h
  · next h => exact qBox2_good h
  · next h => exact qBuild_good hT h
  · next h =>
    split
    · next e => obtain ⟨rfl, e⟩ := e; exact qEmpty_good hT e h
    · exact qBuildSlice_good hT h
  · next h => exact qMake_good hT h
  · next h => exact qLoad2_good hT h
  · next h =>
    split
    · next hx hy => exact qEqA_good hT h hx hy
    · exact qBin_good hT h
  · next h => exact qUn_good h
  · next h =>
    split
    · exact qStr_good hT h
    · exact qConv_good hT h
  · next h => exact qMakeFunc_good h
  · next h => exact qFieldAddr_good hT h
  · next h => exact qField_good hT h
  · next h => exact qIdx2_good hT h
  · next h => exact qNil_good h
  · next h => exact qIndex_good hT h
  · next h => exact qExtract_good h
  · next h => exact qMakeMap_good h
  · next h => exact qLookup2_good hT h
  · next h => exact qSlice2_good hT h
  · next h => exact qIface_good hT h
  · next h => exact qAssert_good hT h
  · next h => exact qLen_good hT h
  · next h => exact qMinMax_good (mx := false) h
  · next h => exact qMinMax_good (mx := true) h
  · trivial
end
end Go.Proofs.Ytdhfakajlnidiaa
namespace Go.Proofs.Ytdhfakajlnidiaa
open Go.RowKit

/-! A step of the world that leaves all that was there as it was: what the blocks say stays. -/
theorem BRep.move {w w' : World} {E E' : Env} {x c : Nat} {b : Bk} (h : BRep w E x c b) (hle : E.le w w' E') (hown : E.own E') (hc : w'.heap[c]? = w.heap[c]?) (hz : E'.ζ x = E.ζ x) : BRep w' E' x c b := by
  cases b with
  | cells l =>
    obtain ⟨cs, t, h1, h2, hz2, h3⟩ := h
    exact ⟨cs, t, hc.trans h1, h2, hz2.trans hz.symm, fun i d hd => by obtain ⟨v, h4, h5⟩ := h3 i d hd; exact ⟨v, h4, h5.move hle hown⟩⟩
  | row ty n ver r =>
    obtain ⟨cs, tt, ht, h1, h2, h3, h4⟩ := h
    refine ⟨cs, tt, ht, hc.trans h1, h2.trans hz.symm, h3, fun i e he => ?_⟩
    obtain ⟨h5, h6⟩ := h4 i e he
    exact ⟨h5, fun j d hd => by obtain ⟨v, h7, h8⟩ := h6 j d hd; exact ⟨v, h7, h8.move hle.data Env.own.data⟩⟩
  | arr k m f =>
    obtain ⟨cs, t, h1, h2, h3, h4⟩ := h
    exact ⟨cs, t, hc.trans h1, h2, h3.trans hz.symm, h4⟩
  | mp kk m =>
    obtain ⟨es, clock, h1, h2, h3, h4⟩ := h
    exact ⟨es, clock, hc.trans h1, h2, h3, fun e he => by obtain ⟨x, d, q1, q2, q3, q4⟩ := h4.val e he; exact ⟨x, d, q1, q2, q3, q4.move hle.data Env.own.data⟩, h4.has, h4.apart, h4.clock⟩
  | mpk ks k2 F n =>
    obtain ⟨es, clock, h1, h2, h3, h4⟩ := h
    exact ⟨es, clock, hc.trans h1, h2, h3, h4⟩
  | dead => trivial
/-- a new own block -/
def Env.push (E : Env) (n c z : Nat) : Env := ⟨E.G, fun x => if x = n then some c else E.σ x, fun x => if x = n then 1 else E.κ x, fun x => if x = n then z else E.ζ x⟩
theorem alloc_heap (w : World) (o : Obj) (c : Nat) (h : c < w.heap.size) : (w.alloc o).heap[c]? = w.heap[c]? := by
  show (w.heap.push o)[c]? = _
  rw [Array.getElem?_push_lt h, Array.getElem?_eq_getElem h]
theorem alloc_cell (w : World) (o : Obj) (b off : Nat) (h : b < w.heap.size) : (w.alloc o).cell? ⟨b, off, none⟩ = w.cell? ⟨b, off, none⟩ := by
  unfold World.cell?
  rw [alloc_heap w o b h]
section
variable {B : Base} {H : List Bk} {E : Env} {w : World}
theorem WRel.le_push (h : WRel B H E w) (o : Obj) (n c z : Nat) : E.le w (w.alloc o) (E.push n c z) := ⟨fun _ h => h, fun b hb => alloc_heap w o b (h.good b hb)⟩
theorem WRel.own_push (h : WRel B H E w) (c z : Nat) : E.own (E.push H.length c z) := by
  have h0 := (h.out H.length (Nat.le_refl _)).2
  refine ⟨fun b => ?_, fun b e => ?_⟩
  · simp only [Env.push]
    split
    · next q => subst q; omega
    · exact Nat.le_refl _
  · simp only [Env.push] at e ⊢
    by_cases q : b = H.length
    · subst q; simp at e; omega
    · simp [q]
/-- a block that is laid: at a number that stood empty -/
theorem WRel.layB {Hx : List Bk} (h : WRel B Hx E w) {m z : Nat} {o : Obj} {b0 : Bk} (hm : Hx[m]? = some b0) (h0 : E.σ m = none ∧ E.κ m = 0) (hv : b0.ver 1)
    (hb : E.le w (w.alloc o) (E.push m w.heap.size z) → E.own (E.push m w.heap.size z) → BRep (w.alloc o) (E.push m w.heap.size z) m w.heap.size b0) : WRel B Hx (E.push m w.heap.size z) (w.alloc o) ∧ E.own (E.push m w.heap.size z) := by
  have hle := h.le_push o m w.heap.size z
  have hown : E.own (E.push m w.heap.size z) := by
    refine ⟨fun b => ?_, fun b e => ?_⟩
    · simp only [Env.push]
      split
      · next q => subst q; omega
      · exact Nat.le_refl _
    · simp only [Env.push] at e ⊢
      by_cases q : b = m
      · subst q; simp at e; omega
      · simp [q]
  have hsz : (w.alloc o).heap.size = w.heap.size + 1 := World.size_alloc _ _
  refine ⟨⟨fun x y c hx hy => ?_, fun x c hx => ?_, fun b hb => ?_, fun x b hb' => ?_, fun x hx => ?_, fun b hb => ?_, h.g0, h.gn, h.bel.alloc h.bel.size _, B.stab _ _ _ _ hle hown h.phi⟩, hown⟩
  · simp only [Env.push] at hx hy
    split at hx <;> split at hy
    · omega
    · cases hx; have := (h.own _ _ hy).2.1; omega
    · cases hy; have := (h.own _ _ hx).2.1; omega
    · exact h.inj _ _ _ hx hy
  · simp only [Env.push] at hx
    split at hx
    · cases hx
      exact ⟨h.bel.size, by omega, fun q => by have := h.good _ q; omega⟩
    · obtain ⟨h1, h2, h3⟩ := h.own _ _ hx
      exact ⟨h1, by omega, h3⟩
  · simp only [Env.push] at hb ⊢
    split at hb
    · omega
    · next q => rw [if_neg q]; exact h.wf b hb
  · by_cases hne : x = m
    · subst hne
      rw [hm] at hb'
      cases hb'
      have k1 : (E.push x w.heap.size z).κ x = 1 := by simp [Env.push]
      have k2 : (E.push x w.heap.size z).σ x = some w.heap.size := by simp [Env.push]
      rw [k1, k2]
      exact .inr ⟨hv, fun c hc => by cases hc; exact hb hle hown, fun hn => by cases hn⟩
    · have hk : (E.push m w.heap.size z).κ x = E.κ x := by simp [Env.push, hne]
      have hs' : (E.push m w.heap.size z).σ x = E.σ x := by simp [Env.push, hne]
      have hz' : (E.push m w.heap.size z).ζ x = E.ζ x := by simp [Env.push, hne]
      rw [hk, hs']
      rcases h.heap x b hb' with q | ⟨q1, q2, q3⟩
      · exact .inl q
      · exact .inr ⟨q1, fun c hc => (q2 c hc).move hle hown (alloc_heap w _ c (h.own x c hc).2.1) hz', q3⟩
  · have hlt := (List.getElem?_eq_some_iff.1 hm).1
    have := h.out x hx
    simp only [Env.push]
    rw [if_neg (by omega), if_neg (by omega)]
    exact this
  · have := h.good b hb
    omega
theorem WRel.ext (h : WRel B H E w) (nws : List Bk) : WRel B (H ++ nws) E w := by
  refine ⟨h.inj, h.own, h.wf, fun x b hx => ?_, fun x hx => h.out x (by simp at hx; omega), h.good, h.g0, h.gn, h.bel, h.phi⟩
  by_cases q : x < H.length
  · rw [List.getElem?_append_left q] at hx
    exact h.heap x b hx
  · have := h.out x (by omega)
    exact .inl ⟨this.2, this.1⟩
/-- a new block of data -/
def Env.data1 (E : Env) (c : Nat) : Env := ⟨fun b => E.G b ∨ b = c, E.σ, E.κ, E.ζ⟩
theorem WRel.le_data (h : WRel B H E w) (o : Obj) (c : Nat) : E.le w (w.alloc o) (E.data1 c) := ⟨fun _ h => .inl h, fun b hb => alloc_heap w o b (h.good b hb)⟩
theorem Env.own_data (E : Env) (c : Nat) : E.own (E.data1 c) := ⟨fun _ => Nat.le_refl _, fun _ _ => ⟨rfl, fun _ _ => rfl⟩⟩
theorem WRel.pushd (h : WRel B H E w) (o : Obj) : WRel B H (E.data1 w.heap.size) (w.alloc o) := by
  have hle := h.le_data o w.heap.size
  have hsz : (w.alloc o).heap.size = w.heap.size + 1 := World.size_alloc _ _
  refine ⟨h.inj, fun x c hx => ?_, h.wf, fun x b hb => ?_, h.out, fun b hb => ?_, fun b hb => .inl (h.g0 b hb), fun b hb => ?_, h.bel.alloc h.bel.size _, B.stab _ _ _ _ hle (Env.own_data E _) h.phi⟩
  · obtain ⟨h1, h2, h3⟩ := h.own x c hx
    exact ⟨h1, by omega, fun q => by rcases q with q | q; exact h3 q; omega⟩
  · rcases h.heap x b hb with q | ⟨q1, q2, q3⟩
    · exact .inl q
    · exact .inr ⟨q1, fun c hc => (q2 c hc).move hle (Env.own_data E _) (alloc_heap w _ c (h.own x c hc).2.1) rfl, q3⟩
  · rcases hb with hb | hb
    · have := h.good b hb; omega
    · omega
  · rcases hb with hb | hb
    · exact h.gn b hb
    · exact .inr (by rw [hb]; exact h.bel.size)
end
/-! What comes of an operation, as a condition on what follows. -/
inductive ElemP {α : Type} (l : List α) (i : IE) (K : α → Prop) : Prop
  | mk (h0 : 0 ≤ i.den ∧ i.den < l.length) (h : ∀ x, l[i.den.toNat]? = some x → K x)
inductive ElemL (es : List (List D)) (i : IE) (K : List D → Prop) : Prop
  | mk (h0 : 0 ≤ i.den ∧ i.den < es.length) (h : ∀ x, es[i.den.toNat]? = some x → K x)
inductive ReqP (p : Unit → Prop) (K : Prop) : Prop
  | mk (h : p ()) (k : p () → K)
def ReqQ (b : Bool) (p : Unit → Prop) (K : Prop) : Prop := match b with
  | true => K
  | false => ReqP p K
theorem ReqQ.get {b : Bool} {p : Unit → Prop} {K : Prop} (h : ReqQ b p K) (hb : b = true → p ()) : p () ∧ K := by
  cases b with
  | true => exact ⟨hb rfl, h⟩
  | false => obtain ⟨h1, h2⟩ := (show ReqP p K from h); exact ⟨h1, h2 h1⟩
inductive SplitP (b : BE) (A B : Prop) : Prop
  | mk (t : b.den = true → A) (f : b.den = false → B)
inductive LetP {α : Type} (f : Unit → List α) (K : List α → Prop) : Prop
  | mk (h : ∀ l, l = f () → K l)
inductive LetBP (f : Unit → Bool) (K : Bool → Prop) : Prop
  | mk (h : ∀ b, b = f () → K b)
inductive LetSP (f : Unit → ByteArray) (K : ByteArray → Prop) : Prop
  | mk (h : ∀ s, s = f () → K s)
inductive ElemR (r : RE) (i : IE) (K : List D → Prop) : Prop
  | mk (h0 : 0 ≤ i.den ∧ i.den < r.den.length) (h : ∀ x, r.den[i.den.toNat]? = some x → K x)
inductive LetOP (f : Unit → Option Int) (K0 : Prop) (K : Int → Prop) : Prop
  | mk (h0 : f () = none → K0) (h : ∀ y, f () = some y → K y)
inductive LetDP (f : Unit → Option D) (K0 : Prop) (K : D → Prop) : Prop
  | mk (h0 : f () = none → K0) (h : ∀ y, f () = some y → K y)
inductive StuckP (o : Oper) (ds : List D) : Prop
def QR.run (o : Oper) (ds : List D) (n0 : Nat) (K : D → List Bk → Prop) : QR → Prop
  | .ret d => K d []
  | .req p r => ReqP p (r.run o ds n0 K)
  | .elem c l i k => ElemP l i fun x => K (k (c x)) []
  | .elemL es i k => ElemL es i fun x => K (k x) []
  | .newc l => K (.ptr n0 1 0) [.cells l]
  | .newd _ n es => K (.sll n es) []
  | .newr ty n r len => K (.osl n n0 1 (.lit false) (.lit 0) len) [.row ty n 1 r]
  | .letl f k => LetP f fun l => K (k l) []
  | .letb f k => LetBP f fun b => K (k b) []
  | .lets f k => LetSP f fun b => K (k b) []
  | .elemR r i k => ElemR r i fun x => K (k x) []
  | .leto f k0 k => LetOP f (K k0 []) fun y => K (k y) []
  | .letd f k0 k => LetDP f (K k0 []) fun y => K (k y) []
  | .newm kk => K (.mapr n0) [.mp kk (.lits [])]
  | .newa k m f => K (.ptr n0 1 0) [.arr k m f]
  | .stuck => StuckP o ds
end Go.Proofs.Ytdhfakajlnidiaa
namespace Go.Proofs.Ytdhfakajlnidiaa
open Go.RowKit

/-! Stores into own blocks. -/
def D.cellB : D → Bool
  | .junk | .agg _ | .tup _ | .arr .. => false
  | _ => true
theorem DRep.one {w : World} {E : Env} {d : D} {v : Value} (h : DRep w E d v) (hd : d.cellB = true) : v.oneCell' = true := by
  cases h <;> first | rfl | cases hd
theorem setCells_blk {b : Nat} {t : TypeId} : ∀ (vs : List Value) (o : Nat) (w : World) (c : Array Value), Blk w b c t → o + vs.length ≤ c.size →
    ∃ c', Blk (w.setCells b o vs) b c' t ∧ c'.size = c.size ∧ ∀ j, j < c.size → c'[j]? = if o ≤ j ∧ j < o + vs.length then vs[j - o]? else c[j]?
  | [], o, w, c, h, _ => ⟨c, h, rfl, fun j _ => by simp; omega⟩
  | v :: vs, o, w, c, h, hl => by
    simp only [List.length_cons] at hl
    obtain ⟨c', h1, h2, h3⟩ := setCells_blk vs (o + 1) (w.setCell ⟨b, o, none⟩ v) _ (h.set o v) (by simp; omega)
    refine ⟨c', h1, by simpa using h2, fun j hj => ?_⟩
    rw [h3 j (by simpa using hj)]
    by_cases e : j = o
    · subst e
      rw [if_neg (by omega), if_pos (by simp)]
      simp [hj]
    · by_cases q : o + 1 ≤ j ∧ j < o + 1 + vs.length
      · rw [if_pos q, if_pos (by simp; omega), show j - o = (j - (o + 1)) + 1 by omega, List.getElem?_cons_succ]
      · rw [if_neg q, if_neg (by simp; omega), Array.getElem?_setIfInBounds_ne (by omega)]
theorem setCells_heap (b : Nat) (vs : List Value) (o : Nat) (w : World) (c : Nat) (h : c ≠ b) : (w.setCells b o vs).heap[c]? = w.heap[c]? := by
  induction vs generalizing o w with
  | nil => rfl
  | cons v vs ih => exact (ih (o + 1) _).trans (Below.heap_setCell w _ v c h)
theorem setCells_size (b : Nat) (vs : List Value) (o : Nat) (w : World) : (w.setCells b o vs).heap.size = w.heap.size := by
  induction vs generalizing o w with
  | nil => rfl
  | cons v vs ih => rw [World.setCells, ih]; simp [World.setCell]
theorem WRel.le_set {B : Base} {H : List Bk} {E : Env} {w : World} (h : WRel B H E w) {x c : Nat} (hx : E.σ x = some c) (vs : List Value) (o : Nat) : E.le w (w.setCells c o vs) E := ⟨fun _ h => h, fun k hk => by
  have ho := (h.own x c hx).2.2
  exact setCells_heap c vs o w k (fun e => ho (by rw [← e]; exact hk))⟩
/-- an own block gets another content -/
theorem WRel.put {B : Base} {H : List Bk} {E : Env} {w : World} (h : WRel B H E w) {x c : Nat} (hx : E.σ x = some c) {b b' : Bk} (hb : H[x]? = some b) (vs : List Value) (o : Nat) (hv : b'.ver (E.κ x)) (hnew : BRep (w.setCells c o vs) E x c b') :
    WRel B (H.set x b') E (w.setCells c o vs) ∧ E.le w (w.setCells c o vs) E := by
  obtain ⟨ho1, ho2, ho3⟩ := h.own x c hx
  have hle := h.le_set hx vs o
  have hxl : x < H.length := (List.getElem?_eq_some_iff.1 hb).1
  refine ⟨⟨h.inj, fun y k hy => ?_, h.wf, fun y b2 hy => ?_, fun y hy => h.out y (by simpa using hy), fun k hk => by rw [setCells_size]; exact h.good k hk, h.g0, h.gn, h.bel.trans (below_setCells ho1 vs o w), B.stab _ _ _ _ hle (Env.own.refl _) h.phi⟩, hle⟩
  · obtain ⟨h1, h2, h3⟩ := h.own y k hy
    exact ⟨h1, by rw [setCells_size]; exact h2, h3⟩
  · by_cases e : y = x
    · subst e
      rw [List.getElem?_set_self hxl] at hy
      cases hy
      refine .inr ⟨hv, fun k hk => ?_, fun hn => by rw [hn] at hx; cases hx⟩
      rw [hx] at hk
      cases hk
      exact hnew
    · rw [List.getElem?_set_ne (fun q => e q.symm)] at hy
      rcases h.heap y b2 hy with q | ⟨q1, q2, q3⟩
      · exact .inl q
      · exact .inr ⟨q1, fun k hk => (q2 k hk).move hle (Env.own.refl _) (setCells_heap c vs o w k fun e2 => e (h.inj _ _ _ hk (e2 ▸ hx))) rfl, q3⟩
/-- the store itself -/
theorem run_store_cells {P : Program} {w : World} {t : Nat} {ti : TI} (hT : TI.of P t = some ti) {c o : Nat} {cs : Array Value} {tt : TypeId} (hb : Blk w c cs tt) {v : Value} (hs : v.cells.size = ti.size) (hle : o + v.cells.size ≤ cs.size) (h1 : ∀ u ∈ v.cells.toList, u.oneCell' = true) :
    (Instr.storeAt t (.pointer (some ⟨c, o, none⟩)) v).run P w = .ok () (w.setCells c o v.cells.toList) := by
  obtain ⟨i, d, g1, _, _, g4, _, _⟩ := TI.of_spec hT
  have := run_storeCells_cells (P := P) c o v.cells.toList 0 w (fun j hj => by
    rw [hb.cell]; simp; simp at hj; omega) (fun j hj => hb.frozen _) h1
  simp only [Nat.add_zero] at this
  simp [Instr.storeAt, Instr.sureAddr, storeVar, sizeOf, typeInfo, g1, g4, hs, this]
def RE.mkUpd (r : RE) (i : IE) (off : Nat) (m : List D) : RE := match r, i with
  | .lits es, .lit k => .lits (es.modify k.toNat fun cs => over cs off m)
  | r, i => .upd r i off m
theorem RE.mkUpd_den (r : RE) (i : IE) (off : Nat) (m : List D) : (RE.mkUpd r i off m).den = r.den.modify i.den.toNat fun cs => over cs off m := by
  unfold RE.mkUpd
  split <;> simp [RE.den, IE.den]
def ltLit (i : IE) (r : RE) : Bool := match i, r with
  | .lit k, .lits es => decide (k.toNat < es.length)
  | _, _ => false
theorem ltLit_spec {i : IE} {r : RE} (h : ltLit i r = true) : i.den.toNat < r.den.length := by
  unfold ltLit at h
  split at h
  · simpa [IE.den, RE.den] using h
  · cases h
/-- what a store does to the blocks, and what follows -/
def sStore (T : Tab) (H : List Bk) (o : Oper) (t : Nat) (a d : D) (K : List Bk → Prop) : Prop := match T.get t, d.cells with
  | some ti, some m => if m.length = ti.size && m.all D.cellB then (match a with
    | .ptr b ver off => (match H[b]? with
      | some (.cells l) => if ver = 1 ∧ off + m.length ≤ l.length then K (H.set b (.cells (over l off m))) else StuckP o [a, d]
      | _ => StuckP o [a, d])
    | .rp n b ver i off => (match H[b]? with
      | some (.row ty n' ver' r) => if n' = n ∧ ver' = ver ∧ off + m.length ≤ n ∧ m.all (D.dataB 5) then ReqQ (ltLit i r) (fun _ => i.den.toNat < r.den.length) (K (H.set b (.row ty n ver (RE.mkUpd r i off m)))) else StuckP o [a, d]
      | _ => StuckP o [a, d])
    | _ => StuckP o [a, d]) else StuckP o [a, d]
  | _, _ => StuckP o [a, d]
/-- what an operation does that may write -/
def EEff (P : Program) (H : List Bk) (ρ : Operand → D) (o : Oper) (H' : List Bk) (d : D) : Prop :=
  ∀ (B : Base) (w : World) (E : Env) (ev : Operand → Value), (∀ x, DRep w E (ρ x) (ev x)) → WRel B H E w →
    ∃ nx v w' E', (execOp ev o).run P w = .ok nx w' ∧ (nx = .value v ∨ (nx = .skip ∧ v = undef)) ∧ WRel B H' E' w' ∧ E.le w w' E' ∧ E.own E' ∧ DRep w' E' d v ∧ ∀ y : Nat, H'[y]? = H[y]? → E'.σ y = E.σ y ∧ E'.κ y = E.κ y
section
variable {P : Program} {T : Tab} {H : List Bk} {ρ : Operand → D} {o : Oper}
theorem sStore_eff (hT : T.ok P) {t : Nat} {a x : Operand} (ho : o.op = .store t a x) {K : List Bk → Prop} (hk : sStore T H o t (ρ a) (ρ x) K) : ∃ H', EEff P H ρ o H' (.tup []) ∧ K H' := by
  have hx : ∀ ev : Operand → Value, execOp ev o = (do Instr.storeAt t (ev a) (ev x); pure .skip) := fun ev => by unfold execOp; rw [ho]
  have und : ∀ {w : World} {E : Env}, DRep w E (.tup []) undef := DRep.tup rfl fun i d v h => by simp at h
  unfold sStore at hk
  split at hk
  · next ti m hti hm =>
    have hti' := Tab.get_ok hT hti
    split at hk
    · next hc =>
      simp only [Bool.and_eq_true, decide_eq_true_eq, List.all_eq_true] at hc
      obtain ⟨hlen, hcell⟩ := hc
      have cellsOK : ∀ {w : World} {E : Env} {ev : Operand → Value}, (∀ x, DRep w E (ρ x) (ev x)) → (ev x).cells.size = m.length ∧ (∀ (i : Nat) e, m[i]? = some e → ∃ u, (ev x).cells[i]? = some u ∧ DRep w E e u) ∧ ∀ u ∈ (ev x).cells.toList, u.oneCell' = true := by
        intro w E ev hev
        obtain ⟨h1, h2⟩ := (hev x).cells hm
        refine ⟨h1, h2, fun u hu => ?_⟩
        obtain ⟨i, hi⟩ := List.getElem?_of_mem hu
        rw [Array.getElem?_toList] at hi
        have hlt := (Array.getElem?_eq_some_iff.1 hi).1
        obtain ⟨u', h3, h4⟩ := h2 i _ (List.getElem?_eq_getElem (by omega))
        rw [hi] at h3
        cases h3
        exact h4.one (hcell _ (List.getElem_mem _))
      split at hk
      · next b ver off hd =>
        split at hk
        · next l hl =>
          split at hk
          · next hcc =>
            obtain ⟨rfl, hle⟩ := hcc
            refine ⟨_, fun B w E ev hev hw => ?_, hk⟩
            have h1 := hev a
            rw [hd] at h1
            obtain ⟨c, hk1, hs1, hv1⟩ := ptr_at (by unfold Bk.at; rw [hl]; simp) hw.heap h1
            obtain ⟨h2, h3, h4⟩ := cellsOK hev
            rcases hw.heap b _ hl with q | ⟨_, q2, _⟩
            · omega
            · obtain ⟨cs, tt, g1, g2, gz, g3⟩ := q2 c hs1
              have hrun := run_store_cells hti' (c := c) (o := off) (w := w) (cs := cs) (tt := tt) g1 (v := ev x) (by omega) (by omega) h4
              obtain ⟨c', e1, e2, e3⟩ := setCells_blk (ev x).cells.toList off w cs g1 (by simp; omega)
              have hlen2 : (over l off m).length = l.length := by simp [over]; omega
              have hold := hw.le_set hs1 (ev x).cells.toList off
              obtain ⟨f1, f2⟩ := hw.put hs1 hl (b' := .cells (over l off m)) (ev x).cells.toList off (by rw [hk1]; rfl) ⟨c', tt, e1, by omega, by rw [hlen2]; exact gz, fun i d hdd => by
                have hi : i < l.length := by rw [← hlen2]; exact (List.getElem?_eq_some_iff.1 hdd).1
                rw [e3 i (by omega)]
                simp only [Array.length_toList, h2]
                unfold over at hdd
                rw [List.append_assoc] at hdd
                by_cases p1 : i < off
                · rw [if_neg (by omega)]
                  rw [List.getElem?_append_left (by simp; omega), List.getElem?_take, if_pos p1] at hdd
                  obtain ⟨v, k1, k2⟩ := g3 i d hdd
                  exact ⟨v, k1, k2.move hold (Env.own.refl _)⟩
                · rw [List.getElem?_append_right (by simp; omega)] at hdd
                  have e2' : i - (List.take off l).length = i - off := by simp; omega
                  rw [e2'] at hdd
                  by_cases p2 : i < off + m.length
                  · rw [if_pos ⟨by omega, p2⟩]
                    rw [List.getElem?_append_left (by omega)] at hdd
                    obtain ⟨u, k1, k2⟩ := h3 (i - off) d hdd
                    exact ⟨u, by rw [Array.getElem?_toList]; exact k1, k2.move hold (Env.own.refl _)⟩
                  · rw [if_neg (by omega)]
                    rw [List.getElem?_append_right (by omega), List.getElem?_drop] at hdd
                    rw [show off + m.length + (i - off - m.length) = i by omega] at hdd
                    obtain ⟨v, k1, k2⟩ := g3 i d hdd
                    exact ⟨v, k1, k2.move hold (Env.own.refl _)⟩⟩
              exact ⟨.skip, undef, _, E, by rw [hx, hv1]; simp [hrun], .inr ⟨rfl, rfl⟩, f1, f2, Env.own.refl _, und, fun _ _ => ⟨rfl, rfl⟩⟩
          · cases hk
        · cases hk
      · next n b ver i off hd =>
        split at hk
        · next ty n' ver' r hl =>
          split at hk
          · next hcc =>
            obtain ⟨rfl, rfl, hle, hdata⟩ := hcc
            obtain ⟨hlt, hk⟩ := ReqQ.get hk ltLit_spec
            refine ⟨_, fun B w E ev hev hw => ?_, hk⟩
            have h1 := hev a
            rw [hd] at h1
            obtain ⟨c, hk1, hs1, hi1, hv1⟩ := rp_at (by unfold Bk.at; rw [hl]; simp) hw.heap h1
            obtain ⟨h2, h3, h4⟩ := cellsOK hev
            rcases hw.heap b _ hl with q | ⟨_, q2, _⟩
            · rw [q.2] at hs1; cases hs1
            · obtain ⟨cs, tt, gt, g1, g2, g3, g4⟩ := q2 c hs1
              have hin : i.den.toNat * n' + n' ≤ cs.size := by
                have : (i.den.toNat + 1) * n' ≤ r.den.length * n' := Nat.mul_le_mul_right _ hlt
                rw [Nat.add_mul, Nat.one_mul] at this
                omega
              have hrun := run_store_cells hti' (c := c) (o := i.den.toNat * n' + off) (w := w) (cs := cs) (tt := tt) g1 (v := ev x) (by omega) (by omega) h4
              obtain ⟨c', e1, e2, e3⟩ := setCells_blk (ev x).cells.toList (i.den.toNat * n' + off) w cs g1 (by simp; omega)
              have hold := hw.le_set hs1 (ev x).cells.toList (i.den.toNat * n' + off)
              obtain ⟨f1, f2⟩ := hw.put hs1 hl (b' := .row ty n' ver' (RE.mkUpd r i off m)) (ev x).cells.toList (i.den.toNat * n' + off) (by rw [hk1]; rfl) ⟨c', tt, gt, e1, by omega, by simp only [RE.mkUpd_den, List.length_modify]; omega, fun k e he => by
                simp only [RE.mkUpd_den, List.getElem?_modify, Option.map_eq_map] at he
                by_cases p0 : i.den.toNat = k
                · subst p0
                  simp only [if_true, Option.map_eq_some_iff] at he
                  obtain ⟨e0, he0, rfl⟩ := he
                  obtain ⟨k1, k2⟩ := g4 _ _ he0
                  refine ⟨by simp [over]; omega, fun j d hdd => ?_⟩
                  have hj : j < n' := by
                    have := (List.getElem?_eq_some_iff.1 hdd).1
                    simp [over] at this
                    omega
                  rw [e3 _ (by omega)]
                  simp only [Array.length_toList, h2]
                  unfold over at hdd
                  rw [List.append_assoc] at hdd
                  by_cases p1 : j < off
                  · rw [if_neg (by omega)]
                    rw [List.getElem?_append_left (by simp; omega), List.getElem?_take, if_pos p1] at hdd
                    obtain ⟨v, k3, k4⟩ := k2 j d hdd
                    exact ⟨v, k3, k4.move hold.data Env.own.data⟩
                  · rw [List.getElem?_append_right (by simp; omega)] at hdd
                    have e2' : j - (List.take off e0).length = j - off := by simp; omega
                    rw [e2'] at hdd
                    by_cases p2 : j < off + m.length
                    · rw [if_pos ⟨by omega, by omega⟩]
                      rw [List.getElem?_append_left (by omega)] at hdd
                      obtain ⟨u, k3, k4⟩ := h3 (j - off) d hdd
                      refine ⟨u, by rw [Array.getElem?_toList, show i.den.toNat * n' + j - (i.den.toNat * n' + off) = j - off by omega]; exact k3, ?_⟩
                      exact (D.dataB_rep (E := E) (E' := E.data) rfl 5 (List.all_eq_true.1 hdata d (List.mem_of_getElem? hdd)) k4).move hold.data Env.own.data
                    · rw [if_neg (by omega)]
                      rw [List.getElem?_append_right (by omega), List.getElem?_drop] at hdd
                      rw [show off + m.length + (j - off - m.length) = j by omega] at hdd
                      obtain ⟨v, k3, k4⟩ := k2 j d hdd
                      exact ⟨v, k3, k4.move hold.data Env.own.data⟩
                · simp only [p0, if_false, Option.map_eq_some_iff] at he
                  have he0 : r.den[k]? = some e := by
                    obtain ⟨e0, q1, q2⟩ := he
                    rw [q1]; exact congrArg some q2
                  obtain ⟨k1, k2⟩ := g4 _ _ he0
                  refine ⟨k1, fun j d hdd => ?_⟩
                  have hj : j < n' := by rw [← k1]; exact (List.getElem?_eq_some_iff.1 hdd).1
                  obtain ⟨v, k3, k4⟩ := k2 j d hdd
                  have hb := (Array.getElem?_eq_some_iff.1 k3).1
                  refine ⟨v, ?_, k4.move hold.data Env.own.data⟩
                  rw [e3 _ hb, if_neg, k3]
                  simp only [Array.length_toList, h2]
                  rcases Nat.lt_or_ge k i.den.toNat with p1 | p1
                  · have : (k + 1) * n' ≤ i.den.toNat * n' := Nat.mul_le_mul_right _ p1
                    rw [Nat.add_mul, Nat.one_mul] at this
                    omega
                  · have : (i.den.toNat + 1) * n' ≤ k * n' := Nat.mul_le_mul_right _ (by omega)
                    rw [Nat.add_mul, Nat.one_mul] at this
                    omega⟩
              exact ⟨.skip, undef, _, E, by rw [hx, hv1]; simp [hrun], .inr ⟨rfl, rfl⟩, f1, f2, Env.own.refl _, und, fun _ _ => ⟨rfl, rfl⟩⟩
          · cases hk
        · cases hk
      · cases hk
    · cases hk
  · cases hk
end
/-- a function that gets another value at one place -/
def updA (f : Nat → Int) (i e : IE) (j : Nat) : Int := if j = i.den.toNat then e.den else f j
/-- stores into arrays that are functions -/
def sStore2 (T : Tab) (H : List Bk) (o : Oper) (t : Nat) (a d : D) (K : List Bk → Prop) : Prop := match a, d with
  | .ap m b i, .int k e => (match H[b]? with
    | some (.arr k' m' f) => if decide (k' = k) && decide (m' = m) && intT T t k then K (H.set b (.arr k m (updA f i e))) else StuckP o [a, d]
    | _ => StuckP o [a, d])
  | .ptr b ver 0, .arr k m g => (match H[b]? with
    | some (.arr k' m' _) => if decide (ver = 1) && decide (k' = k) && decide (m' = m) && arrT T t k m then K (H.set b (.arr k m g)) else StuckP o [a, d]
    | _ => StuckP o [a, d])
  | a, d => sStore T H o t a d K
section
variable {P : Program} {T : Tab} {H : List Bk} {ρ : Operand → D} {o : Oper}
theorem sStore2_eff (hT : T.ok P) {t : Nat} {a x : Operand} (ho : o.op = .store t a x) {K : List Bk → Prop} (hk : sStore2 T H o t (ρ a) (ρ x) K) : ∃ H', EEff P H ρ o H' (.tup []) ∧ K H' := by
  have hx : ∀ ev : Operand → Value, execOp ev o = (do Instr.storeAt t (ev a) (ev x); pure .skip) := fun ev => by unfold execOp; rw [ho]
  have und : ∀ {w : World} {E : Env}, DRep w E (.tup []) undef := DRep.tup rfl fun i d v h => by simp at h
  unfold sStore2 at hk
  split at hk
  · next m b i k e hd hdx =>
    split at hk
    · next k' m' f hb =>
      split at hk
      · next hc =>
        simp only [Bool.and_eq_true, decide_eq_true_eq] at hc
        obtain ⟨⟨rfl, rfl⟩, hc⟩ := hc
        obtain ⟨ti, h1, _, h3, _⟩ := intT_spec hT hc
        refine ⟨_, fun B w E ev hev hw => ?_, hk⟩
        have hva := hev a
        rw [hd] at hva
        have hvx := hev x
        rw [hdx] at hvx
        generalize hv : ev a = va at hva
        generalize hv2 : ev x = vx at hvx
        cases hvx with | int hin =>
        cases hva with
        | @ap _ _ _ _ c hκ hσ hi =>
          rcases hw.heap b _ hb with q | ⟨_, q2, _⟩
          · omega
          · obtain ⟨cs, tt, g1, g2, gz, g3⟩ := q2 c hσ
            have hrun := run_store_cells h1 (c := c) (o := i.den.toNat) (w := w) (cs := cs) (tt := tt) g1 (v := .int k' e.den) (by simp [Value.cells, h3]) (by simp [Value.cells]; omega) (by simp [Value.cells, Value.oneCell'])
            obtain ⟨c', e1, e2, e3⟩ := setCells_blk (Value.cells (.int k' e.den)).toList i.den.toNat w cs g1 (by simp [Value.cells]; omega)
            obtain ⟨f1, f2⟩ := hw.put hσ hb (b' := .arr k' m' (updA f i e)) (Value.cells (.int k' e.den)).toList i.den.toNat (by rw [hκ]; rfl) ⟨c', tt, e1, by omega, gz, fun j hj => by
              rw [e3 j (by omega)]
              obtain ⟨g4, g5⟩ := g3 j hj
              by_cases q : j = i.den.toNat
              · subst q
                simp only [updA, if_true]
                exact ⟨by simp [Value.cells], hin⟩
              · rw [if_neg (by simp [Value.cells]; omega)]
                simp only [updA, if_neg q]
                exact ⟨g4, g5⟩⟩
            exact ⟨.skip, undef, _, E, by rw [hx, hv, hv2]; simp [hrun], .inr ⟨rfl, rfl⟩, f1, f2, Env.own.refl _, und, fun _ _ => ⟨rfl, rfl⟩⟩
        | aps hκ =>
          rcases hw.heap b _ hb with q | ⟨q, _⟩
          · omega
          · simp only [Bk.ver] at q; omega
      · cases hk
    · cases hk
  · next b ver k m g hd hdx =>
    split at hk
    · next k' m' f hb =>
      split at hk
      · next hc =>
        simp only [Bool.and_eq_true, decide_eq_true_eq] at hc
        obtain ⟨⟨⟨rfl, rfl⟩, rfl⟩, hc⟩ := hc
        obtain ⟨ti, ee, te, h1, _, h3, _⟩ := arrT_spec hT hc
        refine ⟨_, fun B w E ev hev hw => ?_, hk⟩
        have hva := hev a
        rw [hd] at hva
        have hvx := hev x
        rw [hdx] at hvx
        obtain ⟨c, hκ, hσ, hv⟩ := ptr_at (by unfold Bk.at; rw [hb]; simp) hw.heap hva
        generalize hv2 : ev x = vx at hvx
        cases hvx with | @arr _ _ _ _ vs hs hh =>
        rcases hw.heap b _ hb with q | ⟨_, q2, _⟩
        · omega
        · obtain ⟨cs, tt, g1, g2, gz, g3⟩ := q2 c hσ
          have hone : ∀ u ∈ (Value.cells (.agg vs)).toList, u.oneCell' = true := fun u hu => by
            simp only [Value.cells] at hu
            obtain ⟨j, hj⟩ := List.getElem?_of_mem hu
            rw [Array.getElem?_toList] at hj
            have hjl := (Array.getElem?_eq_some_iff.1 hj).1
            obtain ⟨g4, _⟩ := hh j (by omega)
            rw [g4] at hj
            cases hj
            rfl
          have hrun := run_store_cells h1 (c := c) (o := 0) (w := w) (cs := cs) (tt := tt) g1 (v := .agg vs) (by simp [Value.cells, h3, hs]) (by simp [Value.cells]; omega) hone
          obtain ⟨c', e1, e2, e3⟩ := setCells_blk (Value.cells (.agg vs)).toList 0 w cs g1 (by simp [Value.cells]; omega)
          obtain ⟨f1, f2⟩ := hw.put hσ hb (b' := .arr k' m' g) (Value.cells (.agg vs)).toList 0 (by rw [hκ]; rfl) ⟨c', tt, e1, by omega, gz, fun j hj => by
            rw [e3 j (by omega), if_pos (by simp [Value.cells]; omega)]
            simp only [Value.cells, Nat.sub_zero, Array.getElem?_toList]
            exact hh j hj⟩
          exact ⟨.skip, undef, _, E, by rw [hx, hv, hv2]; simp [hrun], .inr ⟨rfl, rfl⟩, f1, f2, Env.own.refl _, und, fun _ _ => ⟨rfl, rfl⟩⟩
      · cases hk
    · cases hk
  · exact sStore_eff hT ho hk
end
end Go.Proofs.Ytdhfakajlnidiaa
namespace Go.Proofs.Ytdhfakajlnidiaa
open Go.RowKit

def Compat (H nw Hx : List Bk) : Prop := ∀ (x : Nat) (b : Bk), (H ++ nw)[x]? = some b → b = .dead ∨ Hx[x]? = some b
def Fresh (E : Env) (n m : Nat) : Prop := ∀ x, n ≤ x → x < m → E.σ x = none ∧ E.κ x = 0
/-- an operation that is quiet, among blocks of which some are not laid yet -/
def OpX (P : Program) (H : List Bk) (ρ : Operand → D) (o : Oper) (d : D) (nw : List Bk) : Prop :=
  ∀ (B : Base) (Hx : List Bk) (w : World) (E : Env) (a : Act), (∀ x, DRep w E (ρ x) (a.eval x)) → WRel B Hx E w → Compat H nw Hx → Fresh E H.length (H.length + nw.length) → ∀ (K : Act → World → Prop) (Q : Exit → Act → World → Prop),
    (∀ v w' E', WRel B Hx E' w' → E.le w w' E' → E.own E' → (∀ x, x < H.length ∨ H.length + nw.length ≤ x → E'.σ x = E.σ x ∧ E'.κ x = E.κ x) → DRep w' E' d v → K (a.put o.dst v) w') → o.wp P a w K Q
theorem Compat.heap {H nw Hx : List Bk} (h : Compat H nw Hx) {w : World} {E : Env} (hH : HRep w E Hx) : HRep w E H := fun x b hx => by
  have hlt := (List.getElem?_eq_some_iff.1 hx).1
  rcases h x b (by rw [List.getElem?_append_left hlt]; exact hx) with q | q
  · subst q
    exact .inr ⟨trivial, fun _ _ => trivial, fun _ => trivial⟩
  · exact hH x b q
theorem Compat.of {H nw Hx : List Bk} (h : Compat H nw Hx) {x : Nat} {b : Bk} (hb : (H ++ nw)[x]? = some b) (hd : b ≠ .dead) : Hx[x]? = some b := (h x b hb).resolve_left hd
theorem OpX.value {P : Program} {H : List Bk} {ρ : Operand → D} {o : Oper} {d : D} {nw : List Bk} (h : ∀ (B : Base) (Hx : List Bk) (w : World) (E : Env) (ev : Operand → Value), (∀ x, DRep w E (ρ x) (ev x)) → WRel B Hx E w → Compat H nw Hx → Fresh E H.length (H.length + nw.length) →
    ∃ v w' E', (execOp ev o).run P w = .ok (.value v) w' ∧ WRel B Hx E' w' ∧ E.le w w' E' ∧ E.own E' ∧ (∀ x, x < H.length ∨ H.length + nw.length ≤ x → E'.σ x = E.σ x ∧ E'.κ x = E.κ x) ∧ DRep w' E' d v) : OpX P H ρ o d nw := fun B Hx w E a hev hw hc hf K Q hk => by
  obtain ⟨v, w', E', h1, h2, h3, h4, h5, h6⟩ := h B Hx w E a.eval hev hw hc hf
  unfold Oper.wp
  rw [h1]
  exact hk v w' E' h2 h3 h4 h5 h6
theorem QR.effX {P : Program} {H : List Bk} {ρ : Operand → D} {o : Oper} {ds : List D} {K : D → List Bk → Prop} : ∀ (q : QR), q.good P H ρ o → q.run o ds H.length K → ∃ d nw, OpX P H ρ o d nw ∧ K d nw := by
  have ret : ∀ {d : D}, OpRet P H ρ o d → OpX P H ρ o d [] := fun {d} hg => OpX.value fun B Hx w E ev hev hw hc _ => by
    obtain ⟨v, h1, h2⟩ := hg w E ev hev hw.wf (hc.heap hw.heap)
    exact ⟨v, w, E, h1, hw, Env.le.refl _ _, Env.own.refl _, fun _ _ => ⟨rfl, rfl⟩, h2⟩
  intro q
  induction q with
  | ret d => exact fun hg hk => ⟨d, [], ret hg, hk⟩
  | req p r ih => exact fun hg hk => by obtain ⟨h1, h2⟩ := hk; exact ih (hg h1) (h2 h1)
  | elem c l i k =>
    intro hg hk
    obtain ⟨h0, h1⟩ := hk
    have hx : l[i.den.toNat]? = some (l[i.den.toNat]'(by omega)) := List.getElem?_eq_getElem (by omega)
    exact ⟨_, [], ret (hg h0.1 _ hx), h1 _ hx⟩
  | elemL l i k =>
    intro hg hk
    obtain ⟨h0, h1⟩ := hk
    have hx : l[i.den.toNat]? = some (l[i.den.toNat]'(by omega)) := List.getElem?_eq_getElem (by omega)
    exact ⟨_, [], ret (hg h0.1 _ hx), h1 _ hx⟩
  | newc l =>
    intro hg hk
    refine ⟨_, _, OpX.value fun B Hx w E ev hev hw hc hf => ?_, hk⟩
    obtain ⟨cs, t, h1, h2, h3⟩ := hg w E ev hev hw.wf (hc.heap hw.heap)
    obtain ⟨h4, h5⟩ := hw.layB (m := H.length) (z := l.length) (o := .cells cs t) (b0 := .cells l) (hc.of (by simp) (by simp)) (hf _ (Nat.le_refl _) (by simp)) rfl fun hle hown => ⟨cs, t, by show (w.heap.push _)[w.heap.size]? = _; simp, h2, by simp [Env.push], fun i d hd => by
      obtain ⟨v, q1, q2⟩ := h3 i d hd
      exact ⟨v, q1, q2.move hle hown⟩⟩
    exact ⟨_, _, _, h1, h4, hw.le_push _ _ _ _, h5, fun x hx => by simp only [List.length_cons, List.length_nil] at hx; simp only [Env.push]; rw [if_neg (by omega), if_neg (by omega)]; exact ⟨rfl, rfl⟩, .ptr (by simp [Env.push]) (by simp [Env.push])⟩
  | newd ty n es =>
    intro hg hk
    refine ⟨_, _, OpX.value fun B Hx w E ev hev hw hc hf => ?_, hk⟩
    obtain ⟨cs, h1, h2, _, h3⟩ := hg w E ev hev hw.wf (hc.heap hw.heap)
    refine ⟨_, _, _, h1, hw.pushd _, hw.le_data _ _, Env.own_data _ _, fun _ _ => ⟨rfl, rfl⟩, ?_⟩
    refine .sll (fun i j => (cs[i * n + j]?).getD undef) (Nat.le_refl _) h2 (fun x hx => ?_) ⟨_, 0, rfl, .inr rfl, fun i j hi hj => ?_⟩ fun i x j d hx hd => ?_
    · obtain ⟨i, hi⟩ := List.getElem?_of_mem hx
      exact (h3 i x hi).1
    · obtain ⟨h4, h5⟩ := h3 i _ (List.getElem?_eq_getElem hi)
      obtain ⟨v, h6, _⟩ := h5 j _ (List.getElem?_eq_getElem (by omega))
      rw [World.cell?_alloc_at _ _ _ _ rfl, Nat.zero_add, h6]
      rfl
    · obtain ⟨v, h6, h7⟩ := (h3 i x hx).2 j d hd
      rw [h6]
      exact h7.move (hw.le_data _ _).data Env.own.data
  | newr ty n r len =>
    intro hg hk
    refine ⟨_, _, OpX.value fun B Hx w E ev hev hw hc hf => ?_, hk⟩
    obtain ⟨cs, m, cap, h1, hmc, h2, h3, h6, h7, h8⟩ := hg w E ev hev hw.wf (hc.heap hw.heap)
    obtain ⟨h4, h5⟩ := hw.layB (m := H.length) (z := cs.size) (o := .cells cs ty) (b0 := .row ty n 1 r) (hc.of (by simp) (by simp)) (hf _ (Nat.le_refl _) (by simp)) rfl fun hle hown => ⟨cs, ty, .inr rfl, by show (w.heap.push _)[w.heap.size]? = _; simp, by simp [Env.push], by rw [h6, h7]; exact Nat.mul_le_mul_right _ hmc, fun i e he => by
      obtain ⟨q1, q2⟩ := h8 i e he
      exact ⟨q1, fun j d hd => by obtain ⟨v, q3, q4⟩ := q2 j d hd; exact ⟨v, q3, q4.move hle.data Env.own.data⟩⟩⟩
    refine ⟨_, _, _, h1, h4, hw.le_push _ _ _ _, h5, fun x hx => by simp only [List.length_cons, List.length_nil] at hx; simp only [Env.push]; rw [if_neg (by omega), if_neg (by omega)]; exact ⟨rfl, rfl⟩, ?_⟩
    have := DRep.oslc (w := w.alloc (.cells cs ty)) (E := E.push H.length w.heap.size cs.size) (n := n) (b := H.length) (ver := 1) (nb := .lit false) (lo := .lit 0) (len := len) (c := w.heap.size) (m := m) (cap := cap) (by simp [Env.push]) (by simp [Env.push]) rfl (by simp [IE.den]) h3 hmc h2 (by simp [IE.den, Env.push, h7])
    simpa [IE.den] using this
  | letb f k => exact fun hg hk => by obtain ⟨h⟩ := hk; exact ⟨_, [], ret hg, h _ rfl⟩
  | lets f k => exact fun hg hk => by obtain ⟨h⟩ := hk; exact ⟨_, [], ret hg, h _ rfl⟩
  | elemR r i k =>
    intro hg hk
    obtain ⟨h0, h1⟩ := hk
    have hx : r.den[i.den.toNat]? = some (r.den[i.den.toNat]'(by omega)) := List.getElem?_eq_getElem (by omega)
    exact ⟨_, [], ret (hg h0.1 _ hx), h1 _ hx⟩
  | leto f k0 k =>
    intro hg hk
    obtain ⟨h0, h⟩ := hk
    cases hf : f () with
    | none => exact ⟨_, [], ret (hg.1 hf), h0 hf⟩
    | some y => exact ⟨_, [], ret (hg.2 y hf), h y hf⟩
  | letd f k0 k =>
    intro hg hk
    obtain ⟨h0, h⟩ := hk
    cases hf : f () with
    | none => exact ⟨_, [], ret (hg.1 hf), h0 hf⟩
    | some y => exact ⟨_, [], ret (hg.2 y hf), h y hf⟩
  | newm kk =>
    intro hg hk
    refine ⟨_, _, OpX.value fun B Hx w E ev hev hw hc hf => ?_, hk⟩
    have h1 := hg w E ev hev hw.wf (hc.heap hw.heap)
    obtain ⟨h4, h5⟩ := hw.layB (m := H.length) (z := 0) (o := .map #[] 0) (b0 := .mp kk (.lits [])) (hc.of (by simp) (by simp)) (hf _ (Nat.le_refl _) (by simp)) rfl fun hle hown => ⟨#[], 0, heap_alloc_last w _, rfl, Nat.zero_le _, fun e he => by simp at he, fun x d h => by simp [ME.den, findE] at h, by simp, fun e he => by simp at he⟩
    exact ⟨_, _, _, h1, h4, hw.le_push _ _ _ _, h5, fun x hx => by simp only [List.length_cons, List.length_nil] at hx; simp only [Env.push]; rw [if_neg (by omega), if_neg (by omega)]; exact ⟨rfl, rfl⟩, .mapr (by simp [Env.push]) (by simp [Env.push])⟩
  | newa k m f =>
    intro hg hk
    refine ⟨_, _, OpX.value fun B Hx w E ev hev hw hc hf => ?_, hk⟩
    obtain ⟨cs, t, h1, h2, h3⟩ := hg w E ev hev hw.wf (hc.heap hw.heap)
    obtain ⟨h4, h5⟩ := hw.layB (m := H.length) (z := m) (o := .cells cs t) (b0 := .arr k m f) (hc.of (by simp) (by simp)) (hf _ (Nat.le_refl _) (by simp)) rfl fun hle hown => ⟨cs, t, by show (w.heap.push _)[w.heap.size]? = _; simp, h2, by simp [Env.push], h3⟩
    exact ⟨_, _, _, h1, h4, hw.le_push _ _ _ _, h5, fun x hx => by simp only [List.length_cons, List.length_nil] at hx; simp only [Env.push]; rw [if_neg (by omega), if_neg (by omega)]; exact ⟨rfl, rfl⟩, .ptr (by simp [Env.push]) (by simp [Env.push])⟩
  | letl f k => exact fun hg hk => by obtain ⟨h⟩ := hk; exact ⟨_, [], ret hg, h _ rfl⟩
  | stuck => exact fun _ hk => by cases hk
theorem OpX.toE {P : Program} {H : List Bk} {ρ : Operand → D} {o : Oper} {d : D} {nw : List Bk} {B : Base} {E : Env} {a : Act} {w : World} (h : OpX P H ρ o d nw) (hev : ∀ x, DRep w E (ρ x) (a.eval x)) (hw : WRel B H E w) {K : Act → World → Prop} {Q : Exit → Act → World → Prop}
    (hk : ∀ v w' E', WRel B (H ++ nw) E' w' → E.le w w' E' → E.own E' → DRep w' E' d v → K (a.put o.dst v) w') : o.wp P a w K Q :=
  h B (H ++ nw) w E a hev (hw.ext nw) (fun _ _ h => .inr h) (fun x h1 _ => hw.out x h1) K Q fun v w' E' h1 h2 h3 _ h5 => hk v w' E' h1 h2 h3 h5
end Go.Proofs.Ytdhfakajlnidiaa
namespace Go.Proofs.Ytdhfakajlnidiaa
open Go.RowKit

/-! append to a slice of the call's own. -/
/-- the elements that are appended: how wide, which, how many -/
def elemsOf (H : List Bk) : D → Option (Nat × RE × IE)
  | .slm n _ c l => some (n, .map c l, .len l)
  | .sll n es => some (n, .lits es, .lit es.length)
  | .osl n b ver _ lo len => match H[b]?, lo with
    | some (.row _ n' ver' r), .lit 0 => if n' = n ∧ ver' = ver then some (n, r, len) else none
    | _, _ => none
  | _ => none
theorem elemsOf_rep {B : Base} {H : List Bk} {E : Env} {w : World} (hw : WRel B H E w) {x : D} {vx : Value} (hx : DRep w E x vx) {n : Nat} {r : RE} {m : IE} (he : elemsOf H x = some (n, r, m)) (hm : m.den = r.den.length) :
    ∃ (a : Option Addr) (c : Nat), vx = .slice a r.den.length c ∧ (r.den ≠ [] → ∃ b off, a = some ⟨b, off, none⟩ ∧ ∀ (i : Nat) e, r.den[i]? = some e → e.length = n ∧ ∀ (j : Nat) d, e[j]? = some d → ∃ v, w.cell? ⟨b, off + i * n + j, none⟩ = some v ∧ DRep w E.data d v) := by
  unfold elemsOf at he
  split at he
  · next α n' nb c l =>
    simp only [Option.some.injEq, Prod.mk.injEq] at he
    obtain ⟨rfl, rfl, rfl⟩ := he
    cases hx with | @slm _ _ _ _ _ _ a cap u hnb hc hmm hxx ha hh =>
    refine ⟨a, cap, by simp [RE.den], fun hne => ?_⟩
    obtain ⟨b, base, rfl, hG, hcell⟩ := ha (by intro e; subst e; exact hne rfl)
    refine ⟨b, base, rfl, fun i e hi => ?_⟩
    simp only [RE.den, List.getElem?_map, Option.map_eq_some_iff] at hi
    obtain ⟨y, hy, rfl⟩ := hi
    have hlen := hxx y (List.mem_of_getElem? hy)
    refine ⟨hlen, fun j d hd => ⟨u i j, hcell i j (List.getElem?_eq_some_iff.1 hy).1 (by rw [← hlen]; exact (List.getElem?_eq_some_iff.1 hd).1), hh i y j d hy hd⟩⟩
  · next n' es =>
    simp only [Option.some.injEq, Prod.mk.injEq] at he
    obtain ⟨rfl, rfl, rfl⟩ := he
    cases hx with | @sll _ _ _ a cap u hc hmm hxx ha hh =>
    obtain ⟨b, base, rfl, hG, hcell⟩ := ha
    refine ⟨_, cap, rfl, fun _ => ⟨b, base, rfl, fun i e hi => ?_⟩⟩
    have hlen := hxx e (List.mem_of_getElem? hi)
    exact ⟨hlen, fun j d hd => ⟨u i j, hcell i j (List.getElem?_eq_some_iff.1 hi).1 (by rw [← hlen]; exact (List.getElem?_eq_some_iff.1 hd).1), hh i e j d hi hd⟩⟩
  · next n' b ver nb lo len =>
    split at he
    · next ty n2 ver2 r2 hb =>
      split at he
      · next hc =>
        obtain ⟨rfl, rfl⟩ := hc
        simp only [Option.some.injEq, Prod.mk.injEq] at he
        obtain ⟨rfl, rfl, rfl⟩ := he
        cases hx with
        | @oslc _ _ _ _ _ _ _ cc mm cap hk hs hnb hl hn hc hmx hsz =>
          rcases hw.heap b _ hb with q | ⟨_, q2, _⟩
          · rw [q.2] at hs; cases hs
          · obtain ⟨cs, tt, _, g1, g2, g3, g4⟩ := q2 cc hs
            refine ⟨some ⟨cc, 0, none⟩, cap, ?_, fun _ => ⟨cc, 0, rfl, fun i e hi => ?_⟩⟩
            · have : mm = r2.den.length := by omega
              subst this
              simp [IE.den]
            · obtain ⟨k1, k2⟩ := g4 i e hi
              refine ⟨k1, fun j d hd => ?_⟩
              obtain ⟨v, k3, k4⟩ := k2 j d hd
              exact ⟨v, by rw [Nat.zero_add]; simp [World.cell?, g1, k3], k4⟩
        | osln hk hs hnb hl hn =>
          have : r2.den = [] := List.length_eq_zero_iff.1 (by omega)
          exact ⟨none, 0, by simp [this], fun h => absurd this h⟩
        | osls hk =>
          rcases hw.heap b _ hb with q | ⟨q, _⟩
          · omega
          · simp only [Bk.ver] at q; omega
      · cases he
    · cases he
  · cases he
/-- the cells of elements, one behind the other -/
theorem flat_cells {w : World} {E : Env} {n : Nat} {b off : Nat} {es : List (List D)} (h : ∀ (i : Nat) e, es[i]? = some e → e.length = n ∧ ∀ (j : Nat) d, e[j]? = some d → ∃ v, w.cell? ⟨b, off + i * n + j, none⟩ = some v ∧ DRep w E d v) (hcell : ∀ e ∈ es, e.all D.cellB = true) :
    ∃ news : List Value, news.length = es.length * n ∧ (∀ (j : Nat) u, news[j]? = some u → w.cell? ((⟨b, off, none⟩ : Addr).add j) = some u) ∧ (∀ u ∈ news, u.oneCell' = true) ∧
      ∀ (i : Nat) e, es[i]? = some e → ∀ (j : Nat) d, e[j]? = some d → ∃ v, news[i * n + j]? = some v ∧ DRep w E d v := by
  have at_ : ∀ k, k < es.length * n → ∃ v, w.cell? ⟨b, off + k, none⟩ = some v ∧ v.oneCell' = true := fun k hk => by
    have hn : 0 < n := by rcases Nat.eq_zero_or_pos n with q | q; subst q; simp at hk; exact q
    have hi : k / n < es.length := Nat.div_lt_of_lt_mul (by rw [Nat.mul_comm]; exact hk)
    obtain ⟨h1, h2⟩ := h (k / n) _ (List.getElem?_eq_getElem hi)
    have hj : k % n < (es[k / n]).length := by rw [h1]; exact Nat.mod_lt _ hn
    obtain ⟨v, h3, h4⟩ := h2 (k % n) _ (List.getElem?_eq_getElem hj)
    refine ⟨v, ?_, h4.one (List.all_eq_true.1 (hcell _ (List.getElem_mem hi)) _ (List.getElem_mem hj))⟩
    rw [← h3]
    have := Nat.div_add_mod k n
    rw [Nat.mul_comm] at this
    rw [show off + k = off + k / n * n + k % n by omega]
  refine ⟨(List.range (es.length * n)).map fun k => (w.cell? ⟨b, off + k, none⟩).getD undef, by simp, fun j u hu => ?_, fun u hu => ?_, fun i e hi j d hd => ?_⟩
  · simp only [List.getElem?_map, Option.map_eq_some_iff] at hu
    obtain ⟨k, hk, rfl⟩ := hu
    obtain ⟨hk1, hk2⟩ := List.getElem?_eq_some_iff.1 hk
    simp at hk1 hk2
    subst hk2
    obtain ⟨v, h3, _⟩ := at_ j hk1
    rw [Addr.add_mid, h3]
    rfl
  · simp only [List.mem_map, List.mem_range] at hu
    obtain ⟨k, hk, rfl⟩ := hu
    obtain ⟨v, h3, h4⟩ := at_ k hk
    rw [h3]
    exact h4
  · obtain ⟨h1, h2⟩ := h i e hi
    obtain ⟨v, h3, h4⟩ := h2 j d hd
    have hj : j < n := by rw [← h1]; exact (List.getElem?_eq_some_iff.1 hd).1
    have hil : i < es.length := (List.getElem?_eq_some_iff.1 hi).1
    have hlt : i * n + j < es.length * n := by
      have : (i + 1) * n ≤ es.length * n := Nat.mul_le_mul_right _ hil
      rw [Nat.add_mul, Nat.one_mul] at this
      omega
    refine ⟨v, ?_, h4⟩
    simp only [List.getElem?_map]
    rw [List.getElem?_range hlt]
    simp only [Option.map_some, Option.some.injEq]
    rw [show off + (i * n + j) = off + i * n + j by omega, h3]
    rfl
def RE.mkApps : RE → RE → RE
  | .lits a, .lits b => .lits (a ++ b)
  | r, .lits [e] => .app r e
  | r, s => .apps r s
theorem RE.mkApps_den (r s : RE) : (RE.mkApps r s).den = r.den ++ s.den := by
  unfold RE.mkApps
  split <;> simp [RE.den]
def litsOK (r : RE) (m : IE) : Bool := match r, m with
  | .lits es, .lit k => decide (k = es.length) && es.all (fun e => e.all D.cellB) && decide (es.length ≤ 1000000)
  | _, _ => false
theorem litsOK_spec {r : RE} {m : IE} (h : litsOK r m = true) : m.den = r.den.length ∧ (∀ e ∈ r.den, e.all D.cellB = true) ∧ m.den ≤ 1000000 := by
  unfold litsOK at h
  split at h
  · simp only [Bool.and_eq_true, decide_eq_true_eq, List.all_eq_true] at h
    obtain ⟨⟨h1, h2⟩, h3⟩ := h
    refine ⟨h1, fun e he => List.all_eq_true.2 (h2 e he), ?_⟩
    show _ ≤ _
    simp only [IE.den]
    omega
  · cases h
theorem small_bytes {m : Int} {b : Nat} (h : m ≤ 2000000) (hb : b ≤ 60000000) : m * (b : Int) ≤ 140737488355328 := by
  rcases Int.le_total 0 m with h0 | h0
  · have : m * (b : Int) ≤ 2000000 * 60000000 := Int.mul_le_mul h (by omega) (by omega) (by omega)
    omega
  · have : m * (b : Int) ≤ 0 := Int.mul_nonpos_of_nonpos_of_nonneg h0 (by omega)
    omega
/-- what append does to the blocks -/
def sAppend (T : Tab) (H : List Bk) (o : Oper) (t : Nat) (s x : D) (K : List Bk → D → Prop) : Prop := match T.get t, elemsOf H x with
  | some ⟨.slice e, _, _, _⟩, some (n, rx, m) => (match T.get e with
    | some te => if te.size = n ∧ 0 < n ∧ te.zero.cells.size = n then (match s with
      | .nils => ReqQ (litsOK rx m && decide (te.bytes ≤ 60000000)) (fun _ => m.den = rx.den.length ∧ (∀ e ∈ rx.den, e.all D.cellB = true) ∧ m.den ≤ 9223372036854775807 ∧ m.den * te.bytes ≤ 140737488355328) (K (H ++ [.row e n 1 rx]) (.osl n H.length 1 (BE.mk2 .eql m (.lit 0)) (.lit 0) m))
      | .osl n' b ver nb (.lit 0) len => (match H[b]? with
        | some (.row ty n2 ver2 r) => if n' = n ∧ n2 = n ∧ ver2 = ver ∧ ty = e ∧ e < 1000000 then
            ReqQ (litsOK rx m && litsOK r len && decide (te.bytes ≤ 60000000)) (fun _ => m.den = rx.den.length ∧ len.den = r.den.length ∧ (∀ e ∈ rx.den, e.all D.cellB = true) ∧ (∀ e ∈ r.den, e.all D.cellB = true) ∧ len.den + m.den ≤ 9223372036854775807 ∧ (len.den + m.den) * te.bytes ≤ 140737488355328)
              (K (H.set b (.row e n (ver + 1) (RE.mkApps r rx))) (.osl n b (ver + 1) (BE.mkAnd nb (BE.mk2 .eql m (.lit 0))) (.lit 0) (IE.mkSum len m))) else StuckP o [s, x]
        | _ => StuckP o [s, x])
      | _ => StuckP o [s, x]) else StuckP o [s, x]
    | none => StuckP o [s, x])
  | _, _ => StuckP o [s, x]
/-- one own block lies elsewhere, or holds something else -/
def Env.upd (E : Env) (x : Nat) (c : Option Nat) (k z : Nat) : Env := ⟨E.G, fun y => if y = x then c else E.σ y, fun y => if y = x then k else E.κ y, fun y => if y = x then z else E.ζ y⟩
theorem upd_same {H H' : List Bk} {E : Env} {x k z : Nat} {c : Option Nat} (h : H'[x]? ≠ H[x]?) : ∀ y : Nat, H'[y]? = H[y]? → (E.upd x c k z).σ y = E.σ y ∧ (E.upd x c k z).κ y = E.κ y := fun y hy => by
  have : y ≠ x := fun e => h (by rw [← e]; exact hy)
  simp [Env.upd, this]
theorem row_ne {H : List Bk} {b ty n ver ty' n' : Nat} {r r' : RE} (h : H[b]? = some (.row ty n ver r)) : (H.set b (.row ty' n' (ver + 1) r'))[b]? ≠ H[b]? := by
  have hl := (List.getElem?_eq_some_iff.1 h).1
  rw [List.getElem?_set_self hl, h]
  intro e
  simp only [Option.some.injEq, Bk.row.injEq] at e
  omega
theorem WRel.redo {B : Base} {H : List Bk} {E : Env} {w w' : World} (h : WRel B H E w) {x k z : Nat} {c : Option Nat} {b' : Bk} (hx : x < H.length) (hk : E.κ x < k) (hold : ∀ j, j < w.heap.size → (∀ d, E.σ x = some d → j ≠ d) → w'.heap[j]? = w.heap[j]?)
    (hsz : w.heap.size ≤ w'.heap.size) (hbel : Below B.w0.heap.size B.w0 w') (hc : ∀ d, c = some d → (E.σ x = some d ∨ w.heap.size ≤ d) ∧ d < w'.heap.size) (hv : b'.ver k)
    (hb : E.le w w' (E.upd x c k z) → E.own (E.upd x c k z) → ∀ d, c = some d → BRep w' (E.upd x c k z) x d b') (hvirt : c = none → b'.virt) :
    WRel B (H.set x b') (E.upd x c k z) w' ∧ E.le w w' (E.upd x c k z) ∧ E.own (E.upd x c k z) := by
  have hle : E.le w w' (E.upd x c k z) := ⟨fun _ h => h, fun b hb => hold b (h.good b hb) fun d hd e => (h.own x d hd).2.2 (by rw [← e]; exact hb)⟩
  have hown : E.own (E.upd x c k z) := by
    refine ⟨fun b => ?_, fun b e => ?_⟩
    · simp only [Env.upd]; split
      · next q => subst q; omega
      · exact Nat.le_refl _
    · simp only [Env.upd] at e ⊢
      by_cases q : b = x
      · subst q; simp at e; omega
      · simp [q]
  refine ⟨⟨fun p q d hp hq => ?_, fun p d hp => ?_, fun p hp => ?_, fun p b hp => ?_, fun p hp => ?_, fun b hb => Nat.lt_of_lt_of_le (h.good b hb) hsz, h.g0, h.gn, hbel, B.stab _ _ _ _ hle hown h.phi⟩, hle, hown⟩
  · simp only [Env.upd] at hp hq
    split at hp <;> split at hq
    · omega
    · rcases (hc d hp).1 with e | e
      · exact absurd (h.inj _ _ _ hq e) (by assumption)
      · have := (h.own _ _ hq).2.1; omega
    · rcases (hc d hq).1 with e | e
      · exact absurd (h.inj _ _ _ hp e) (by assumption)
      · have := (h.own _ _ hp).2.1; omega
    · exact h.inj _ _ _ hp hq
  · simp only [Env.upd] at hp
    split at hp
    · obtain ⟨e, e2⟩ := hc d hp
      rcases e with e | e
      · obtain ⟨q1, q2, q3⟩ := h.own _ _ e; exact ⟨q1, e2, q3⟩
      · exact ⟨Nat.le_trans h.bel.size e, e2, fun q => by have := h.good _ q; omega⟩
    · obtain ⟨q1, q2, q3⟩ := h.own _ _ hp; exact ⟨q1, by omega, q3⟩
  · simp only [Env.upd] at hp ⊢
    split at hp
    · omega
    · next q => rw [if_neg q]; exact h.wf p hp
  · by_cases e : p = x
    · subst e
      rw [List.getElem?_set_self hx] at hp
      cases hp
      have k1 : (E.upd p c k z).κ p = k := by simp [Env.upd]
      have k2 : (E.upd p c k z).σ p = c := by simp [Env.upd]
      rw [k1, k2]
      exact .inr ⟨hv, fun d hd => hb hle hown d hd, hvirt⟩
    · rw [List.getElem?_set_ne (fun q => e q.symm)] at hp
      have k1 : (E.upd x c k z).κ p = E.κ p := by simp [Env.upd, e]
      have k2 : (E.upd x c k z).σ p = E.σ p := by simp [Env.upd, e]
      have k3 : (E.upd x c k z).ζ p = E.ζ p := by simp [Env.upd, e]
      rw [k1, k2]
      rcases h.heap p b hp with q | ⟨q1, q2, q3⟩
      · exact .inl q
      · exact .inr ⟨q1, fun d hd => (q2 d hd).move hle hown (hold d (h.own p d hd).2.1 fun d' hd' e2 => e (h.inj _ _ _ hd (e2 ▸ hd'))) k3, q3⟩
  · simp at hp
    have := h.out p hp
    simp only [Env.upd]
    rw [if_neg (by omega), if_neg (by omega)]
    exact this
theorem run_append_zero {P : Program} {w : World} {t ty e : Nat} {i : TypeInfo} (ht : P.underlying t = some (.slice e)) (hi : P.info? e = some i) {base a : Option Addr} {n cap c : Nat} (h : n ≤ cap) :
    (Builtin.append_ #[t, t] ty #[.slice base n cap, .slice a 0 c]).run P w = .ok (.slice base n cap) w := by
  cases a <;> cases base <;> simp [Builtin.append_, run_underlying ht, sizeOf, typeInfo, hi, Builtin.lenOf, Builtin.firstCells, loadCells, loadCellsFrom, h, storeCells]
section
variable {P : Program} {T : Tab} {H : List Bk} {ρ : Operand → D} {o : Oper}
theorem sAppend_eff (hT : T.ok P) {t : Nat} {s x : Operand} (ho : o.op = .call ⟨.builtin .append, #[s, x], #[t, t]⟩) {K : List Bk → D → Prop} (hk : sAppend T H o t (ρ s) (ρ x) K) : ∃ H' d, EEff P H ρ o H' d ∧ K H' d := by
  have hx : ∀ (ev : Operand → Value) (w : World), (execOp ev o).run P w = (do pure (.value (← Builtin.append_ #[t, t] o.type #[ev s, ev x])) : Sem Next).run P w := fun ev w => by
    obtain ⟨cs, h⟩ := execOp_blt (P := P) (ev := ev) ho
    rw [h w]
    simp [builtin]
  unfold sAppend at hk
  split at hk
  · next e sz by_ z n rx m ht hel =>
    split at hk
    · next te hte =>
      split at hk
      · next hc =>
        obtain ⟨hsz, hn0, hzs⟩ := hc
        obtain ⟨ti, d, g1, g2, _, _, _, g6⟩ := TI.of_spec (Tab.get_ok hT ht)
        obtain ⟨ti', d', f1, f2, f3, f4, f5, f6⟩ := TI.of_spec (Tab.get_ok hT hte)
        have hu : P.underlying t = some (.slice e) := by
          cases d with
          | slice e2 => simp only [TK.of, TK.slice.injEq] at g6; rw [g2, g6]
          | _ => simp [TK.of] at g6
        have hisz : ti'.size = n := f4.trans hsz
        split at hk
        · -- the nil slice
          next hs =>
          obtain ⟨⟨hm, hcell, h63, hby⟩, hk⟩ := ReqQ.get hk (fun hb => by
            simp only [Bool.and_eq_true, decide_eq_true_eq] at hb
            obtain ⟨k1, k2, k3⟩ := litsOK_spec hb.1
            exact ⟨k1, k2, by omega, small_bytes (by omega) hb.2⟩)
          refine ⟨_, _, fun B w E ev hev hw => ?_, hk⟩
          have hvs := hev s
          rw [hs] at hvs
          generalize hvsv : ev s = vs at hvs
          cases hvs
          obtain ⟨a, c, hvx, hcells⟩ := elemsOf_rep hw (hev x) hel hm
          have hw2 := hw.ext [.dead]
          have hlen : H.length < (H ++ [Bk.dead]).length := by simp
          have hκ := (hw.out H.length (Nat.le_refl _)).2
          have hσ := (hw.out H.length (Nat.le_refl _)).1
          have hset : (H ++ [Bk.dead]).set H.length (.row e n 1 rx) = H ++ [.row e n 1 rx] := by
            rw [List.set_append_right _ _ (Nat.le_refl _)]; simp
          by_cases h0 : rx.den = []
          · obtain ⟨r1, r2, r3⟩ := hw2.redo (w' := w) (x := H.length) (k := 1) (z := 0) (c := none) (b' := .row e n 1 rx) hlen (by omega) (fun _ _ _ => rfl) (Nat.le_refl _) hw.bel (fun d hd => by cases hd) rfl (fun _ _ d hd => by cases hd) (fun _ => h0)
            rw [hset] at r1
            have h1 : rx.den.length = 0 := by rw [h0]; rfl
            refine ⟨_, _, w, _, ?_, .inl rfl, r1, r2, r3, .osln (by simp [Env.upd]) (by simp [Env.upd]) (by rw [BE.mk2_den]; simp [cmpDen, IE.den]; omega) rfl (by omega), upd_same (by simp)⟩
            rw [hx, hvsv, hvx, h1]
            simp [run_append_zero hu f1 (Nat.le_refl 0)]
          · obtain ⟨b, off, rfl, hcl⟩ := hcells h0
            obtain ⟨news, n1, n2, n3, n4⟩ := flat_cells hcl hcell
            have hpos : 0 < rx.den.length := List.length_pos_iff.2 h0
            have hby' : rx.den.length * te.bytes ≤ 140737488355328 := by
              have : ((rx.den.length * te.bytes : Nat) : Int) ≤ 140737488355328 := by rw [Int.natCast_mul, ← hm]; exact hby
              omega
            have hrun := run_append_nil (P := P) (w := w) t o.type e ti' te.zero hu f1 f3 ⟨b, off, none⟩ rx.den.length c news (by rw [hisz]; exact n1) n2 hpos (by omega) (by rw [f5]; omega)
            generalize hcap : grownCap w rx.den.length 0 e = cap at hrun
            have hge : rx.den.length ≤ cap := by rw [← hcap]; exact grownCap_ge _ _ _ _
            have hcm : cap ≤ maxLen := by rw [← hcap]; exact grownCap_le_maxLen _ _ _ _ (by unfold maxLen; omega)
            generalize hcur : news.toArray ++ Builtin.zeroCells te.zero.cells (cap - rx.den.length) = cur at hrun
            have hcs : cur.size = cap * n := by
              rw [← hcur, Array.size_append, size_zeroCells, hzs, List.size_toArray, n1, ← Nat.add_mul]
              congr 1
              omega
            obtain ⟨r1, r2, r3⟩ := hw2.redo (w' := w.drew.alloc (.cells cur e)) (x := H.length) (k := 1) (z := cur.size) (c := some w.heap.size) (b' := .row e n 1 rx) hlen (by omega) (fun j hj _ => alloc_heap w.drew _ j hj) (by simp) (hw.bel.drew.alloc hw.bel.size _)
              (fun d hd => by cases hd; exact ⟨.inr (Nat.le_refl _), by simp⟩) rfl (fun hle hown d hd => by
                cases hd
                refine ⟨cur, e, .inr rfl, heap_alloc_last w.drew _, by simp [Env.upd], by rw [hcs]; exact Nat.mul_le_mul_right _ hge, fun k el hk2 => ?_⟩
                obtain ⟨q1, q2⟩ := hcl k el hk2
                refine ⟨q1, fun j d hd => ?_⟩
                obtain ⟨v, q3, q4⟩ := n4 k el hk2 j d hd
                have hlt := (List.getElem?_eq_some_iff.1 q3).1
                exact ⟨v, by rw [← hcur, Array.getElem?_append_left (by simpa using hlt)]; simpa using q3, q4.move hle.data Env.own.data⟩) (fun h => by cases h)
            rw [hset] at r1
            have hd := DRep.oslc (w := w.drew.alloc (.cells cur e)) (E := E.upd H.length (some w.heap.size) 1 cur.size) (n := n) (b := H.length) (ver := 1) (nb := BE.mk2 .eql m (.lit 0)) (lo := .lit 0) (len := m) (c := w.heap.size) (m := rx.den.length) (cap := cap) (by simp [Env.upd]) (by simp [Env.upd]) (by rw [BE.mk2_den]; simp [cmpDen, IE.den]; omega) (Int.le_refl _) hm hge hcm (by simp [IE.den, Env.upd, hcs])
            refine ⟨_, _, _, _, ?_, .inl rfl, r1, r2, r3, hd, upd_same (by simp)⟩
            rw [hx, hvsv, hvx]
            simp [hrun, IE.den]
        · -- a row of the call's own
          next n' bb ver nb len hs =>
          split at hk
          · next ty n2 ver2 r hb =>
            split at hk
            · next hcc =>
              obtain ⟨rfl, rfl, rfl, rfl, hbig⟩ := hcc
              obtain ⟨⟨hm, hlenr, hcell, hcell0, h63, hby⟩, hk⟩ := ReqQ.get hk (fun hb => by
                simp only [Bool.and_eq_true, decide_eq_true_eq] at hb
                obtain ⟨k1, k2, k3⟩ := litsOK_spec hb.1.1
                obtain ⟨j1, j2, j3⟩ := litsOK_spec hb.1.2
                exact ⟨k1, j1, k2, j2, by omega, small_bytes (by omega) hb.2⟩)
              refine ⟨_, _, fun B w E ev hev hw => ?_, hk⟩
              have hvs := hev s
              rw [hs] at hvs
              generalize hvsv : ev s = vs at hvs
              obtain ⟨a, c, hvx, hcells⟩ := elemsOf_rep hw (hev x) hel hm
              have hbl : bb < H.length := (List.getElem?_eq_some_iff.1 hb).1
              have hden := RE.mkApps_den r rx
              have hby' : (r.den.length + rx.den.length) * te.bytes ≤ 140737488355328 := by
                have : (((r.den.length + rx.den.length) * te.bytes : Nat) : Int) ≤ 140737488355328 := by rw [Int.natCast_mul, Int.natCast_add, ← hm, ← hlenr]; exact hby
                omega
              have hsum : (IE.mkSum len m).den = ((r.den.length + rx.den.length : Nat) : Int) := by rw [IE.mkSum_den]; omega
              have hnbd : ∀ x : Bool, nb.den = x → (BE.mkAnd nb (BE.mk2 .eql m (.lit 0))).den = (x && decide (rx.den.length = 0)) := fun x hx' => by
                rw [BE.mkAnd_den, BE.mk2_den, hx']
                have : (m.den == 0) = decide (rx.den.length = 0) := by rw [Bool.eq_iff_iff, beq_iff_eq, decide_eq_true_eq]; omega
                rw [← this]
                rfl
              cases hvs with
              | osls hk' =>
                exfalso
                rcases hw.heap bb _ hb with q | ⟨q, _⟩
                · omega
                · simp only [Bk.ver] at q; omega
              | osln hk' hσ hnb hl hn =>
                have hr0 : r.den = [] := List.length_eq_zero_iff.1 (by omega)
                by_cases h0 : rx.den = []
                · obtain ⟨r1, r2, r3⟩ := hw.redo (w' := w) (x := bb) (k := ver2 + 1) (z := 0) (c := none) (b' := .row ty n2 (ver2 + 1) (RE.mkApps r rx)) hbl (by omega) (fun _ _ _ => rfl) (Nat.le_refl _) hw.bel (fun d hd => by cases hd) rfl (fun _ _ d hd => by cases hd) (fun _ => by simp [Bk.virt, hden, hr0, h0])
                  have h1 : rx.den.length = 0 := by rw [h0]; rfl
                  refine ⟨_, _, w, _, ?_, .inl rfl, r1, r2, r3, .osln (by simp [Env.upd]) (by simp [Env.upd]) (by rw [hnbd _ hnb]; simp [h1]) rfl (by rw [hsum, hr0, h1]; rfl), upd_same (row_ne hb)⟩
                  rw [hx, hvsv, hvx, h1]
                  simp [run_append_zero hu f1 (Nat.le_refl 0)]
                · obtain ⟨b, off, rfl, hcl⟩ := hcells h0
                  obtain ⟨news, n1, n2', n3, n4⟩ := flat_cells hcl hcell
                  have hpos : 0 < rx.den.length := List.length_pos_iff.2 h0
                  have hr1 : r.den.length = 0 := by rw [hr0]; rfl
                  have hrun := run_append_nil (P := P) (w := w) t o.type ty ti' te.zero hu f1 f3 ⟨b, off, none⟩ rx.den.length c news (by rw [hisz]; exact n1) n2' hpos (by omega) (by rw [f5]; rw [hr1, Nat.zero_add] at hby'; omega)
                  generalize hcap : grownCap w rx.den.length 0 ty = cap at hrun
                  have hge : rx.den.length ≤ cap := by rw [← hcap]; exact grownCap_ge _ _ _ _
                  have hcm : cap ≤ maxLen := by rw [← hcap]; exact grownCap_le_maxLen _ _ _ _ (by unfold maxLen; omega)
                  generalize hcur : news.toArray ++ Builtin.zeroCells te.zero.cells (cap - rx.den.length) = cur at hrun
                  have hcs : cur.size = cap * n2 := by
                    rw [← hcur, Array.size_append, size_zeroCells, hzs, List.size_toArray, n1, ← Nat.add_mul]
                    congr 1
                    omega
                  obtain ⟨r1, r2, r3⟩ := hw.redo (w' := w.drew.alloc (.cells cur ty)) (x := bb) (k := ver2 + 1) (z := cur.size) (c := some w.heap.size) (b' := .row ty n2 (ver2 + 1) (RE.mkApps r rx)) hbl (by omega) (fun j hj _ => alloc_heap w.drew _ j hj) (by simp) (hw.bel.drew.alloc hw.bel.size _)
                    (fun d hd => by cases hd; exact ⟨.inr (Nat.le_refl _), by simp⟩) rfl (fun hle hown d hd => by
                      cases hd
                      refine ⟨cur, ty, .inr rfl, heap_alloc_last w.drew _, by simp [Env.upd], by rw [hcs, hden, hr0, List.nil_append]; exact Nat.mul_le_mul_right _ hge, fun k el hk2 => ?_⟩
                      rw [hden, hr0, List.nil_append] at hk2
                      obtain ⟨q1, q2⟩ := hcl k el hk2
                      refine ⟨q1, fun j d hd => ?_⟩
                      obtain ⟨v, q3, q4⟩ := n4 k el hk2 j d hd
                      have hlt := (List.getElem?_eq_some_iff.1 q3).1
                      exact ⟨v, by rw [← hcur, Array.getElem?_append_left (by simpa using hlt)]; simpa using q3, q4.move hle.data Env.own.data⟩) (fun h => by cases h)
                  have hd := DRep.oslc (w := w.drew.alloc (.cells cur ty)) (E := E.upd bb (some w.heap.size) (ver2 + 1) cur.size) (n := n2) (b := bb) (ver := ver2 + 1) (nb := BE.mkAnd nb (BE.mk2 .eql m (.lit 0))) (lo := .lit 0) (len := IE.mkSum len m) (c := w.heap.size) (m := rx.den.length) (cap := cap) (by simp [Env.upd]) (by simp [Env.upd]) (by rw [hnbd _ hnb]; simp; exact h0) (Int.le_refl _) (by rw [hsum, hr1, Nat.zero_add]) hge hcm (by simp [IE.den, Env.upd, hcs])
                  refine ⟨_, _, _, _, ?_, .inl rfl, r1, r2, r3, hd, upd_same (row_ne hb)⟩
                  rw [hx, hvsv, hvx]
                  simp [hrun, IE.den]
              | @oslc _ _ _ _ _ _ _ cc mm cap0 hk' hσ hnb hl hn hc' hmx hsz' =>
                have hmm : mm = r.den.length := by omega
                subst hmm
                rcases hw.heap bb _ hb with q | ⟨_, q2, _⟩
                · rw [q.2] at hσ; cases hσ
                obtain ⟨cs, tt, gt', g1', g2', g3', g4'⟩ := q2 cc hσ
                obtain rfl : ty = tt := (gt'.resolve_left (by omega)).symm
                simp only [IE.den, Int.toNat_zero, Nat.zero_add, Nat.zero_mul] at hsz' hvsv
                have hcs0 : cs.size = cap0 * n2 := by rw [g2', ← hsz']
                -- the old cells
                have holdc : ∀ (i : Nat) el, r.den[i]? = some el → el.length = n2 ∧ ∀ (j : Nat) d, el[j]? = some d → ∃ v, (cs.toList.take (r.den.length * n2))[i * n2 + j]? = some v ∧ DRep w E.data d v := fun i el hi => by
                  obtain ⟨q1, q3⟩ := g4' i el hi
                  refine ⟨q1, fun j d hd => ?_⟩
                  obtain ⟨v, q4, q5⟩ := q3 j d hd
                  have hil := (List.getElem?_eq_some_iff.1 hi).1
                  have hj : j < n2 := by rw [← q1]; exact (List.getElem?_eq_some_iff.1 hd).1
                  have hlt : i * n2 + j < r.den.length * n2 := by
                    have : (i + 1) * n2 ≤ r.den.length * n2 := Nat.mul_le_mul_right _ hil
                    rw [Nat.add_mul, Nat.one_mul] at this
                    omega
                  exact ⟨v, by rw [List.getElem?_take, if_pos hlt, Array.getElem?_toList]; exact q4, q5⟩
                have holdl : (cs.toList.take (r.den.length * n2)).length = r.den.length * n2 := by simp; omega
                by_cases h0 : rx.den = []
                · have h1 : rx.den.length = 0 := by rw [h0]; rfl
                  obtain ⟨r1, r2, r3⟩ := hw.redo (w' := w) (x := bb) (k := ver2 + 1) (z := E.ζ bb) (c := some cc) (b' := .row ty n2 (ver2 + 1) (RE.mkApps r rx)) hbl (by omega) (fun _ _ _ => rfl) (Nat.le_refl _) hw.bel (fun d hd => by cases hd; exact ⟨.inl hσ, (hw.own _ _ hσ).2.1⟩) rfl (fun hle hown d hd => by
                    cases hd
                    exact ⟨cs, _, .inr rfl, g1', by simp [Env.upd, g2'], by rw [hden, h0, List.append_nil]; exact g3', fun k el hk2 => by
                      rw [hden, h0, List.append_nil] at hk2
                      obtain ⟨q1, q3⟩ := g4' k el hk2
                      exact ⟨q1, fun j d hd => by obtain ⟨v, q4, q5⟩ := q3 j d hd; exact ⟨v, q4, q5.move hle.data Env.own.data⟩⟩⟩) (fun h => by cases h)
                  have hd := DRep.oslc (w := w) (E := E.upd bb (some cc) (ver2 + 1) (E.ζ bb)) (n := n2) (b := bb) (ver := ver2 + 1) (nb := BE.mkAnd nb (BE.mk2 .eql m (.lit 0))) (lo := .lit 0) (len := IE.mkSum len m) (c := cc) (m := r.den.length) (cap := cap0) (by simp [Env.upd]) (by simp [Env.upd]) (by rw [hnbd _ hnb]; rfl) (Int.le_refl _) (by rw [hsum, h1, Nat.add_zero]) hc' hmx (by simp [IE.den, Env.upd, hsz'])
                  refine ⟨_, _, _, _, ?_, .inl rfl, r1, r2, r3, hd, upd_same (row_ne hb)⟩
                  rw [hx, hvsv, hvx, h1]
                  simp [run_append_zero hu f1 hc', IE.den]
                · obtain ⟨b, off, rfl, hcl⟩ := hcells h0
                  obtain ⟨news, n1, n2', n3, n4⟩ := flat_cells hcl hcell
                  have hpos : 0 < rx.den.length := List.length_pos_iff.2 h0
                  have both : ∀ {w2 : World} {E2 : Env} (restL : List Value), E.le w w2 E2 → ∀ (k : Nat) el, (RE.mkApps r rx).den[k]? = some el → el.length = n2 ∧ ∀ (j : Nat) d, el[j]? = some d → ∃ v, ((cs.toList.take (r.den.length * n2)) ++ news ++ restL)[k * n2 + j]? = some v ∧ DRep w2 E2.data d v := by
                    intro w2 E2 restL hle k el hk2
                    rw [hden] at hk2
                    by_cases hkr : k < r.den.length
                    · rw [List.getElem?_append_left hkr] at hk2
                      obtain ⟨q1, q3⟩ := holdc k el hk2
                      refine ⟨q1, fun j d hd => ?_⟩
                      obtain ⟨v, q4, q5⟩ := q3 j d hd
                      have := (List.getElem?_eq_some_iff.1 q4).1
                      exact ⟨v, by rw [List.append_assoc, List.getElem?_append_left this]; exact q4, q5.move hle.data Env.own.data⟩
                    · rw [List.getElem?_append_right (by omega)] at hk2
                      obtain ⟨q1, _⟩ := hcl _ el hk2
                      refine ⟨q1, fun j d hd => ?_⟩
                      obtain ⟨v, q4, q5⟩ := n4 _ el hk2 j d hd
                      have hlt := (List.getElem?_eq_some_iff.1 q4).1
                      have e1 : k * n2 + j = r.den.length * n2 + ((k - r.den.length) * n2 + j) := by
                        rw [← Nat.add_assoc, ← Nat.add_mul]
                        congr 2
                        omega
                      refine ⟨v, ?_, q5.move hle.data Env.own.data⟩
                      rw [List.append_assoc, List.getElem?_append_right (by rw [holdl, e1]; omega), holdl, e1, Nat.add_sub_cancel_left, List.getElem?_append_left hlt]
                      exact q4
                  by_cases hroom : r.den.length + rx.den.length ≤ cap0
                  · have hfit : r.den.length * ti'.size + news.length ≤ cs.size := by rw [hisz, n1, hcs0, ← Nat.add_mul]; exact Nat.mul_le_mul_right _ hroom
                    have hrun := run_append_room (P := P) (w := w) t o.type _ ti' hu f1 cc r.den.length cap0 cs g1' ⟨b, off, none⟩ rx.den.length c news (by rw [hisz]; exact n1) n2' n3 hroom hfit
                    rw [hisz] at hrun
                    generalize hrest : cs.toList.drop (r.den.length * n2 + news.length) = restL at hrun
                    have hnl : ((cs.toList.take (r.den.length * n2)) ++ news ++ restL).length = cs.size := by
                      rw [← hrest]
                      rw [hisz] at hfit
                      simp
                      omega
                    have hso : (w.setRow cc ((cs.toList.take (r.den.length * n2)) ++ news ++ restL).toArray).heap.size = w.heap.size := by simp [World.setRow]
                    obtain ⟨r1, r2, r3⟩ := hw.redo (w' := w.setRow cc ((cs.toList.take (r.den.length * n2)) ++ news ++ restL).toArray) (x := bb) (k := ver2 + 1) (z := E.ζ bb) (c := some cc) (b' := .row ty n2 (ver2 + 1) (RE.mkApps r rx)) hbl (by omega) (fun j hj hne => setRow_other w cc j _ (hne cc hσ)) (by rw [hso]; exact Nat.le_refl _)
                      (hw.bel.trans ⟨rfl, rfl, rfl, by rw [hso]; exact Nat.le_refl _, fun k hk3 => setRow_other w cc k _ (by have := (hw.own _ _ hσ).1; omega)⟩)
                      (fun d hd => by cases hd; exact ⟨.inl hσ, by rw [hso]; exact (hw.own _ _ hσ).2.1⟩) rfl (fun hle hown d hd => by
                        cases hd
                        refine ⟨_, _, .inr rfl, setRow_heap w cc cs _ _ (0, 0) g1', by simp only [List.size_toArray]; rw [hnl]; simp [Env.upd, g2'], ?_, fun k el hk2 => ?_⟩
                        · simp only [List.size_toArray]
                          rw [hnl, hden, List.length_append, hcs0]
                          exact Nat.mul_le_mul_right _ hroom
                        · obtain ⟨q1, q3⟩ := both restL hle k el hk2
                          exact ⟨q1, fun j d hd => by obtain ⟨v, q4, q5⟩ := q3 j d hd; exact ⟨v, by simpa using q4, q5⟩⟩) (fun h => by cases h)
                    have hd := DRep.oslc (w := w.setRow cc ((cs.toList.take (r.den.length * n2)) ++ news ++ restL).toArray) (E := E.upd bb (some cc) (ver2 + 1) (E.ζ bb)) (n := n2) (b := bb) (ver := ver2 + 1) (nb := BE.mkAnd nb (BE.mk2 .eql m (.lit 0))) (lo := .lit 0) (len := IE.mkSum len m) (c := cc) (m := r.den.length + rx.den.length) (cap := cap0) (by simp [Env.upd]) (by simp [Env.upd]) (by rw [hnbd _ hnb]; rfl) (Int.le_refl _) hsum hroom hmx (by simp [IE.den, Env.upd, hsz'])
                    refine ⟨_, _, _, _, ?_, .inl rfl, r1, r2, r3, hd, upd_same (row_ne hb)⟩
                    rw [hx, hvsv, hvx]
                    simp [hrun, IE.den]
                  · have hrun := run_append_grow (P := P) (w := w) t o.type ty ti' te.zero hu f1 f3 ⟨cc, 0, none⟩ r.den.length cap0 (cs.toList.take (r.den.length * n2)) (by rw [hisz]; exact holdl) (fun j v hv => by
                      rw [Addr.add_mid, Nat.zero_add]
                      rw [List.getElem?_take] at hv
                      split at hv
                      · rw [Array.getElem?_toList] at hv
                        simp [World.cell?, g1', hv]
                      · cases hv) ⟨b, off, none⟩ rx.den.length c news (by rw [hisz]; exact n1) n2' (by omega) (by omega) (by rw [f5]; exact growslice_fits (by omega) hby')
                    generalize hcap : grownCap w (r.den.length + rx.den.length) cap0 ty = cap at hrun
                    have hge : r.den.length + rx.den.length ≤ cap := by rw [← hcap]; exact grownCap_ge _ _ _ _
                    have hcm : cap ≤ maxLen := by rw [← hcap]; exact grownCap_le_maxLen _ _ _ _ (by unfold maxLen; omega)
                    generalize hz : Builtin.zeroCells te.zero.cells (cap - (r.den.length + rx.den.length)) = zc at hrun
                    have hzc : zc.size = (cap - (r.den.length + rx.den.length)) * n2 := by rw [← hz, size_zeroCells, hzs]
                    generalize hcur : (cs.toList.take (r.den.length * n2)).toArray ++ news.toArray ++ zc = cur at hrun
                    have hcurl : cur.toList = (cs.toList.take (r.den.length * n2)) ++ news ++ zc.toList := by rw [← hcur]; simp
                    have hcs : cur.size = cap * n2 := by
                      have hzl : zc.toList.length = zc.size := Array.length_toList
                      rw [← Array.length_toList, hcurl, List.length_append, List.length_append, holdl, n1, hzl, hzc, ← Nat.add_mul, ← Nat.add_mul]
                      congr 1
                      omega
                    obtain ⟨r1, r2, r3⟩ := hw.redo (w' := w.drew.alloc (.cells cur ty)) (x := bb) (k := ver2 + 1) (z := cur.size) (c := some w.heap.size) (b' := .row ty n2 (ver2 + 1) (RE.mkApps r rx)) hbl (by omega) (fun j hj _ => alloc_heap w.drew _ j hj) (by simp) (hw.bel.drew.alloc hw.bel.size _)
                      (fun d hd => by cases hd; exact ⟨.inr (Nat.le_refl _), by simp⟩) rfl (fun hle hown d hd => by
                        cases hd
                        refine ⟨cur, _, .inr rfl, heap_alloc_last w.drew _, by simp [Env.upd], by rw [hcs, hden, List.length_append]; exact Nat.mul_le_mul_right _ hge, fun k el hk2 => ?_⟩
                        obtain ⟨q1, q3⟩ := both zc.toList hle k el hk2
                        exact ⟨q1, fun j d hd => by obtain ⟨v, q4, q5⟩ := q3 j d hd; exact ⟨v, by rw [← Array.getElem?_toList, hcurl]; exact q4, q5⟩⟩) (fun h => by cases h)
                    have hd := DRep.oslc (w := w.drew.alloc (.cells cur ty)) (E := E.upd bb (some w.heap.size) (ver2 + 1) cur.size) (n := n2) (b := bb) (ver := ver2 + 1) (nb := BE.mkAnd nb (BE.mk2 .eql m (.lit 0))) (lo := .lit 0) (len := IE.mkSum len m) (c := w.heap.size) (m := r.den.length + rx.den.length) (cap := cap) (by simp [Env.upd]) (by simp [Env.upd]) (by rw [hnbd _ hnb]; rfl) (Int.le_refl _) hsum hge hcm (by simp [IE.den, Env.upd, hcs])
                    refine ⟨_, _, _, _, ?_, .inl rfl, r1, r2, r3, hd, upd_same (row_ne hb)⟩
                    rw [hx, hvsv, hvx]
                    simp [hrun, IE.den]
            · cases hk
          · cases hk
        · cases hk
      · cases hk
    · cases hk
  · cases hk
end
end Go.Proofs.Ytdhfakajlnidiaa
namespace Go.Proofs.Ytdhfakajlnidiaa
open Go.RowKit

/-! Updates of own maps. -/
theorem MapOK.congr {w : World} {E : Env} {kk : IntKind} {es : List MapEntry} {clock : Nat} {F F' : Int → Option D} (h : MapOK w E kk es clock F) (e : ∀ x, F' x = F x) : MapOK w E kk es clock F' := by
  obtain rfl : F' = F := funext e
  exact h
theorem MapOK.move {w w' : World} {E E' : Env} {kk : IntKind} {es : List MapEntry} {clock : Nat} {F : Int → Option D} (h : MapOK w E.data kk es clock F) (hle : E.le w w' E') : MapOK w' E'.data kk es clock F :=
  ⟨fun e he => by obtain ⟨x, d, h1, h2, h3, h4⟩ := h.val e he; exact ⟨x, d, h1, h2, h3, h4.move hle.data Env.own.data⟩, h.has, h.apart, h.clock⟩
theorem MapOK.modify {w : World} {E : Env} {kk : IntKind} {es : List MapEntry} {clock : Nat} {F : Int → Option D} (h : MapOK w E kk es clock F) {j : Nat} {e : MapEntry} {n : Int} {d : D} {v : Value} (hj : es[j]? = some e) (hk : e.key = .int kk n) (hn : InR kk n) (hd : DRep w E d v) :
    MapOK w E kk (es.modify j fun e => { e with key := .int kk n, val := v }) clock (fun x => if x = n then some d else F x) := by
  have hmap : (es.modify j fun e => { e with key := .int kk n, val := v }).map (fun e => (e.key, e.born)) = es.map fun e => (e.key, e.born) := by
    apply List.ext_getElem?
    intro i
    simp only [List.getElem?_map, List.getElem?_modify]
    by_cases q : j = i
    · subst q; simp [hj, hk]
    · simp [q]
  refine ⟨fun e' he => ?_, fun x d' hF => ?_, ?_, fun e' he => ?_⟩
  · obtain ⟨i, hi⟩ := List.getElem?_of_mem he
    rw [List.getElem?_modify] at hi
    by_cases q : j = i
    · subst q
      simp [hj] at hi
      subst hi
      exact ⟨n, d, rfl, hn, by simp, hd⟩
    · simp [q] at hi
      obtain ⟨x, d', h1, h2, h3, h4⟩ := h.val e' (List.mem_of_getElem? hi)
      refine ⟨x, d', h1, h2, ?_, h4⟩
      rw [if_neg (fun c => ?_)]
      · exact h3
      · subst c
        have ha := h.apart
        rw [List.pairwise_iff_getElem] at ha
        obtain ⟨hj1, hj2⟩ := List.getElem?_eq_some_iff.1 hj
        obtain ⟨hi1, hi2⟩ := List.getElem?_eq_some_iff.1 hi
        rcases Nat.lt_or_gt_of_ne q with c | c
        · have := (ha j i hj1 hi1 c).1
          rw [hj2, hi2, hk, h1] at this
          exact this rfl
        · have := (ha i j hi1 hj1 c).1
          rw [hj2, hi2, hk, h1] at this
          exact this rfl
  · by_cases q : x = n
    · subst q
      exact ⟨{ e with key := .int kk x, val := v }, List.mem_of_getElem? (i := j) (by rw [List.getElem?_modify, hj]; simp), rfl⟩
    · rw [if_neg q] at hF
      obtain ⟨e0, he0, hk0⟩ := h.has x d' hF
      obtain ⟨i, hi⟩ := List.getElem?_of_mem he0
      refine ⟨e0, List.mem_of_getElem? (i := i) ?_, hk0⟩
      rw [List.getElem?_modify]
      by_cases c : j = i
      · subst c
        rw [hj] at hi
        cases hi
        rw [hk] at hk0
        exact absurd (by simpa using hk0.symm) q
      · simp [c, hi]
  · have : ((es.modify j fun e => { e with key := .int kk n, val := v }).map (fun e => (e.key, e.born))).Pairwise fun a b => a.1 ≠ b.1 ∧ a.2 ≠ b.2 := by
      rw [hmap, List.pairwise_map]
      exact h.apart
    rw [List.pairwise_map] at this
    exact this
  · have : (e'.key, e'.born) ∈ (es.modify j fun e => { e with key := .int kk n, val := v }).map (fun e => (e.key, e.born)) := List.mem_map.2 ⟨e', he, rfl⟩
    rw [hmap] at this
    obtain ⟨e0, h1, h2⟩ := List.mem_map.1 this
    have := h.clock e0 h1
    simp only [Prod.mk.injEq] at h2
    omega
theorem MapOK.push {w : World} {E : Env} {kk : IntKind} {es : List MapEntry} {clock : Nat} {F : Int → Option D} (h : MapOK w E kk es clock F) {n : Int} {d : D} {v : Value} (hf : F n = none) (hn : InR kk n) (hd : DRep w E d v) :
    MapOK w E kk (es ++ [{ key := .int kk n, val := v, born := clock }]) (clock + 1) (fun x => if x = n then some d else F x) := by
  have hne : ∀ e ∈ es, e.key ≠ .int kk n := fun e he q => by
    obtain ⟨x, d', h1, _, h3, _⟩ := h.val e he
    rw [h1] at q
    obtain rfl : x = n := by simpa using q
    rw [hf] at h3
    cases h3
  refine ⟨fun e he => ?_, fun x d' hF => ?_, ?_, fun e he => ?_⟩
  · rcases List.mem_append.1 he with q | q
    · obtain ⟨x, d', h1, h2, h3, h4⟩ := h.val e q
      refine ⟨x, d', h1, h2, ?_, h4⟩
      rw [if_neg (fun c => ?_)]
      · exact h3
      · subst c; exact hne e q h1
    · simp only [List.mem_singleton] at q
      subst q
      exact ⟨n, d, rfl, hn, by simp, hd⟩
  · by_cases q : x = n
    · subst q; exact ⟨_, List.mem_append_right _ (List.mem_singleton.2 rfl), rfl⟩
    · rw [if_neg q] at hF
      obtain ⟨e, he, hk⟩ := h.has x d' hF
      exact ⟨e, List.mem_append_left _ he, hk⟩
  · refine List.pairwise_append.2 ⟨h.apart, List.pairwise_singleton _ _, fun a ha b hb => ?_⟩
    simp only [List.mem_singleton] at hb
    subst hb
    exact ⟨hne a ha, Nat.ne_of_lt (h.clock a ha)⟩
  · rcases List.mem_append.1 he with q | q
    · exact Nat.lt_succ_of_lt (h.clock e q)
    · simp only [List.mem_singleton] at q
      subst q
      exact Nat.lt_succ_self _
/-- an own block that is laid anew as an object -/
def World.redo (w : World) (c : Nat) (o : Obj) : World := { w with heap := w.heap.setIfInBounds c o }
theorem World.redo_at {w : World} {c : Nat} (h : c < w.heap.size) (o : Obj) : (World.redo w c o).heap[c]? = some o := by simp [World.redo, h]
theorem WRel.le_redo {B : Base} {H : List Bk} {E : Env} {w : World} (h : WRel B H E w) {x c : Nat} (hx : E.σ x = some c) (o : Obj) : E.le w (World.redo w c o) E := ⟨fun _ h => h, fun k hk => by
  have ho := (h.own x c hx).2.2
  have hne : ¬ c = k := fun e => ho (by rw [e]; exact hk)
  simp [World.redo, hne]⟩
theorem WRel.putm {B : Base} {H : List Bk} {E : Env} {w : World} (h : WRel B H E w) {x c : Nat} (hx : E.σ x = some c) {b b' : Bk} (hb : H[x]? = some b) (o : Obj) (hv : b'.ver (E.κ x)) (hnew : BRep (World.redo w c o) E x c b') :
    WRel B (H.set x b') E (World.redo w c o) ∧ E.le w (World.redo w c o) E := by
  obtain ⟨ho1, ho2, ho3⟩ := h.own x c hx
  have hle := h.le_redo hx o
  have hxl : x < H.length := (List.getElem?_eq_some_iff.1 hb).1
  have hsz : (World.redo w c o).heap.size = w.heap.size := by simp [World.redo]
  have hbel : Below B.w0.heap.size w (World.redo w c o) := ⟨rfl, rfl, rfl, by rw [hsz]; exact Nat.le_refl _, fun k hk => by
    have hne : ¬ c = k := by omega
    simp [World.redo, hne]⟩
  refine ⟨⟨h.inj, fun y k hy => ?_, h.wf, fun y b2 hy => ?_, fun y hy => h.out y (by simpa using hy), fun k hk => by rw [hsz]; exact h.good k hk, h.g0, h.gn, h.bel.trans hbel, B.stab _ _ _ _ hle (Env.own.refl _) h.phi⟩, hle⟩
  · obtain ⟨h1, h2, h3⟩ := h.own y k hy
    exact ⟨h1, by rw [hsz]; exact h2, h3⟩
  · by_cases e : y = x
    · subst e
      rw [List.getElem?_set_self hxl] at hy
      cases hy
      refine .inr ⟨hv, fun k hk => ?_, fun hn => by rw [hn] at hx; cases hx⟩
      rw [hx] at hk
      cases hk
      exact hnew
    · rw [List.getElem?_set_ne (fun q => e q.symm)] at hy
      rcases h.heap y b2 hy with q | ⟨q1, q2, q3⟩
      · exact .inl q
      · refine .inr ⟨q1, fun k hk => (q2 k hk).move hle (Env.own.refl _) ?_ rfl, q3⟩
        have hne : ¬ c = k := fun e2 => e (h.inj _ _ _ hk (e2 ▸ hx))
        simp [World.redo, hne]
def updE : List (Int × D) → Int → D → List (Int × D)
  | [], x, d => [(x, d)]
  | (y, e) :: r, x, d => if y = x then (y, d) :: r else (y, e) :: updE r x d
theorem updE_find (es : List (Int × D)) (x : Int) (d : D) (y : Int) : findE (updE es x d) y = if y = x then some d else findE es y := by
  induction es with
  | nil => simp only [updE, findE]; by_cases h : x = y <;> simp [h, eq_comm]
  | cons p r ih =>
    obtain ⟨z, e⟩ := p
    simp only [updE]
    by_cases h : z = x
    · subst h
      rw [if_pos rfl]
      simp only [findE]
      by_cases q : z = y
      · simp [q]
      · simp [q, show ¬ y = z from fun c => q c.symm]
    · rw [if_neg h]
      simp only [findE, ih]
      by_cases q : z = y
      · subst q; simp [h]
      · simp [q]
theorem updE_len (es : List (Int × D)) (x : Int) (d : D) : (updE es x d).length = if (findE es x).isSome then es.length else es.length + 1 := by
  induction es with
  | nil => simp [updE, findE]
  | cons p r ih =>
    obtain ⟨z, e⟩ := p
    simp only [updE, findE]
    by_cases h : z = x
    · simp [h]
    · simp only [if_neg h, List.length_cons, ih]
      split <;> rfl
structure LtMax (n : IE) : Prop where
  h : n.den < maxLen
/-- what an update does to the blocks, and what follows -/
def sMapU (T : Tab) (H : List Bk) (o : Oper) (t : Nat) (m i d : D) (K : List Bk → Prop) : Prop := match T.get t, m, i with
  | some ⟨.map k _, _, _, _⟩, .mapr b, .int ki ie => (match T.get k, H[b]? with
    | some ⟨.int kk, _, _, _⟩, some (.mp kk' me) => if ki = kk ∧ kk' = kk ∧ d.dataB 5 = true then (match me, ie, d with
      | .lits es, .lit x, d => if es.length < maxLen then K (H.set b (.mp kk (.lits (updE es x d)))) else StuckP o [m, i, d]
      | .setb S n, ie, .bool (.lit true) => SplitP (.var (S ie.den)) (K (H.set b (.mp kk (.setb S n)))) (ReqP (fun _ => LtMax n) (K (H.set b (.mp kk (.setb (fun x => x == ie.den || S x) (.sum n (.lit 1)))))))
      | .fi k F n, ie, .int k' e => if k' = k then SplitP (.var (F ie.den).isSome) (K (H.set b (.mp kk (.fi k (fun x => if x = ie.den then some e.den else F x) n))))
          (ReqP (fun _ => LtMax n) (K (H.set b (.mp kk (.fi k (fun x => if x = ie.den then some e.den else F x) (.sum n (.lit 1))))))) else StuckP o [m, i, d]
      | _, _, _ => StuckP o [m, i, d]) else StuckP o [m, i, d]
    | _, _ => StuckP o [m, i, d])
  | _, _, _ => StuckP o [m, i, d]
section
variable {P : Program} {T : Tab} {H : List Bk} {ρ : Operand → D} {o : Oper}
theorem mapU_core {t k e : Nat} {kk : IntKind} {s1 b1 s2 b2 : Nat} {z1 z2 : Value} (h1 : TI.of P t = some ⟨.map k e, s1, b1, z1⟩) (h2 : TI.of P k = some ⟨.int kk, s2, b2, z2⟩) {m i x : Operand} (ho : o.op = .mapUpdate t m i x)
    {b : Nat} (hm : ρ m = .mapr b) {me me' : ME} (hb : H[b]? = some (.mp kk me)) {ie : IE} (hi : ρ i = .int kk ie) {d : D} (hd : ∀ {w : World} {E : Env} {v : Value}, DRep w E (ρ x) v → DRep w E.data d v)
    (hden : ∀ y, me'.den y = if y = ie.den then some d else me.den y) (hsz : me'.size = if (me.den ie.den).isSome = true then me.size else me.size + 1) (hle : me.den ie.den = none → me.size < maxLen) :
    EEff P H ρ o (H.set b (.mp kk me')) (.tup []) := by
  intro B w E ev hev hw
  have hx : execOp ev o = (do Instr.mapUpdate t (ev m) (ev i) (ev x); pure .skip) := by unfold execOp; rw [ho]
  have g1 := hev m
  rw [hm] at g1
  have g2 := hev i
  rw [hi] at g2
  have g3 := hd (hev x)
  generalize hv : ev m = vm at g1
  generalize hvi : ev i = vi at g2
  cases g2 with | int hr =>
  have hbb := hw.heap b _ hb
  cases g1 with
  | maps hκ =>
    rcases hbb with q | ⟨q, _, _⟩
    · omega
    · simp only [Bk.ver] at q; omega
  | @mapr _ _ c hκ hσ =>
    rcases hbb with q | ⟨_, q, _⟩
    · omega
    · obtain ⟨es, clock, q1, q2, q3, q4⟩ := q c hσ
      have und : ∀ {w : World} {E : Env}, DRep w E (.tup []) undef := DRep.tup rfl fun i d v h => by simp at h
      have hlt : c < w.heap.size := (hw.own b c hσ).2.1
      rcases map_find q4 ie.den with ⟨f1, f2⟩ | ⟨j, e', d', f1, f2, f3, f4, _⟩
      · have hrun : (Instr.mapUpdate t (.map (some c)) (.int kk ie.den) (ev x)).run P w = .ok () (World.redo w c (.map (es.push { key := .int kk ie.den, val := ev x, born := clock }) (clock + 1))) := by
          unfold Instr.mapUpdate
          simp only [Sem.run_bind, run_underlying (TI.of_map h1), Result.andThen, MapKept.run_getObj_map q1, MapKept.run_checkKey (TI.of_int h2) (k := .int kk ie.den) rfl, MapKept.run_findKey (TI.of_int h2) f2, MapKept.run_setObj_map _ q1]
          rfl
        obtain ⟨k1, k2⟩ := hw.putm hσ hb (b' := .mp kk me') (.map (es.push { key := .int kk ie.den, val := ev x, born := clock }) (clock + 1)) (by rw [hκ]; rfl)
          ⟨_, _, World.redo_at hlt _, by rw [hsz, f1]; simp [q2], by have := hle f1; rw [Array.size_push]; omega, by
            have := (q4.push f1 hr g3).congr (F' := me'.den) hden
            rw [Array.toList_push]
            exact MapOK.move this (hw.le_redo hσ _)⟩
        exact ⟨.skip, undef, _, E, by rw [hx, hv, hvi]; simp [hrun], .inr ⟨rfl, rfl⟩, k1, k2, Env.own.refl _, und, fun _ _ => ⟨rfl, rfl⟩⟩
      · have hsb : Instr.sameBits 10000 (.int kk ie.den) (.int kk ie.den) = true := by simp [Instr.sameBits]
        have hj : es[j]? = some e' := by rw [← Array.getElem?_toList]; exact f2
        have hrun : (Instr.mapUpdate t (.map (some c)) (.int kk ie.den) (ev x)).run P w = .ok () (World.redo w c (.map (es.modify j fun e => { e with key := .int kk ie.den, val := ev x }) clock)) := by
          unfold Instr.mapUpdate
          simp only [Sem.run_bind, run_underlying (TI.of_map h1), Result.andThen, MapKept.run_getObj_map q1, MapKept.run_checkKey (TI.of_int h2) (k := .int kk ie.den) rfl, MapKept.run_findKey (TI.of_int h2) f1, hj, Option.map_some, Option.getD_some, f3, Instr.keyThatStays, hsb, if_true, Sem.run_pure, MapKept.run_setObj_map _ q1]
          rfl
        obtain ⟨k1, k2⟩ := hw.putm hσ hb (b' := .mp kk me') (.map (es.modify j fun e => { e with key := .int kk ie.den, val := ev x }) clock) (by rw [hκ]; rfl)
          ⟨_, _, World.redo_at hlt _, by rw [hsz, f4]; simp [q2], by rw [Array.size_modify]; exact q3, by
            have := (q4.modify f2 f3 hr g3).congr (F' := me'.den) hden
            rw [Array.toList_modify]
            exact MapOK.move this (hw.le_redo hσ _)⟩
        exact ⟨.skip, undef, _, E, by rw [hx, hv, hvi]; simp [hrun], .inr ⟨rfl, rfl⟩, k1, k2, Env.own.refl _, und, fun _ _ => ⟨rfl, rfl⟩⟩
theorem sMapU_eff (hT : T.ok P) {t : Nat} {m i x : Operand} (ho : o.op = .mapUpdate t m i x) {K : List Bk → Prop} (hk : sMapU T H o t (ρ m) (ρ i) (ρ x) K) : ∃ H', EEff P H ρ o H' (.tup []) ∧ K H' := by
  unfold sMapU at hk
  split at hk
  case h_2 => cases hk
  next k e s1 b1 z1 b ki ie ht hm hi =>
  split at hk
  case h_2 => cases hk
  next kk s2 b2 z2 kk' me hkt hb =>
  split at hk
  case isFalse => cases hk
  next hc =>
  obtain ⟨rfl, rfl, hd⟩ := hc
  have hdr : ∀ {w : World} {E : Env} {v : Value}, DRep w E (ρ x) v → DRep w E.data (ρ x) v := fun {w E v} h => D.dataB_rep (E := E) (E' := E.data) rfl 5 hd h
  have core := fun {me' : ME} {d : D} => mapU_core (me' := me') (d := d) (Tab.get_ok hT ht) (Tab.get_ok hT hkt) ho hm hb hi
  split at hk
  · next es y =>
    split at hk
    · next hlen =>
      refine ⟨_, core (me' := .lits (updE es y (ρ x))) hdr (fun z => ?_) ?_ (fun _ => ?_), hk⟩
      · simp only [ME.den, IE.den]; exact updE_find _ _ _ _
      · show (((updE es y (ρ x)).length : Nat) : Int) = if (findE es y).isSome = true then (es.length : Int) else es.length + 1
        rw [updE_len]
        split <;> simp
      · simp only [ME.size]; omega
    · cases hk
  · next ie _ _ _ S n hd' =>
    obtain ⟨q1, q2⟩ := hk
    cases hS : S ie.den
    · obtain ⟨q3, q4⟩ := q2 hS
      refine ⟨_, core (me' := .setb (fun x => x == ie.den || S x) (.sum n (.lit 1))) hdr (fun z => ?_) ?_ (fun _ => ?_), q4 q3⟩
      · rw [hd']
        simp only [ME.den]
        by_cases c : z = ie.den <;> simp [c]
      · simp [ME.den, ME.size, hS, IE.den]
      · exact q3.h
    · refine ⟨_, core (me' := .setb S n) hdr (fun z => ?_) ?_ (fun c => ?_), q1 hS⟩
      · rw [hd']
        simp only [ME.den]
        by_cases c : z = ie.den <;> simp [c, hS]
      · simp [ME.den, ME.size, hS]
      · simp [ME.den, hS] at c
  · next ie _ _ _ k F n k2 e2 hd' =>
    split at hk
    · next hkk =>
      subst hkk
      obtain ⟨q1, q2⟩ := hk
      have hden : ∀ (n' : IE) (z : Int), (ME.fi k2 (fun x => if x = ie.den then some e2.den else F x) n').den z = if z = ie.den then some (.int k2 (.var e2.den)) else (ME.fi k2 F n).den z := fun n' z => by
        simp only [ME.den]
        by_cases c : z = ie.den <;> simp [c]
      have hdi : ∀ {w : World} {E : Env} {v : Value}, DRep w E (ρ x) v → DRep w E.data (.int k2 (.var e2.den)) v := fun {w E v} h => by
        rw [hd'] at h
        cases h with | int hr => exact .int (e := .var e2.den) hr
      cases hF : F ie.den with
      | none =>
        obtain ⟨q3, q4⟩ := q2 (by simp [BE.den, hF])
        exact ⟨_, core (me' := .fi k2 (fun x => if x = ie.den then some e2.den else F x) (.sum n (.lit 1))) hdi (hden _) (by simp [ME.den, ME.size, hF, IE.den]) (fun _ => q3.h), q4 q3⟩
      | some y =>
        exact ⟨_, core (me' := .fi k2 (fun x => if x = ie.den then some e2.den else F x) n) hdi (hden _) (by simp [ME.den, ME.size, hF]) (fun c => by simp [ME.den, hF] at c), q1 (by simp [BE.den, hF])⟩
    · cases hk
  · cases hk
/-- a map that is emptied -/
def ME.none : ME → ME
  | .lits _ => .lits []
  | .setb _ _ => .setb (fun _ => false) (.lit 0)
  | .fi k _ _ => .fi k (fun _ => Option.none) (.lit 0)
def sClear (T : Tab) (H : List Bk) (o : Oper) (t : Nat) (m : D) (K : List Bk → Prop) : Prop := match T.get t, m with
  | some ⟨.map _ _, _, _, _⟩, .mapr b => (match H[b]? with
    | some (.mp kk me) => K (H.set b (.mp kk me.none))
    | _ => StuckP o [m])
  | _, _ => StuckP o [m]
theorem sClear_eff (hT : T.ok P) {t : Nat} {m : Operand} (ho : o.op = .call ⟨.builtin .clear, #[m], #[t]⟩) {K : List Bk → Prop} (hk : sClear T H o t (ρ m) K) : ∃ H', EEff P H ρ o H' (.tup []) ∧ K H' := by
  unfold sClear at hk
  split at hk
  case h_2 => cases hk
  next k e s1 b1 z1 b ht hm =>
  split at hk
  case h_2 => cases hk
  next kk me hb =>
  refine ⟨_, fun B w E ev hev hw => ?_, hk⟩
  have h1 := Tab.get_ok hT ht
  have g1 := hev m
  rw [hm] at g1
  generalize hv : ev m = vm at g1
  have hbb := hw.heap b _ hb
  cases g1 with
  | maps hκ =>
    rcases hbb with q | ⟨q, _, _⟩
    · omega
    · simp only [Bk.ver] at q; omega
  | @mapr _ _ c hκ hσ =>
    rcases hbb with q | ⟨_, q, _⟩
    · omega
    · obtain ⟨es, clock, q1, q2, q3, q4⟩ := q c hσ
      have hlt : c < w.heap.size := (hw.own b c hσ).2.1
      obtain ⟨cs, hx⟩ := execOp_blt (P := P) (ev := ev) ho
      have hrun : (Builtin.clear_ #[t] o.type #[.map (some c)]).run P w = .ok (.tuple #[]) (World.redo w c (.map #[] clock)) := by
        unfold Builtin.clear_
        simp [run_underlying (TI.of_map h1), Result.andThen, MapKept.run_getObj_map q1, MapKept.run_setObj_map _ q1]
        rfl
      obtain ⟨k1, k2⟩ := hw.putm hσ hb (b' := .mp kk me.none) (.map #[] clock) (by rw [hκ]; rfl)
        ⟨#[], clock, World.redo_at hlt _, by cases me <;> rfl, Nat.zero_le _, ⟨fun e he => by simp at he, fun x d h => by cases me <;> simp [ME.none, ME.den, findE] at h, by simp, fun e he => by simp at he⟩⟩
      refine ⟨.value (.tuple #[]), .tuple #[], _, E, ?_, .inl rfl, k1, k2, Env.own.refl _, .tup rfl (fun i d v h => by simp at h), fun _ _ => ⟨rfl, rfl⟩⟩
      rw [hx w]
      simp [builtin, hv, hrun]
end
end Go.Proofs.Ytdhfakajlnidiaa
namespace Go.Proofs.Ytdhfakajlnidiaa
open Go.RowKit

/-! One datum behind another: the same by value, less, or a snapshot of an own block that is given up. -/
inductive DEq : D → D → Prop
  | refl (d : D) : DEq d d
  | junk (d : D) : DEq d .junk
  | int {k : IntKind} {e e' : IE} (h : e.den = e'.den) : DEq (.int k e) (.int k e')
  | bool {e e' : BE} (h : e.den = e'.den) : DEq (.bool e) (.bool e')
  | osl {n b ver : Nat} {nb nb' : BE} {lo lo' len len' : IE} (h0 : nb.den = nb'.den) (h1 : lo.den = lo'.den) (h2 : len.den = len'.den) : DEq (.osl n b ver nb lo len) (.osl n b ver nb' lo' len')
  | slm {α : Type} {n : Nat} {nb nb' : Option BE} {c : α → List D} {l l' : List α} (h0 : nb' = none ∨ nb' = nb) (h : l = l') : DEq (.slm n nb c l) (.slm n nb' c l')
  | slmb {α : Type} {n : Nat} {e e' : BE} {c : α → List D} {l l' : List α} (h0 : e.den = e'.den) (h : l = l') : DEq (.slm n (some e) c l) (.slm n (some e') c l')
  | slc {α β : Type} {n : Nat} {nb : Option BE} {c : α → List D} {c' : β → List D} {l : List α} {l' : List β} (h : l.map c = l'.map c') : DEq (.slm n nb c l) (.slm n nb c' l')
  | nilm {α : Type} {n : Nat} {c : α → List D} : DEq .nils (.slm n (some (.lit true)) c ([] : List α))
  | nilv {α : Type} {n : Nat} {e : BE} {c : α → List D} {l : List α} (h : l = []) (he : e.den = true) : DEq .nils (.slm n (some e) c l)
  | nil0 {α : Type} {n : Nat} {c : α → List D} {l : List α} (h : l = []) : DEq .nils (.slm n none c l)
  | sll {α : Type} {n : Nat} {es : List (List D)} {c : α → List D} {l : List α} {nb : Option BE} (h : es = l.map c) (hn : ∀ e, nb = some e → e.den = false) : DEq (.sll n es) (.slm n nb c l)
  | lls {α : Type} {n : Nat} {es : List (List D)} {c : α → List D} {l : List α} {nb : Option BE} (h : l.map c = es) (hn : es ≠ []) : DEq (.slm n nb c l) (.sll n es)
  | byte {e : IE} {b : BitVec 8} (h : b = BitVec.ofInt 8 e.den) : DEq (.int .u8 e) (.int .u8 (.u8 b))
  | str {s s' : ByteArray} (h : s = s') : DEq (.str s) (.str s')
  | slls {n : Nat} {es es' : List (List D)} (hl : es.length = es'.length) (h0 : ∀ (i : Nat) e e', es[i]? = some e → es'[i]? = some e' → e.length = e'.length) (h : ∀ (i : Nat) e e', es[i]? = some e → es'[i]? = some e' → ∀ (j : Nat) d d', e[j]? = some d → e'[j]? = some d' → DEq d d') : DEq (.sll n es) (.sll n es')
  | aggs {l l' : List D} (hl : l.length = l'.length) (h : ∀ (i : Nat) d d', l[i]? = some d → l'[i]? = some d' → DEq d d') : DEq (.agg l) (.agg l')
  | tups {l l' : List D} (hl : l.length = l'.length) (h : ∀ (i : Nat) d d', l[i]? = some d → l'[i]? = some d' → DEq d d') : DEq (.tup l) (.tup l')
  | arr {k : IntKind} {m : Nat} {f f' : Nat → Int} (h : ∀ i, i < m → f i = f' i) : DEq (.arr k m f) (.arr k m f')
  | dpa {k : IntKind} {m : Nat} {f f' : Nat → Int} (h : ∀ i, i < m → f i = f' i) : DEq (.dpa k m f) (.dpa k m f')
  | mapd {kk k : IntKind} {F F' : Int → Option Int} {n n' : IE} (h : ∀ x, F x = F' x) (hn : n.den = n'.den) : DEq (.mapd kk k F n) (.mapd kk k F' n')
theorem map_get {α β : Type} {c : α → List D} {c' : β → List D} {l : List α} {l' : List β} (h : l.map c = l'.map c') {i : Nat} {y : β} (hy : l'[i]? = some y) : ∃ x, l[i]? = some x ∧ c x = c' y := by
  have := congrArg (·[i]?) h
  simp only [List.getElem?_map, hy, Option.map_some, Option.map_eq_some_iff] at this
  exact this
theorem DEq.rep {w : World} {E : Env} {d d' : D} {v : Value} (h : DEq d d') (hr : DRep w E d v) : DRep w E d' v := by
  induction h generalizing E v with
  | refl => exact hr
  | junk => exact .junk
  | int h => cases hr with | int hi => rw [h]; exact .int (h ▸ hi)
  | bool h => cases hr; rw [h]; exact .bool
  | osl h0 h1 h2 =>
    cases hr with
    | oslc hk hs hnb hl hn hc hm hsz => rw [h1]; exact .oslc hk hs (h0 ▸ hnb) (h1 ▸ hl) (h2 ▸ hn) hc hm (h1 ▸ hsz)
    | osln hk hs hnb hl hn => exact .osln hk hs (h0 ▸ hnb) (h1 ▸ hl) (h2 ▸ hn)
    | osls hk => exact .osls hk
  | slm h0 h =>
    subst h
    cases hr with | slm u hnb hc hm hx ha hh => exact .slm u (fun e he => by rcases h0 with rfl | rfl; cases he; exact hnb e he) hc hm hx ha hh
  | slmb h0 h =>
    subst h
    cases hr with | slm u hnb hc hm hx ha hh => exact .slm u (fun e he => by cases he; rw [← h0]; exact hnb _ rfl) hc hm hx ha hh
  | @slc α β n nb c c' l l' h =>
    have hlen : l.length = l'.length := by have := congrArg List.length h; simpa using this
    cases hr with | slm u hnb hc hm hx ha hh =>
    rw [hlen]
    refine .slm u hnb (by omega) hm (fun y hy => ?_) (fun hne => ?_) fun i y j d hy hd => ?_
    · obtain ⟨i, hi⟩ := List.getElem?_of_mem hy
      obtain ⟨x, h1, h2⟩ := map_get h hi
      rw [← h2]
      exact hx x (List.mem_of_getElem? h1)
    · obtain ⟨b, base, q1, q2, q3⟩ := ha (by intro e; subst e; simp at hlen; exact hne (List.length_eq_zero_iff.1 hlen.symm))
      exact ⟨b, base, q1, q2, fun i j hi hj => q3 i j (by omega) hj⟩
    · obtain ⟨x, h1, h2⟩ := map_get h hy
      exact hh i x j d h1 (by rw [h2]; exact hd)
  | nilm =>
    cases hr
    exact .slm (fun _ _ => undef) (fun e he => by cases he; rfl) (Nat.le_refl _) (Nat.zero_le _) (fun x hx => by cases hx) (fun h => absurd rfl h) fun i x j d hx => by simp at hx
  | nilv h he' =>
    subst h
    cases hr
    exact .slm (fun _ _ => undef) (fun e he => by cases he; rw [he']; rfl) (Nat.le_refl _) (Nat.zero_le _) (fun x hx => by cases hx) (fun h => absurd rfl h) fun i x j d hx => by simp at hx
  | nil0 h =>
    subst h
    cases hr
    exact .slm (fun _ _ => undef) (fun e he => by cases he) (Nat.le_refl _) (Nat.zero_le _) (fun x hx => by cases hx) (fun h => absurd rfl h) fun i x j d hx => by simp at hx
  | @sll α n es c l nb h hn =>
    subst h
    cases hr with | @sll _ _ _ a cap u hc hm hx ha hh =>
    simp only [List.length_map] at hc ha ⊢
    obtain ⟨b, base, q1, q2, q3⟩ := ha
    refine .slm u (fun e he => by rw [hn e he, q1]; rfl) hc hm (fun x hx' => hx _ (List.mem_map.2 ⟨x, hx', rfl⟩)) (fun _ => ⟨b, base, q1, q2, q3⟩) fun i x j d hx' hd => hh i (c x) j d (by simp [hx']) hd
  | @lls α n es c l nb h hn =>
    subst h
    cases hr with | @slm _ _ _ _ _ _ a cap u hnb hc hm hx ha hh =>
    obtain ⟨b, base, q1, q2, q3⟩ := ha (by intro e; subst e; exact hn rfl)
    have := DRep.sll (w := w) (E := E) (n := n) (es := l.map c) (a := a) (cap := cap) u (by simpa using hc) hm (fun x hx' => by obtain ⟨y, hy, rfl⟩ := List.mem_map.1 hx'; exact hx y hy) ⟨b, base, q1, q2, by simpa using q3⟩ (fun i x j d hx' hd => by
      simp only [List.getElem?_map, Option.map_eq_some_iff] at hx'
      obtain ⟨y, hy, rfl⟩ := hx'
      exact hh i y j d hy hd)
    simpa using this
  | @byte e b h =>
    cases hr with | int hi =>
    have hn : ((BitVec.ofInt 8 e.den).toNat : Int) = e.den := by
      have hi2 := hi
      simp [InR, IntKind.min, IntKind.max, IntKind.signed, IntKind.bits] at hi2
      rw [BitVec.toNat_ofInt]
      omega
    have h2 : (IE.u8 b).den = e.den := by rw [h]; exact hn
    rw [← h2]
    exact .int (by rw [h2]; exact hi)
  | str h => subst h; exact hr
  | arr h => cases hr with | arr hs hh => exact .arr hs fun i hi => by rw [← h i hi]; exact hh i hi
  | dpa h => cases hr with | dpa hg hh => exact .dpa hg fun i hi => by rw [← h i hi]; exact hh i hi
  | mapd h hn => cases hr with | mapd hg hb hn' hm hv hh ha hc => exact .mapd hg hb (hn'.trans hn) hm (fun e he => by simpa only [h] using hv e he) (fun x y hxy => hh x y (by rw [h]; exact hxy)) ha hc
  | @slls n es es' hl h0 _ ih =>
    cases hr with | @sll _ _ _ a cap u hc hm hx ha hh =>
    rw [hl]
    obtain ⟨b, base, q1, q2, q3⟩ := ha
    have old : ∀ (i : Nat) e', es'[i]? = some e' → ∃ e, es[i]? = some e := fun i e' he' => by
      have := (List.getElem?_eq_some_iff.1 he').1
      exact ⟨_, List.getElem?_eq_getElem (by omega)⟩
    refine .sll u (by omega) hm (fun e' he' => ?_) ⟨b, base, q1, q2, fun i j hi hj => q3 i j (by omega) hj⟩ fun i e' j d' he' hd' => ?_
    · obtain ⟨i, hi⟩ := List.getElem?_of_mem he'
      obtain ⟨e, he⟩ := old i e' hi
      rw [← h0 i e e' he hi]
      exact hx e (List.mem_of_getElem? he)
    · obtain ⟨e, he⟩ := old i e' he'
      have hlt := (List.getElem?_eq_some_iff.1 hd').1
      have hj : e[j]? = some (e[j]'(by rw [h0 i e e' he he']; exact hlt)) := List.getElem?_eq_getElem _
      exact ih i e e' he he' j _ d' hj hd' (hh i e j _ he hj)
  | @aggs l l' hl _ ih =>
    cases hr with | @agg _ _ vs hs hh =>
    refine .agg (by omega) fun i d v h1 h2 => ?_
    have hlt := (List.getElem?_eq_some_iff.1 h1).1
    have h3 : l[i]? = some (l[i]'(by omega)) := List.getElem?_eq_getElem (by omega)
    exact ih i _ _ h3 h1 (hh i _ v h3 h2)
  | @tups l l' hl _ ih =>
    cases hr with | @tup _ _ vs hs hh =>
    refine .tup (by omega) fun i d v h1 h2 => ?_
    have hlt := (List.getElem?_eq_some_iff.1 h1).1
    have h3 : l[i]? = some (l[i]'(by omega)) := List.getElem?_eq_getElem (by omega)
    exact ih i _ _ h3 h1 (hh i _ v h3 h2)
inductive DsEq : List D → List D → Prop
  | nil : DsEq [] []
  | cons {d d' : D} {l l' : List D} (h : DEq d d') (r : DsEq l l') : DsEq (d :: l) (d' :: l')
theorem DsEq.get {l l' : List D} (h : DsEq l l') : l.length = l'.length ∧ ∀ (i : Nat) d d', l[i]? = some d → l'[i]? = some d' → DEq d d' := by
  induction h with
  | nil => exact ⟨rfl, fun i d d' h => by simp at h⟩
  | cons h r ih =>
    refine ⟨by simp [ih.1], fun i d d' hd hd' => ?_⟩
    cases i with
    | zero => simp at hd hd'; subst hd; subst hd'; exact h
    | succ i => exact ih.2 i d d' (by simpa using hd) (by simpa using hd')
inductive EsEq : List (List D) → List (List D) → Prop
  | nil : EsEq [] []
  | cons {e e' : List D} {l l' : List (List D)} (h : DsEq e e') (r : EsEq l l') : EsEq (e :: l) (e' :: l')
theorem EsEq.get {l l' : List (List D)} (h : EsEq l l') : l.length = l'.length ∧ ∀ (i : Nat) e e', l[i]? = some e → l'[i]? = some e' → DsEq e e' := by
  induction h with
  | nil => exact ⟨rfl, fun i d d' h => by simp at h⟩
  | cons h r ih =>
    refine ⟨by simp [ih.1], fun i d d' hd hd' => ?_⟩
    cases i with
    | zero => simp at hd hd'; subst hd; subst hd'; exact h
    | succ i => exact ih.2 i d d' (by simpa using hd) (by simpa using hd')
theorem DEq.lits {n : Nat} {es es' : List (List D)} (h : EsEq es es') : DEq (.sll n es) (.sll n es') := .slls h.get.1 (fun i e e' h1 h2 => (h.get.2 i e e' h1 h2).get.1) fun i e e' h1 h2 => (h.get.2 i e e' h1 h2).get.2
theorem DEq.agg {l l' : List D} (h : DsEq l l') : DEq (.agg l) (.agg l') := .aggs h.get.1 h.get.2
theorem DEq.tup {l l' : List D} (h : DsEq l l') : DEq (.tup l) (.tup l') := .tups h.get.1 h.get.2
/-- a block of the caller's own that is not used any more -/
def goneB (H' : List Bk) (b : Nat) : Bool := match H'[b]? with
  | none => true
  | some .dead => true
  | _ => false
/-- what a block holds, element by element -/
def Holds (H : List Bk) (b ver n : Nat) (es : List (List D)) : Prop :=
  (∃ ty r, H[b]? = some (.row ty n ver r) ∧ r.den = es) ∨ (ver = 1 ∧ ∃ ds, H[b]? = some (.cells ds) ∧ ds = es.flatten ∧ ∀ e ∈ es, e.length = n ∧ e.all (D.dataB 5) = true)
inductive SnD (H H' : List Bk) : D → D → Prop
  | eq {d d' : D} (h : DEq d d') : SnD H H' d d'
  | slm {n b ver : Nat} {nb : BE} {lo len : IE} {α : Type} {nb' : Option BE} {c : α → List D} {l : List α} (hg : goneB H' b = true) (hr : Holds H b ver n (l.map c)) (h0 : lo.den = 0) (h1 : len.den = l.length) (h2 : ∀ e, nb' = some e → e.den = nb.den) :
      SnD H H' (.osl n b ver nb lo len) (.slm n nb' c l)
  | sll {n b ver : Nat} {nb : BE} {lo len : IE} {es : List (List D)} (hg : goneB H' b = true) (hr : Holds H b ver n es) (h0 : lo.den = 0) (h1 : len.den = es.length) (h2 : nb.den = false) : SnD H H' (.osl n b ver nb lo len) (.sll n es)
  | trans {d d' d'' : D} (h : SnD H H' d d') (h2 : DEq d' d'') : SnD H H' d d''
  | agg {l l' : List D} (hl : l.length = l'.length) (h : ∀ (i : Nat) d d', l[i]? = some d → l'[i]? = some d' → SnD H H' d d') : SnD H H' (.agg l) (.agg l')
  | tup {l l' : List D} (hl : l.length = l'.length) (h : ∀ (i : Nat) d d', l[i]? = some d → l'[i]? = some d' → SnD H H' d d') : SnD H H' (.tup l) (.tup l')
  | dp {b off : Nat} {cells : List D} (hg : goneB H' b = true) (hb : H[b]? = some (.cells cells)) (hd : cells.all (D.dataB 8) = true) : SnD H H' (.ptr b 1 off) (.dp cells off)
  | dpn {b off : Nat} {cells cells' : List D} (hg : goneB H' b = true) (hb : H[b]? = some (.cells cells)) (hl : cells.length = cells'.length) (hd : cells'.all (D.dataB 8) = true) (h : ∀ (i : Nat) d d', cells[i]? = some d → cells'[i]? = some d' → SnD H H' d d') : SnD H H' (.ptr b 1 off) (.dp cells' off)
  | fn {f : Fn} {a a' c c' : List D} (ha : a.length = a'.length) (hc : c.length = c'.length) (h0 : ∀ (i : Nat) d d', a[i]? = some d → a'[i]? = some d' → SnD H H' d d') (h1 : ∀ (i : Nat) d d', c[i]? = some d → c'[i]? = some d' → SnD H H' d d') : SnD H H' (.fn f a c) (.fn f a' c')
  | arrp {b : Nat} {k : IntKind} {m : Nat} {f f' : Nat → Int} (hg : goneB H' b = true) (hb : H[b]? = some (.arr k m f)) (h : ∀ i, i < m → f i = f' i) : SnD H H' (.ptr b 1 0) (.dpa k m f')
  | mapd {b : Nat} {kk k : IntKind} {F F' : Int → Option Int} {n n' : IE} (hg : goneB H' b = true) (hb : H[b]? = some (.mp kk (.fi k F n))) (h : ∀ x, F x = F' x) (hn : n.den = n'.den) : SnD H H' (.mapr b) (.mapd kk k F' n')
inductive SnDs (H H' : List Bk) : List D → List D → Prop
  | nil : SnDs H H' [] []
  | cons {d d' : D} {l l' : List D} (h : SnD H H' d d') (r : SnDs H H' l l') : SnDs H H' (d :: l) (d' :: l')
theorem SnDs.get {H H' : List Bk} {l l' : List D} (h : SnDs H H' l l') : l.length = l'.length ∧ ∀ (i : Nat) d d', l[i]? = some d → l'[i]? = some d' → SnD H H' d d' := by
  induction h with
  | nil => exact ⟨rfl, fun i d d' h => by simp at h⟩
  | cons h r ih =>
    refine ⟨by simp [ih.1], fun i d d' hd hd' => ?_⟩
    cases i with
    | zero => simp at hd hd'; subst hd; subst hd'; exact h
    | succ i => exact ih.2 i d d' (by simpa using hd) (by simpa using hd')
theorem SnDs.refl {H H' : List Bk} : ∀ (l : List D), SnDs H H' l l
  | [] => .nil
  | d :: l => .cons (.eq (.refl d)) (SnDs.refl l)
theorem SnD.fns {H H' : List Bk} {f : Fn} {a a' c c' : List D} (h : SnDs H H' a a') (h' : SnDs H H' c c') : SnD H H' (.fn f a c) (.fn f a' c') := .fn h.get.1 h'.get.1 h.get.2 h'.get.2
theorem SnD.aggs {H H' : List Bk} {l l' : List D} (h : SnDs H H' l l') : SnD H H' (.agg l) (.agg l') := .agg h.get.1 h.get.2
theorem SnD.tups {H H' : List Bk} {l l' : List D} (h : SnDs H H' l l') : SnD H H' (.tup l) (.tup l') := .tup h.get.1 h.get.2
theorem flatten_get {n : Nat} : ∀ (es : List (List D)), (∀ e ∈ es, e.length = n) → ∀ (i : Nat) e, es[i]? = some e → ∀ (j : Nat) d, e[j]? = some d → es.flatten[i * n + j]? = some d
  | [], _, i, e, h, _, _, _ => by simp at h
  | e0 :: es, hl, i, e, he, j, d, hd => by
    have h0 := hl e0 (by simp)
    have hj : j < e.length := (List.getElem?_eq_some_iff.1 hd).1
    cases i with
    | zero =>
      simp at he
      subst he
      simp only [List.flatten_cons, Nat.zero_mul, Nat.zero_add]
      rw [List.getElem?_append_left hj]
      exact hd
    | succ i =>
      simp only [List.getElem?_cons_succ] at he
      simp only [List.flatten_cons]
      rw [List.getElem?_append_right (by rw [h0, Nat.add_mul]; omega), h0, Nat.add_mul, show i * n + 1 * n + j - n = i * n + j by omega]
      exact flatten_get es (fun e he => hl e (by simp [he])) i e he j d hd
theorem Holds.cells {w : World} {E : Env} {H : List Bk} (hH : HRep w E H) {b ver n c : Nat} {es : List (List D)} (h : Holds H b ver n es) (hs : E.σ b = some c) : ∃ cs t, w.heap[c]? = some (.cells cs t (0, 0)) ∧ ∀ (i : Nat) e, es[i]? = some e → e.length = n ∧ ∀ (j : Nat) d, e[j]? = some d → ∃ v, cs[i * n + j]? = some v ∧ DRep w E.data d v := by
  rcases h with ⟨ty, r, hb, rfl⟩ | ⟨rfl, ds, hb, hd, hx⟩
  · rcases hH b _ hb with q | ⟨_, q, _⟩
    · rw [q.2] at hs; cases hs
    · obtain ⟨cs, t, _, g1, _, _, g4⟩ := q c hs
      exact ⟨cs, t, g1, g4⟩
  · rcases hH b _ hb with q | ⟨_, q, _⟩
    · rw [q.2] at hs; cases hs
    · obtain ⟨cs, t, g1, _, _, g4⟩ := q c hs
      refine ⟨cs, t, g1, fun i e he => ?_⟩
      obtain ⟨h1, h2⟩ := hx e (List.mem_of_getElem? he)
      refine ⟨h1, fun j d hd' => ?_⟩
      obtain ⟨v, h3, h4⟩ := g4 (i * n + j) d (by rw [hd]; exact flatten_get es (fun e he => (hx e he).1) i e he j d hd')
      exact ⟨v, h3, D.dataB_rep (E := E) (E' := E.data) rfl 5 (List.all_eq_true.1 h2 d (List.mem_of_getElem? hd')) h4⟩
theorem Holds.virt {w : World} {E : Env} {H : List Bk} (hH : HRep w E H) {b ver n : Nat} {es : List (List D)} (h : Holds H b ver n es) : Bk.at H b ver = true := by
  rcases h with ⟨ty, r, hb, rfl⟩ | ⟨rfl, ds, hb, hd, hx⟩
  · unfold Bk.at; rw [hb]; simp
  · unfold Bk.at; rw [hb]; simp
theorem Holds.lt {H : List Bk} {b ver n : Nat} {es : List (List D)} (h : Holds H b ver n es) : b < H.length := by
  rcases h with ⟨ty, r, hb, _⟩ | ⟨_, ds, hb, _⟩ <;> exact (List.getElem?_eq_some_iff.1 hb).1
theorem SnD.rep {w : World} {E E1 : Env} {H H' : List Bk} (hH : HRep w E H) (hle : E.le w w E1) (hown : E.own E1) (hfz : ∀ x c, x < H.length → goneB H' x = true → E.σ x = some c → E1.G c) {d d' : D} (h : SnD H H' d d') : ∀ {v : Value}, DRep w E d v → DRep w E1 d' v := by
  induction h with
  | eq h => exact fun hr => (h.rep hr).move hle hown
  | trans _ h2 ih => exact fun hr => h2.rep (ih hr)
  | @slm n b ver nb lo len α nb' c l hg hr h0 h1 h2 =>
    intro v hv
    have hat := at_spec (hr.virt hH) hH
    cases hv with
    | @oslc _ _ _ _ _ _ _ cc m cap hk hs hnb hl hn hc hm hsz =>
      obtain ⟨cs, t, g1, gg⟩ := hr.cells hH hs
      have hml : m = l.length := by omega
      subst hml
      rw [h0]
      simp only [Int.toNat_zero, Nat.zero_mul]
      have gg : ∀ (i : Nat) x, l[i]? = some x → (c x).length = n ∧ ∀ (j : Nat) d, (c x)[j]? = some d → ∃ v, cs[i * n + j]? = some v ∧ DRep w E.data d v := fun i x hx => gg i (c x) (by simp [hx])
      refine .slm (fun i j => (cs[i * n + j]?).getD undef) (fun e he => by rw [h2 e he, hnb]; rfl) hc hm (fun x hx => ?_) (fun _ => ⟨cc, 0, rfl, hfz b cc hr.lt hg hs, fun i j hi hj => ?_⟩) fun i x j d hx hd => ?_
      · obtain ⟨i, hi⟩ := List.getElem?_of_mem hx
        exact (gg i x hi).1
      · obtain ⟨h4, h5⟩ := gg i _ (List.getElem?_eq_getElem hi)
        obtain ⟨u, h6, _⟩ := h5 j _ (List.getElem?_eq_getElem (by omega))
        rw [Nat.zero_add, h6]
        simp [World.cell?, g1, h6]
      · obtain ⟨u, h6, h7⟩ := (gg i x hx).2 j d hd
        rw [h6]
        exact h7.move hle.data Env.own.data
    | osln hk hs hnb hl hn =>
      have : l = [] := List.length_eq_zero_iff.1 (by omega)
      subst this
      exact .slm (fun _ _ => undef) (fun e he => by rw [h2 e he, hnb]; rfl) (Nat.le_refl _) (Nat.zero_le _) (fun x hx => by cases hx) (fun h => absurd rfl h) fun i x j d hx => by simp at hx
    | osls hk => rcases hat with q | q <;> omega
  | @sll n b ver nb lo len es hg hr h0 h1 h2 =>
    intro v hv
    have hat := at_spec (hr.virt hH) hH
    cases hv with
    | @oslc _ _ _ _ _ _ _ cc m cap hk hs hnb hl hn hc hm hsz =>
      obtain ⟨cs, t, g1, gg⟩ := hr.cells hH hs
      have hml : m = es.length := by omega
      subst hml
      rw [h0]
      simp only [Int.toNat_zero, Nat.zero_mul]
      refine .sll (fun i j => (cs[i * n + j]?).getD undef) hc hm (fun x hx => ?_) ⟨cc, 0, rfl, hfz b cc hr.lt hg hs, fun i j hi hj => ?_⟩ fun i x j d hx hd => ?_
      · obtain ⟨i, hi⟩ := List.getElem?_of_mem hx
        exact (gg i x hi).1
      · obtain ⟨h4, h5⟩ := gg i _ (List.getElem?_eq_getElem hi)
        obtain ⟨u, h6, _⟩ := h5 j _ (List.getElem?_eq_getElem (by omega))
        rw [Nat.zero_add, h6]
        simp [World.cell?, g1, h6]
      · obtain ⟨u, h6, h7⟩ := (gg i x hx).2 j d hd
        rw [h6]
        exact h7.move hle.data Env.own.data
    | osln hk hs hnb hl hn => rw [h2] at hnb; cases hnb
    | osls hk => rcases hat with q | q <;> omega
  | @dp b off cells hg hb hd =>
    intro v hv
    have hat := at_spec (b := b) (ver := 1) (show Bk.at H b 1 = true by unfold Bk.at; rw [hb]; rfl) hH
    cases hv with
    | @ptr _ _ _ _ cc hk hs =>
      rcases hH b _ hb with ⟨q, _⟩ | ⟨_, q, _⟩
      · omega
      obtain ⟨cs, t, g1, g2, _, g4⟩ := q cc hs
      have e0 : off = 0 + off := (Nat.zero_add off).symm
      rw [show (Value.pointer (some ⟨cc, off, none⟩)) = .pointer (some ⟨cc, 0 + off, none⟩) by rw [Nat.zero_add]]
      refine .dp (fun j => (cs[j]?).getD undef) (hfz b cc (List.getElem?_eq_some_iff.1 hb).1 hg hs) (fun j hj => ?_) fun j d hj => ?_
      · obtain ⟨u, h6, _⟩ := g4 j _ (List.getElem?_eq_getElem hj)
        rw [Nat.zero_add, h6]
        simp [World.cell?, g1, h6]
      · obtain ⟨u, h6, h7⟩ := g4 j d hj
        rw [h6]
        exact (D.dataB_rep (E := E) (E' := E.data) rfl 8 (List.all_eq_true.1 hd d (List.mem_of_getElem? hj)) h7).move hle.data Env.own.data
    | ptrs hk => rcases hat with q | q <;> omega
  | @dpn b off cells cells' hg hb hl hd _ ih =>
    intro v hv
    have hat := at_spec (b := b) (ver := 1) (show Bk.at H b 1 = true by unfold Bk.at; rw [hb]; rfl) hH
    cases hv with
    | @ptr _ _ _ _ cc hk hs =>
      rcases hH b _ hb with ⟨q, _⟩ | ⟨_, q, _⟩
      · omega
      obtain ⟨cs, t, g1, g2, _, g4⟩ := q cc hs
      rw [show (Value.pointer (some ⟨cc, off, none⟩)) = .pointer (some ⟨cc, 0 + off, none⟩) by rw [Nat.zero_add]]
      refine .dp (fun j => (cs[j]?).getD undef) (hfz b cc (List.getElem?_eq_some_iff.1 hb).1 hg hs) (fun j hj => ?_) fun j d' hj => ?_
      · obtain ⟨u, h6, _⟩ := g4 j (cells[j]'(by omega)) (List.getElem?_eq_getElem (by omega))
        rw [Nat.zero_add, h6]
        simp [World.cell?, g1, h6]
      · have hlt := (List.getElem?_eq_some_iff.1 hj).1
        have hc0 : cells[j]? = some (cells[j]'(by omega)) := List.getElem?_eq_getElem (by omega)
        obtain ⟨u, h6, h7⟩ := g4 j _ hc0
        rw [h6]
        exact D.dataB_rep (E := E1) (E' := E1.data) rfl 8 (List.all_eq_true.1 hd d' (List.mem_of_getElem? hj)) (ih j _ d' hc0 hj h7)
    | ptrs hk => rcases hat with q | q <;> omega
  | @arrp b k m f f' hg hb h =>
    intro v hv
    have hat := at_spec (b := b) (ver := 1) (show Bk.at H b 1 = true by unfold Bk.at; rw [hb]; rfl) hH
    cases hv with
    | @ptr _ _ _ _ cc hk hs =>
      rcases hH b _ hb with ⟨q, _⟩ | ⟨_, q, _⟩
      · omega
      obtain ⟨cs, t, g1, g2, _, g4⟩ := q cc hs
      refine .dpa (hfz b cc (List.getElem?_eq_some_iff.1 hb).1 hg hs) fun i hi => ?_
      obtain ⟨h6, h7⟩ := g4 i hi
      rw [← h i hi, Nat.zero_add]
      exact ⟨by simp [World.cell?, g1, h6], h7⟩
    | ptrs hk => rcases hat with q | q <;> omega
  | @mapd b kk k F F' n n' hg hb h hn =>
    intro v hv
    have hat := at_spec (b := b) (ver := 1) (show Bk.at H b 1 = true by unfold Bk.at; rw [hb]; rfl) hH
    cases hv with
    | @mapr _ _ cc hk hs =>
      rcases hH b _ hb with ⟨q, _⟩ | ⟨_, q, _⟩
      · omega
      obtain ⟨es, clock, g1, g2, g3, g4⟩ := q cc hs
      refine .mapd (hfz b cc (List.getElem?_eq_some_iff.1 hb).1 hg hs) g1 (g2.trans hn) g3 (fun e he => ?_) (fun x y hxy => ?_) g4.apart g4.clock
      · obtain ⟨x, d, q1, q2, q3, q4⟩ := g4.val e he
        simp only [ME.den] at q3
        rw [h] at q3
        cases hF : F' x with
        | none => rw [hF] at q3; cases q3
        | some y =>
          rw [hF] at q3
          simp only [Option.some.injEq] at q3
          subst q3
          generalize hev : e.val = ev at q4
          cases q4 with | int hi => exact ⟨x, y, q1, q2, hF, hi, rfl⟩
      · exact g4.has x (.int k (.var y)) (by simp only [ME.den]; rw [h, hxy])
    | maps hk => rcases hat with q | q <;> omega
  | @fn f a a' c c' ha hc _ _ ih0 ih1 =>
    intro v hv
    cases hv with | @fn _ _ _ _ x0 x1 hs0 hs1 h0 h1 =>
    refine .fn (by omega) (by omega) (fun i d v p1 p2 => ?_) (fun i d v p1 p2 => ?_)
    · have hlt := (List.getElem?_eq_some_iff.1 p1).1
      have h3 : a[i]? = some (a[i]'(by omega)) := List.getElem?_eq_getElem (by omega)
      exact ih0 i _ _ h3 p1 (h0 i _ v h3 p2)
    · have hlt := (List.getElem?_eq_some_iff.1 p1).1
      have h3 : c[i]? = some (c[i]'(by omega)) := List.getElem?_eq_getElem (by omega)
      exact ih1 i _ _ h3 p1 (h1 i _ v h3 p2)
  | @agg l l' hl _ ih =>
    intro v hv
    cases hv with | @agg _ _ vs hs hh =>
    refine .agg (by omega) fun i d v h1 h2 => ?_
    have hlt := (List.getElem?_eq_some_iff.1 h1).1
    have h3 : l[i]? = some (l[i]'(by omega)) := List.getElem?_eq_getElem (by omega)
    exact ih i _ _ h3 h1 (hh i _ v h3 h2)
  | @tup l l' hl _ ih =>
    intro v hv
    cases hv with | @tup _ _ vs hs hh =>
    refine .tup (by omega) fun i d v h1 h2 => ?_
    have hlt := (List.getElem?_eq_some_iff.1 h1).1
    have h3 : l[i]? = some (l[i]'(by omega)) := List.getElem?_eq_getElem (by omega)
    exact ih i _ _ h3 h1 (hh i _ v h3 h2)
/-- all own blocks are lent: what a call sees of them is data -/
def Env.lent (E : Env) : Nat → Prop := fun b => E.G b ∨ ∃ x, E.σ x = some b
theorem SnD.lent {w : World} {E : Env} {H : List Bk} (hH : HRep w E H) {d d' : D} (h : SnD H [] d d') {v : Value} (hr : DRep w E d v) {f : Nat} (hd : d'.dataB f = true) : DRep w (Env.of E.lent) d' v := by
  have := h.rep (E1 := ⟨E.lent, fun _ => none, fun b => E.κ b + 1, E.ζ⟩) hH ⟨fun _ h => .inl h, fun _ _ => rfl⟩ ⟨fun _ => Nat.le_succ _, fun b e => by simp only at e; omega⟩ (fun x c _ _ hs => .inr ⟨x, hs⟩) hr
  exact D.dataB_rep (E := ⟨E.lent, fun _ => none, fun b => E.κ b + 1, E.ζ⟩) (E' := Env.of E.lent) rfl f hd this
end Go.Proofs.Ytdhfakajlnidiaa
namespace Go.Proofs.Ytdhfakajlnidiaa
open Go.RowKit

/-! copy into a slice of the call's own. -/
/-- what follows is not worked out yet -/
structure HoldP (p : Unit → Prop) (K : Unit → Prop) : Prop where
  h : p ()
  k : K ()
def sCopy (T : Tab) (H : List Bk) (o : Oper) (td ts : Nat) (d s : D) (K : List Bk → D → Prop) : Prop := match T.get td, T.get ts, elemsOf H s with
  | some ⟨.slice e, _, _, _⟩, some ⟨.slice _, _, _, _⟩, some (n, rx, m) => (match T.get e with
    | some te => if te.size = n ∧ 0 < n then (match d with
      | .osl n' b ver nb lo len => (match H[b]? with
        | some (.row ty n2 ver2 r) => if n' = n ∧ n2 = n ∧ ver2 = ver then
            ReqP (fun _ => m.den = rx.den.length ∧ nb.den = false ∧ 0 ≤ lo.den ∧ lo.den + len.den ≤ r.den.length ∧ ∀ e ∈ rx.den, e.all D.cellB = true)
              (K (H.set b (.row ty n ver (.splice r lo rx (.mn m len)))) (.int .i64 (.mn m len))) else StuckP o [d, s]
        | some (.cells l) => if n' = n ∧ ver = 1 then
            HoldP (fun _ => m.den = rx.den.length ∧ nb.den = false ∧ lo.den = 0 ∧ len.den = rx.den.length ∧ (rx.den.flatten).length ≤ l.length ∧ ∀ e ∈ rx.den, e.all D.cellB = true)
              (fun _ => K (H.set b (.cells (over l 0 rx.den.flatten))) (.int .i64 len)) else StuckP o [d, s]
        | _ => StuckP o [d, s])
      | _ => StuckP o [d, s]) else StuckP o [d, s]
    | none => StuckP o [d, s])
  | _, _, _ => StuckP o [d, s]
section
variable {P : Program} {T : Tab} {H : List Bk} {ρ : Operand → D} {o : Oper}
theorem lenR64 {n : Nat} (h : n ≤ maxLen) : InR .i64 (n : Int) := by
  unfold maxLen at h
  simp [InR, IntKind.min, IntKind.max, IntKind.signed, IntKind.bits]
  omega
theorem run_copy_own {td ts ty e : Nat} {i : TypeInfo} (hu : P.underlying td = some (.slice e)) (hi : P.info? e = some i) (w : World) {c o dLen dCap : Nat} {cs : Array Value} {t : TypeId} (hb : Blk w c cs t) {a : Option Addr} {sLen sCap : Nat} {news : List Value}
    (hn : news.length = min sLen dLen * i.size) (hsrc : min sLen dLen ≠ 0 → ∃ b off, a = some ⟨b, off, none⟩ ∧ ∀ (j : Nat) u, news[j]? = some u → w.cell? ((⟨b, off, none⟩ : Addr).add j) = some u) (h1 : ∀ u ∈ news, u.oneCell' = true) (hfit : o + news.length ≤ cs.size) :
    (Builtin.copy_ #[td, ts] ty #[.slice (some ⟨c, o, none⟩) dLen dCap, .slice a sLen sCap]).run P w = .ok (goInt ((min sLen dLen : Nat) : Int)) (w.setCells c o news) := by
  have hf : (Builtin.firstCells i.size (min sLen dLen) (.slice a sLen sCap)).run P w = .ok news.toArray w := by
    by_cases h0 : min sLen dLen = 0
    · have hnil : news = [] := List.length_eq_zero_iff.1 (by rw [hn, h0]; simp)
      subst hnil
      cases a with
      | none => rw [run_firstCells_none]
      | some a =>
        have := run_firstCells_some (P := P) w i.size (min sLen dLen) a sLen sCap [] (by rw [h0]; simp) (fun j v h => by simp at h)
        exact this
    · obtain ⟨b, off, rfl, hc⟩ := hsrc h0
      exact run_firstCells_some (P := P) w i.size _ ⟨b, off, none⟩ sLen sCap news hn hc
  have hst := run_storeCells_cells (P := P) c o news 0 w (fun j hj => by
    rw [hb.cell]; simp; omega) (fun j hj => hb.frozen _) h1
  simp only [Nat.add_zero] at hst
  simp only [Nat.min_def] at hf ⊢
  simp [Builtin.copy_, run_underlying hu, Builtin.lenOf, sizeOf, typeInfo, hi, Nat.min_def, hf, hst]
theorem sCopy_eff (hT : T.ok P) {td ts : Nat} {x y : Operand} (ho : o.op = .call ⟨.builtin .copy, #[x, y], #[td, ts]⟩) {K : List Bk → D → Prop} (hk : sCopy T H o td ts (ρ x) (ρ y) K) : ∃ H' d, EEff P H ρ o H' d ∧ K H' d := by
  have hx : ∀ (ev : Operand → Value) (w : World), (execOp ev o).run P w = (do pure (.value (← Builtin.copy_ #[td, ts] o.type #[ev x, ev y])) : Sem Next).run P w := fun ev w => by
    obtain ⟨cs, h⟩ := execOp_blt (P := P) (ev := ev) ho
    rw [h w]
    simp [builtin]
  unfold sCopy at hk
  split at hk
  case h_2 => cases hk
  next e s1 b1 z1 e2 s2 b2 z2 n rx m ht hts hel =>
  split at hk
  case h_2 => cases hk
  next te hte =>
  split at hk
  case isFalse => cases hk
  next hc =>
  obtain ⟨hsz, hn0⟩ := hc
  obtain ⟨ti, d, g1, g2, _, _, _, g6⟩ := TI.of_spec (Tab.get_ok hT ht)
  obtain ⟨ti', d', f1, f2, f3, f4, f5, f6⟩ := TI.of_spec (Tab.get_ok hT hte)
  have hu : P.underlying td = some (.slice e) := by
    cases d with
    | slice e2 => simp only [TK.of, TK.slice.injEq] at g6; rw [g2, g6]
    | _ => simp [TK.of] at g6
  have hisz : ti'.size = n := f4.trans hsz
  -- the elements that are copied, one behind the other
  have src : ∀ {B : Base} {w : World} {E : Env} {ev : Operand → Value}, (∀ x, DRep w E (ρ x) (ev x)) → WRel B H E w → m.den = rx.den.length → (∀ e ∈ rx.den, e.all D.cellB = true) → ∀ dLen : Nat,
      ∃ (a : Option Addr) (c : Nat) (news : List Value), ev y = .slice a rx.den.length c ∧ news.length = min rx.den.length dLen * n ∧ (min rx.den.length dLen ≠ 0 → ∃ b off, a = some ⟨b, off, none⟩ ∧ ∀ (j : Nat) u, news[j]? = some u → w.cell? ((⟨b, off, none⟩ : Addr).add j) = some u) ∧ (∀ u ∈ news, u.oneCell' = true) ∧
        ∀ (i : Nat) e, i < dLen → rx.den[i]? = some e → e.length = n ∧ ∀ (j : Nat) d, e[j]? = some d → ∃ v, news[i * n + j]? = some v ∧ DRep w E.data d v := by
    intro B w E ev hev hw hm hcell dLen
    obtain ⟨a, c, hvx, hcells⟩ := elemsOf_rep hw (hev y) hel hm
    by_cases h0 : rx.den = []
    · exact ⟨a, c, [], hvx, by simp [h0], fun h => by simp [h0] at h, fun u hu => by simp at hu, fun i e _ he => by simp [h0] at he⟩
    · obtain ⟨b, off, rfl, hcl⟩ := hcells h0
      obtain ⟨news, n1, n2, n3, n4⟩ := flat_cells (es := rx.den.take dLen) (fun i e he => by
        rw [List.getElem?_take] at he
        split at he
        · exact hcl i e he
        · cases he) (fun e he => hcell e (List.mem_of_mem_take he))
      refine ⟨_, c, news, hvx, by rw [n1, List.length_take, Nat.min_comm], fun _ => ⟨b, off, rfl, n2⟩, n3, fun i e hi he => ⟨(hcl i e he).1, fun j d hd => n4 i e (by rw [List.getElem?_take, if_pos hi]; exact he) j d hd⟩⟩
  split at hk
  case h_2 => cases hk
  next n' b ver nb lo len hd =>
  split at hk
  · next ty n2 ver2 r hb =>
    split at hk
    case isFalse => cases hk
    next hcc =>
    obtain ⟨rfl, rfl, rfl⟩ := hcc
    obtain ⟨⟨hm, hnb, hl0, hfit, hcell⟩, hk⟩ := hk
    have hk := hk ⟨hm, hnb, hl0, hfit, hcell⟩
    refine ⟨_, _, fun B w E ev hev hw => ?_, hk⟩
    have hvs := hev x
    rw [hd] at hvs
    generalize hvsv : ev x = vs at hvs
    have hat := at_spec (b := b) (ver := ver2) (by unfold Bk.at; rw [hb]; simp) hw.heap
    cases hvs with
    | osln hk' hσ hnb' hl hn => rw [hnb] at hnb'; cases hnb'
    | osls hk' => rcases hat with q | q <;> omega
    | @oslc _ _ _ _ _ _ _ cc mm cap hk' hσ hnb' hl hn hcap hmx hsz' =>
      obtain ⟨a, c0, news, v1, v2, v3, v4, v5⟩ := src hev hw hm hcell mm
      rcases hw.heap b _ hb with q | ⟨_, q2, _⟩
      · rw [q.2] at hσ; cases hσ
      obtain ⟨cs, tt, gt, w1, w2, w3, w4⟩ := q2 cc hσ
      have hspan : (lo.den.toNat + min rx.den.length mm) * n2 ≤ cs.size := Nat.le_trans (Nat.mul_le_mul_right _ (by omega)) w3
      have hfit2 : lo.den.toNat * n2 + news.length ≤ cs.size := by rw [v2, ← Nat.add_mul]; exact hspan
      have hrun := run_copy_own (P := P) (ty := o.type) (ts := ts) hu f1 w (c := cc) (o := lo.den.toNat * n2) (dLen := mm) (dCap := cap) (cs := cs) (t := tt) w1 (a := a) (sLen := rx.den.length) (sCap := c0) (news := news) (by rw [hisz]; exact v2) v3 v4 hfit2
      obtain ⟨c', e1, e2, e3⟩ := setCells_blk news (lo.den.toNat * n2) w cs w1 hfit2
      have hold := hw.le_set hσ news (lo.den.toNat * n2)
      have hK : (IE.mn m len).den = ((min rx.den.length mm : Nat) : Int) := by simp only [IE.den]; omega
      have hKn : (IE.mn m len).den.toNat = min rx.den.length mm := by omega
      generalize hk0 : min rx.den.length mm = k at *
      have hlr : lo.den.toNat + k ≤ r.den.length := by omega
      have hdl : (RE.splice r lo rx (.mn m len)).den.length = r.den.length := by simp only [RE.den, hKn]; simp; omega
      obtain ⟨q5, q6⟩ := hw.put hσ hb (b' := .row ty n2 ver2 (.splice r lo rx (.mn m len))) news (lo.den.toNat * n2) (by rw [hk']; rfl) ⟨c', tt, gt, e1, by omega, by rw [hdl]; omega, fun i el hi => by
        simp only [RE.den, hKn] at hi
        have hil : i < r.den.length := by rw [← hdl]; simp only [RE.den, hKn]; exact (List.getElem?_eq_some_iff.1 hi).1
        have old : ∀ (i : Nat) el, r.den[i]? = some el → (i < lo.den.toNat ∨ lo.den.toNat + k ≤ i) → el.length = n2 ∧ ∀ (j : Nat) d, el[j]? = some d → ∃ v, c'[i * n2 + j]? = some v ∧ DRep (w.setCells cc (lo.den.toNat * n2) news) E.data d v := by
          intro i el hi hout
          obtain ⟨k1, k2⟩ := w4 i el hi
          refine ⟨k1, fun j d hdd => ?_⟩
          obtain ⟨v, k3, k4⟩ := k2 j d hdd
          have hj : j < n2 := by rw [← k1]; exact (List.getElem?_eq_some_iff.1 hdd).1
          have hb2 := (Array.getElem?_eq_some_iff.1 k3).1
          refine ⟨v, ?_, k4.move hold.data Env.own.data⟩
          rw [e3 _ hb2, if_neg, k3]
          rw [v2]
          rcases hout with p1 | p1
          · have : (i + 1) * n2 ≤ lo.den.toNat * n2 := Nat.mul_le_mul_right _ p1
            rw [Nat.add_mul, Nat.one_mul] at this
            omega
          · have : (lo.den.toNat + k) * n2 ≤ i * n2 := Nat.mul_le_mul_right _ p1
            rw [Nat.add_mul] at this
            omega
        by_cases p1 : i < lo.den.toNat
        · rw [List.append_assoc, List.getElem?_append_left (by simp; omega), List.getElem?_take, if_pos p1] at hi
          exact old i el hi (.inl p1)
        · by_cases p2 : i < lo.den.toNat + k
          · rw [List.getElem?_append_left (by simp; omega), List.getElem?_append_right (by simp; omega)] at hi
            have e4 : i - (List.take lo.den.toNat r.den).length = i - lo.den.toNat := by simp; omega
            rw [e4, List.getElem?_take, if_pos (by omega)] at hi
            obtain ⟨k1, k2⟩ := v5 (i - lo.den.toNat) el (by omega) hi
            refine ⟨k1, fun j d hdd => ?_⟩
            obtain ⟨v, k3, k4⟩ := k2 j d hdd
            have hlt := (List.getElem?_eq_some_iff.1 k3).1
            have hj : j < n2 := by rw [← k1]; exact (List.getElem?_eq_some_iff.1 hdd).1
            have e5 : i * n2 + j = lo.den.toNat * n2 + ((i - lo.den.toNat) * n2 + j) := by
              rw [← Nat.add_assoc, ← Nat.add_mul]
              congr 2
              omega
            refine ⟨v, ?_, k4.move hold.data Env.own.data⟩
            rw [e3 _ (by rw [e5]; omega), if_pos (by rw [e5]; omega), e5, Nat.add_sub_cancel_left]
            exact k3
          · rw [List.getElem?_append_right (by simp; omega), List.getElem?_drop] at hi
            have e4 : lo.den.toNat + k + (i - (List.take lo.den.toNat r.den ++ List.take k rx.den).length) = i := by simp; omega
            rw [e4] at hi
            exact old i el hi (.inr (by omega))⟩
      refine ⟨_, .int .i64 ((k : Nat) : Int), _, E, ?_, .inl rfl, q5, q6, Env.own.refl _, (by rw [← hK]; exact .int (by rw [hK]; exact lenR64 (by omega))), fun _ _ => ⟨rfl, rfl⟩⟩
      rw [hx, hvsv, v1]
      simp [hrun, goInt]
  · next l hb =>
    split at hk
    case isFalse => cases hk
    next hcc =>
    obtain ⟨rfl, rfl⟩ := hcc
    obtain ⟨⟨hm, hnb, hl0, hfull, hfit, hcell⟩, hk⟩ := hk
    refine ⟨_, _, fun B w E ev hev hw => ?_, hk⟩
    have hvs := hev x
    rw [hd] at hvs
    generalize hvsv : ev x = vs at hvs
    have hat := at_spec (b := b) (ver := 1) (by unfold Bk.at; rw [hb]; simp) hw.heap
    cases hvs with
    | osln hk' hσ hnb' hl hn => rw [hnb] at hnb'; cases hnb'
    | osls hk' => rcases hat with q | q <;> omega
    | @oslc _ _ _ _ _ _ _ cc mm cap hk' hσ hnb' hl hn hcap hmx hsz' =>
      obtain ⟨a, c0, news, v1, v2, v3, v4, v5⟩ := src hev hw hm hcell mm
      have hmm : mm = rx.den.length := by omega
      rcases hw.heap b _ hb with q | ⟨_, q2, _⟩
      · rw [q.2] at hσ; cases hσ
      obtain ⟨cs, tt, w1, w2, wz, w4⟩ := q2 cc hσ
      have hallen : ∀ e ∈ rx.den, e.length = n' := fun e he => by
        obtain ⟨i, hi⟩ := List.getElem?_of_mem he
        exact (v5 i e (by rw [hmm]; exact (List.getElem?_eq_some_iff.1 hi).1) hi).1
      have hflen : rx.den.flatten.length = rx.den.length * n' := by
        have : ∀ es : List (List D), (∀ e ∈ es, e.length = n') → es.flatten.length = es.length * n' := fun es => by
          induction es with
          | nil => simp
          | cons e es ih =>
            intro h
            simp only [List.flatten_cons, List.length_append, List.length_cons]
            rw [ih fun e he => h e (by simp [he]), h e (by simp), Nat.add_mul]
            omega
        exact this _ hallen
      rw [hl0] at hvsv
      simp only [Int.toNat_zero, Nat.zero_mul] at hvsv
      have hnl : news.length = rx.den.flatten.length := by rw [v2, hmm, Nat.min_self, hflen]
      have hfit2 : 0 + news.length ≤ cs.size := by omega
      have hrun := run_copy_own (P := P) (ty := o.type) (ts := ts) hu f1 w (c := cc) (o := 0) (dLen := mm) (dCap := cap) (cs := cs) (t := tt) w1 (a := a) (sLen := rx.den.length) (sCap := c0) (news := news) (by rw [hisz]; exact v2) v3 v4 hfit2
      obtain ⟨c', e1, e2, e3⟩ := setCells_blk news 0 w cs w1 hfit2
      have hold := hw.le_set hσ news 0
      have hlen2 : (over l 0 rx.den.flatten).length = l.length := by unfold over; rw [List.take_zero, List.nil_append, List.length_append, List.length_drop]; omega
      obtain ⟨q5, q6⟩ := hw.put hσ hb (b' := .cells (over l 0 rx.den.flatten)) news 0 (by rw [hk']; rfl) ⟨c', tt, e1, by omega, by rw [hlen2]; exact wz, fun i d hdd => by
        have hi : i < l.length := by rw [← hlen2]; exact (List.getElem?_eq_some_iff.1 hdd).1
        rw [e3 i (by omega)]
        unfold over at hdd
        simp only [List.take_zero, List.nil_append, Nat.zero_add] at hdd
        by_cases p2 : i < rx.den.flatten.length
        · rw [if_pos (by omega), Nat.sub_zero]
          rw [List.getElem?_append_left p2] at hdd
          have hn0' : 0 < n' := hn0
          have hdiv : i / n' < rx.den.length := Nat.div_lt_of_lt_mul (by rw [Nat.mul_comm, ← hflen]; exact p2)
          have hel2 : rx.den[i / n']? = some (rx.den[i / n']) := List.getElem?_eq_getElem hdiv
          obtain ⟨k1, k2⟩ := v5 (i / n') _ (by omega) hel2
          have hmod : i % n' < (rx.den[i / n']).length := by rw [k1]; exact Nat.mod_lt _ hn0'
          have hde : i / n' * n' + i % n' = i := by rw [Nat.mul_comm]; exact Nat.div_add_mod i n'
          have hfg := flatten_get rx.den hallen (i / n') _ hel2 (i % n') _ (List.getElem?_eq_getElem hmod)
          rw [hde, hdd] at hfg
          simp only [Option.some.injEq] at hfg
          obtain ⟨v, k3, k4⟩ := k2 (i % n') _ (List.getElem?_eq_getElem hmod)
          rw [hde] at k3
          exact ⟨v, k3, by rw [hfg]; exact (k4.move hold.data Env.own.data).undata hw.wf⟩
        · rw [if_neg (by omega)]
          rw [List.getElem?_append_right (by omega), List.getElem?_drop, show rx.den.flatten.length + (i - rx.den.flatten.length) = i by omega] at hdd
          obtain ⟨v, k1, k2⟩ := w4 i d hdd
          exact ⟨v, k1, k2.move hold (Env.own.refl _)⟩⟩
      refine ⟨_, .int .i64 ((mm : Nat) : Int), _, E, ?_, .inl rfl, q5, q6, Env.own.refl _, (by rw [← hn]; exact .int (by rw [hn]; exact lenR64 (by omega))), fun _ _ => ⟨rfl, rfl⟩⟩
      rw [hx, hvsv, v1]
      simp only [hmm, Nat.min_self] at hrun ⊢
      simp [hrun, goInt]
  · cases hk
end
end Go.Proofs.Ytdhfakajlnidiaa
namespace Go.Proofs.Ytdhfakajlnidiaa
open Go.RowKit

/-! Calls, regions in the order of the text, code. -/

def LRep (w : World) (E : Env) (ds : List D) (vs : Array Value) : Prop := ds.length = vs.size ∧ ∀ (i : Nat) d v, ds[i]? = some d → vs[i]? = some v → DRep w E d v
def Here (P : Program) (f : Nat) : Prop := ∃ fn c, P.funcs[f]? = some fn ∧ fn.body = some c ∧ (fn.name == "runtime.NumGoroutine") = false
/-- the function gives this for these arguments, and leaves all that was there as it was -/
def Pure (P : Program) (f : Nat) (args : List D) (d : D) : Prop :=
  Here P f ∧ ∀ (w : World) (G : Nat → Prop) (vs : Array Value), Laid w G → (∀ b, G b → b < w.heap.size) → LRep w (Env.of G) args vs →
    Calls P f vs w fun e w' => ∃ (v : Value) (G' : Nat → Prop), e = .returned v ∧ Below w.heap.size w w' ∧ (∀ b, G b → G' b) ∧ (∀ b, G' b → G b ∨ w.heap.size ≤ b) ∧ (∀ b, G' b → b < w'.heap.size) ∧ DRep w' (Env.of G') d v
/-- a call, and what follows -/
structure CallP (P : Program) (f : Nat) (args : List D) (H : List Bk) (K : D → List Bk → Prop) : Prop where
  here : Here P f
  run : ∀ (B : Base) (w : World) (E : Env) (vs : Array Value), B.h0 ≤ H.length → LRep w E args vs → WRel B H E w →
    Calls P f vs w fun e w' => ∃ (v : Value) (E' : Env) (d : D) (H' : List Bk), e = .returned v ∧ WRel B H' E' w' ∧ DRep w' E' d v ∧ K d H'
theorem Below.le_env {w w' : World} {E : Env} {G' : Nat → Prop} (hb : Below w.heap.size w w') (hg : ∀ b, E.G b → b < w.heap.size) (hG : ∀ b, E.G b → G' b) : E.le w w' ⟨G', E.σ, E.κ, E.ζ⟩ :=
  ⟨hG, fun b h => hb.block b (hg b h)⟩
/-- the blocks of the caller, behind a call that keeps all -/
theorem WRel.kept {B : Base} {H : List Bk} {E : Env} {w w' : World} {G' : Nat → Prop} (h : WRel B H E w) (hb : Below w.heap.size w w') (h1 : ∀ b, E.G b → G' b) (h2 : ∀ b, G' b → E.G b ∨ w.heap.size ≤ b) (h3 : ∀ b, G' b → b < w'.heap.size) :
    WRel B H ⟨G', E.σ, E.κ, E.ζ⟩ w' := by
  have hle := Below.le_env (E := E) hb h.good h1
  have hown : E.own ⟨G', E.σ, E.κ, E.ζ⟩ := ⟨fun _ => Nat.le_refl _, fun _ _ => ⟨rfl, fun _ _ => rfl⟩⟩
  have hsz := hb.size
  refine ⟨h.inj, fun x c hx => ?_, h.wf, fun x b hx => ?_, h.out, h3, fun b hb => h1 b (h.g0 b hb), fun b hb => ?_, h.bel.trans (hb.mono h.bel.size), B.stab _ _ _ _ hle hown h.phi⟩
  · obtain ⟨q1, q2, q3⟩ := h.own x c hx
    exact ⟨q1, by omega, fun q => by rcases h2 c q with q | q; exact q3 q; omega⟩
  · rcases h.heap x b hx with q | ⟨q1, q2, q3⟩
    · exact .inl q
    · exact .inr ⟨q1, fun c hc => (q2 c hc).move hle hown (hb.block c (h.own x c hc).2.1) rfl, q3⟩
  · have := h.bel.size
    rcases h2 b hb with q | q
    · exact h.gn b q
    · exact .inr (by omega)
theorem CallP.pure {P : Program} {f : Nat} {args : List D} {H : List Bk} {K : D → List Bk → Prop} (d : D) (hp : Pure P f args d) (hd : args.all (D.dataB 8) = true) (hk : K d H) : CallP P f args H K := by
  refine ⟨hp.1, fun B w E vs _ hv hw => ?_⟩
  refine (hp.2 w E.G vs hw.laid hw.good ⟨hv.1, fun i x v h1 h2 => D.dataB_rep (E := E) (E' := Env.of E.G) rfl 8 (List.all_eq_true.1 hd x (List.mem_of_getElem? h1)) (hv.2 i x v h1 h2)⟩).mono ?_
  rintro e w' ⟨v, G', h1, h2, h3, h4, h5, h6⟩
  exact ⟨v, ⟨G', E.σ, E.κ, E.ζ⟩, d, H, h1, hw.kept h2 h3 h4 h5, DRep.undata (E := ⟨G', E.σ, E.κ, E.ζ⟩) hw.wf h6, hk⟩
/-- arguments of which some are rows of the caller's own, handed over as they stand: the result is a plain value -/
def D.scalB : D → Bool
  | .int .. | .bool _ | .str _ => true
  | .tup l => l.all fun d => match d with | .int .. | .bool _ | .str _ => true | _ => false
  | _ => false
theorem D.scalB_rep {w : World} {E E' : Env} {d : D} {v : Value} (h : d.scalB = true) (hr : DRep w E d v) : DRep w E' d v := by
  cases hr with
  | int h' => exact .int h'
  | bool => exact .bool
  | str h' => exact .str h'
  | tup hs hh =>
    simp only [D.scalB, List.all_eq_true] at h
    refine .tup hs fun i d v h1 h2 => ?_
    have h3 := h d (List.mem_of_getElem? h1)
    have h4 := hh i d v h1 h2
    cases h4 <;> first | exact .bool | (exact .int (by assumption)) | (exact .str (by assumption)) | cases h3
  | _ => cases h

theorem WRel.lentGood {B : Base} {H : List Bk} {E : Env} {w : World} (h : WRel B H E w) : ∀ b, E.lent b → b < w.heap.size := fun b hb => by
  rcases hb with hb | ⟨x, hx⟩
  · exact h.good b hb
  · exact (h.own x b hx).2.1
theorem WRel.lentLaid {B : Base} {H : List Bk} {E : Env} {w : World} (h : WRel B H E w) : Laid w E.lent := h.laid.le (E' := Env.of E.lent) ⟨fun _ h => .inl h, fun _ _ => rfl⟩
theorem WRel.same {B : Base} {H : List Bk} {E : Env} {w w' : World} (h : WRel B H E w) (hb : Below w.heap.size w w') : WRel B H E w' :=
  h.kept (G' := E.G) hb (fun _ h => h) (fun _ h => .inl h) (fun b hh => Nat.lt_of_lt_of_le (h.good b hh) hb.size)
/-- a call that reads own blocks, and gives a plain value -/
theorem CallP.lend {P : Program} {f : Nat} {args : List D} {H : List Bk} {K : D → List Bk → Prop} (args' : List D) (d : D) (hp : Pure P f args' d) (hs : SnDs H [] args args') (hd : args'.all (D.dataB 8) = true) (hsc : d.scalB = true) (hk : K d H) : CallP P f args H K := by
  refine ⟨hp.1, fun B w E vs _ hv hw => ?_⟩
  obtain ⟨h1, h2⟩ := hs.get
  refine (hp.2 w E.lent vs hw.lentLaid hw.lentGood ⟨by rw [← h1]; exact hv.1, fun i x v hx hv' => ?_⟩).mono ?_
  · have hlt := (List.getElem?_eq_some_iff.1 hx).1
    have hx0 : args[i]? = some (args[i]'(by omega)) := List.getElem?_eq_getElem (by omega)
    exact (h2 i _ x hx0 hx).lent hw.heap (hv.2 i _ v hx0 hv') (List.all_eq_true.1 hd x (List.mem_of_getElem? hx))
  · rintro e w' ⟨v, G', rfl, q2, q3, q4, q5, q6⟩
    exact ⟨v, E, d, H, rfl, hw.same q2, D.scalB_rep hsc q6, hk⟩

/-- the same of a function whose result says nothing of blocks that were there before -/
def PureF (P : Program) (f : Nat) (args : List D) (d : D) : Prop :=
  Here P f ∧ ∀ (w : World) (G : Nat → Prop) (vs : Array Value), Laid w G → (∀ b, G b → b < w.heap.size) → LRep w (Env.of G) args vs →
    Calls P f vs w fun e w' => ∃ (v : Value) (G' : Nat → Prop), e = .returned v ∧ Below w.heap.size w w' ∧ (∀ b, G' b → w.heap.size ≤ b ∧ b < w'.heap.size) ∧ DRep w' (Env.of G') d v
theorem PureF.pure {P : Program} {f : Nat} {args : List D} {d : D} (h : PureF P f args d) : Pure P f args d := by
  refine ⟨h.1, fun w G vs hL hG hv => (h.2 w G vs hL hG hv).mono ?_⟩
  rintro e w' ⟨v, G', h1, h2, h3, h4⟩
  have hsz := h2.size
  refine ⟨v, fun b => G b ∨ G' b, h1, h2, fun b hb => .inl hb, fun b hb => hb.imp id fun q => (h3 b q).1, fun b hb => ?_, h4.move ⟨fun b hb => .inr hb, fun _ _ => rfl⟩ ⟨fun _ => Nat.le_refl _, fun _ _ => ⟨rfl, fun _ _ => rfl⟩⟩⟩
  rcases hb with q | q
  · have := hG b q; omega
  · exact (h3 b q).2
/-- a call that reads own blocks, and gives something new -/
theorem CallP.lendF {P : Program} {f : Nat} {args : List D} {H : List Bk} {K : D → List Bk → Prop} (args' : List D) (d : D) (hp : PureF P f args' d) (hs : SnDs H [] args args') (hd : args'.all (D.dataB 8) = true) (hk : K d H) : CallP P f args H K := by
  refine ⟨hp.1, fun B w E vs _ hv hw => ?_⟩
  obtain ⟨h1, h2⟩ := hs.get
  refine (hp.2 w E.lent vs hw.lentLaid hw.lentGood ⟨by rw [← h1]; exact hv.1, fun i x v hx hv' => ?_⟩).mono ?_
  · have hlt := (List.getElem?_eq_some_iff.1 hx).1
    have hx0 : args[i]? = some (args[i]'(by omega)) := List.getElem?_eq_getElem (by omega)
    exact (h2 i _ x hx0 hx).lent hw.heap (hv.2 i _ v hx0 hv') (List.all_eq_true.1 hd x (List.mem_of_getElem? hx))
  · rintro e w' ⟨v, G', rfl, q2, q3, q4⟩
    have hsz := q2.size
    have k1 := hw.kept (G' := fun b => E.G b ∨ G' b) q2 (fun b hb => .inl hb) (fun b hb => hb.imp id fun q => (q3 b q).1) (fun b hb => by
      rcases hb with q | q
      · have := hw.good b q; omega
      · exact (q3 b q).2)
    exact ⟨v, _, d, H, rfl, k1, DRep.undata (E := ⟨fun b => E.G b ∨ G' b, E.σ, E.κ, E.ζ⟩) k1.wf (q4.move ⟨fun b hb => .inr hb, fun _ _ => rfl⟩ ⟨fun _ => Nat.le_refl _, fun _ _ => ⟨rfl, fun _ _ => rfl⟩⟩), hk⟩

structure Cx where
  T : Tab
  nt : Nat
  h0 : Nat
def Fr.ev (fr : Fr) : Operand → D
  | .tmp t => fr.get t
  | .const v => D.ofV v
  | .global g => laidD laidL g
  | .func f => .fn (.func f) [] []
def Fr.put (fr : Fr) (dst : Option Nat) (d : D) : Fr := match dst with | some t => fr.set t d | none => fr
def dstB (nt : Nat) (dst : Option Nat) : Bool := match dst with | some t => decide (t < nt) | none => true
def opnds (fr : Fr) (o : Oper) : List D := o.op.operands.toList.map fr.ev
/-- does a slot of the region stand first in an append? -/
def isBase (t : Nat) : List Oper → Bool
  | [] => false
  | o :: os => match o.op with
    | .call ⟨.builtin .append, ⟨[.tmp t', _]⟩, _⟩ => if t' = t then true else isBase t os
    | _ => isBase t os
def qopB (own : Bool) (T : Tab) (H : List Bk) (ρ : Operand → D) (o : Oper) : QR := match own with
  | true => (qop T H ρ o).own
  | false => qop T H ρ o
theorem qopB_good {P : Program} {T : Tab} {H : List Bk} {ρ : Operand → D} {o : Oper} (hT : T.ok P) (own : Bool) : (qopB own T H ρ o).good P H ρ o := by
  unfold qopB
  cases own
  · exact qop_good hT
  · exact QR.own_good (qop_good hT)
def baseB (ops : Array Oper) (o : Oper) : Bool := match o.op, o.dst with
  | .buildSlice .., some t => isBase t ops.toList
  | _, _ => false
/-- a call of a method of an interface value -/
structure InvP (P : Program) (t : Nat) (d : D) (m : String) (args : List D) (H : List Bk) (K : D → List Bk → Prop) : Prop where
  run : ∀ (B : Base) (w : World) (E : Env) (v : Value) (vs : Array Value), B.h0 ≤ H.length → DRep w E d v → LRep w E args vs → WRel B H E w →
    ∃ f u, (method (P.types.size + Made.depth) t v m).run P w = .ok (f, u) w ∧ Here P f ∧ Calls P f (#[u] ++ vs) w fun e w' => ∃ (v : Value) (E' : Env) (d : D) (H' : List Bk), e = .returned v ∧ WRel B H' E' w' ∧ DRep w' E' d v ∧ K d H'
theorem inv_args (x : Value) (A : Array Value) : (#[x] ++ A)[0]? = some x ∧ (#[x] ++ A).extract 1 (#[x] ++ A).size = A := by
  refine ⟨?_, ?_⟩
  · rw [Array.getElem?_append_left (by simp)]
    rfl
  · apply Array.ext
    · simp
    · intro i h1 h2
      simp only [Array.getElem_extract]
      rw [Array.getElem_append_right (by simp)]
      simp
def vop (P : Program) (cx : Cx) (own : Bool) (o : Oper) (fr : Fr) (H : List Bk) (K : Fr → List Bk → Prop) : Prop :=
  if dstB cx.nt o.dst then (match o.op with
    | .store t a x => sStore2 cx.T H o t (fr.ev a) (fr.ev x) fun H' => K (fr.put o.dst (.tup [])) H'
    | .mapUpdate t m i x => sMapU cx.T H o t (fr.ev m) (fr.ev i) (fr.ev x) fun H' => K (fr.put o.dst (.tup [])) H'
    | .call ⟨.builtin .clear, ⟨[m]⟩, ⟨[t]⟩⟩ => sClear cx.T H o t (fr.ev m) fun H' => K (fr.put o.dst (.tup [])) H'
    | .call ⟨.builtin .copy, ⟨[d, s]⟩, ⟨[t, t']⟩⟩ => sCopy cx.T H o t t' (fr.ev d) (fr.ev s) fun H' d => K (fr.put o.dst d) H'
    | .call ⟨.builtin .append, ⟨[s, x]⟩, ⟨[t, t']⟩⟩ => if t = t' then sAppend cx.T H o t (fr.ev s) (fr.ev x) fun H' d => K (fr.put o.dst d) H' else StuckP o []
    | .call ⟨.value f, args, _⟩ => (match fr.ev f with
      | .fn (.func n) first cap => if decide (cx.h0 ≤ H.length) && fr.all (fun p => p.2.undr 8 H.length) then CallP P n (first ++ args.toList.map fr.ev ++ cap) H fun d H' => K (fr.put o.dst d) H' else StuckP o []
      | _ => StuckP o (opnds fr o))
    | .call ⟨.invoke r m, args, _⟩ => (match fr.ev r with
      | .ifc t d => if decide (cx.h0 ≤ H.length) && fr.all (fun p => p.2.undr 8 H.length) then InvP P t d m (args.toList.map fr.ev) H fun d H' => K (fr.put o.dst d) H' else StuckP o []
      | _ => StuckP o (opnds fr o))
    | _ => (qopB own cx.T H fr.ev o).run o (opnds fr o) H.length fun d nw => K (fr.put o.dst d) (H ++ nw)) else StuckP o []
/-- the truth value that decides something is parted first -/
def part1 (fr : Fr) (t : Nat) (F : Fr → Prop) : Prop := match fr.get t with
  | .bool (.lit _) => F fr
  | .bool e => SplitP e (F (fr.set t (.bool (.lit true)))) (F (fr.set t (.bool (.lit false))))
  | _ => F fr
def pickT : Op → Option Nat
  | .pick (.tmp t) _ _ => some t
  | _ => none
def part2 (fr : Fr) (o : Oper) (F : Fr → Prop) : Prop := match pickT o.op with
  | some t => part1 fr t F
  | none => F fr
/-- operations that are left over: what the walk does not go on with by itself -/
structure OpsP (P : Program) (cx : Cx) (ops : Array Oper) (os : List Oper) (fr : Fr) (H : List Bk) (K : Fr → List Bk → Prop) : Prop where
  run : ∀ (B : Base) (E : Env) (a : Act) (w : World), cx.nt = B.nt → B.h0 ≤ cx.h0 → Rel B ⟨fr, H⟩ E a w → ∀ Q : Exit → Act → World → Prop, (∀ fr' H' E' a' w', K fr' H' → Rel B ⟨fr', H'⟩ E' a' w' → Q .normal a' w') → wpList P ops Q os a w
def isOsl : D → Bool
  | .osl .. => true
  | _ => false
/-- a row is built out of own rows: they are to be given up first -/
def pauseB (o : Oper) (ds : List D) : Bool := match o.op with
  | .buildSlice .. => ds.any fun d => match d with
    | .agg l => l.any isOsl
    | d => isOsl d
  | .store .. => (match ds with
    | [.rp .., .osl ..] => true
    | _ => false)
  | .lookup .. => (match ds with
    | [.mapr _, .agg _] => true
    | _ => false)
  | .mapUpdate .. => (match ds with
    | [.mapr _, .agg _, _] => true
    | _ => false)
  | _ => false
def pauseG (o : Oper) (fr : Fr) : Bool := match o.guard with
  | none => pauseB o (opnds fr o)
  | some _ => false
/-- a great region is walked in pieces -/
def cutB (ops : Array Oper) (os : List Oper) : Bool := if ops.size ≤ 48 then false else (if os.length % 17 = 0 then (if os.length = ops.size then false else true) else false)
/-- the next operation -/
def vopsH (P : Program) (cx : Cx) (ops : Array Oper) (o : Oper) (fr : Fr) (H : List Bk) (Kn : Fr → List Bk → Prop) : Prop := match o.guard with
  | none => part2 fr o fun fr => vop P cx (baseB ops o) o fr H Kn
  | some (j, b) => match (ops[j]?).bind (·.dst) with
    | some t => if decide (t < cx.nt) && dstB cx.nt o.dst then part1 fr t fun fr => (match fr.get t with
      | .bool (.lit c) => if c = b then part2 fr o fun fr => vop P cx (baseB ops o) o fr H Kn else Kn (fr.put o.dst (.tup [])) H
      | .tup [] => Kn (fr.put o.dst (.tup [])) H
      | d => StuckP o [d]) else StuckP o []
    | none => StuckP o []
def vops (P : Program) (cx : Cx) (ops : Array Oper) : List Oper → Fr → List Bk → (Fr → List Bk → Prop) → Prop
  | [], fr, H, K => K fr H
  | o :: os, fr, H, K => if pauseG o fr then OpsP P cx ops (o :: os) fr H K else (if cutB ops (o :: os) then OpsP P cx ops (o :: os) fr H K else vopsH P cx ops o fr H fun fr H => vops P cx ops os fr H K)
section
theorem Fr.get_undr {n : Nat} {fr' : Fr} (h : fr'.all (fun p => p.2.undr 8 n) = true) (t : Nat) : (fr'.get t).undr 8 n = true := by
  induction fr' with
  | nil => rfl
  | cons p r ih =>
    obtain ⟨m, d⟩ := p
    simp only [List.all_cons, Bool.and_eq_true] at h
    simp only [Fr.get]
    split
    · exact h.1
    · exact ih h.2
variable {P : Program} {cx : Cx} {B : Base}
theorem Rel.ev {fr : Fr} {H : List Bk} {E : Env} {a : Act} {w : World} (h : Rel B ⟨fr, H⟩ E a w) (x : Operand) : DRep w E (fr.ev x) (a.eval x) := by
  cases x with
  | tmp t => exact h.fr t
  | const v => exact D.ofV_rep v
  | global g => exact (h.wr.laid.get _).undata h.wr.wf
  | func f => exact .fn rfl rfl (fun i d v h => by simp at h) (fun i d v h => by simp at h)
theorem Rel.put {fr : Fr} {H H' : List Bk} {E E' : Env} {a : Act} {w w' : World} (h : Rel B ⟨fr, H⟩ E a w) (hw : WRel B H' E' w') (hle : E.le w w' E') (hown : E.own E') {dst : Option Nat} (hd : dstB B.nt dst = true) {d : D} {v : Value} (hv : DRep w' E' d v) : Rel B ⟨fr.put dst d, H'⟩ E' (a.put dst v) w' := by
  refine ⟨put_size.trans h.sz, put_defers'.trans h.df, fun t => ?_, hw⟩
  cases dst with
  | none => exact (h.fr t).move hle hown
  | some k =>
    simp only [dstB, decide_eq_true_eq] at hd
    have hlt : k < a.tmps.size := by rw [h.sz]; exact hd
    show DRep w' E' (Fr.get (Fr.set fr k d) t) ((a.put (some k) v).tmps.getD t undef)
    rw [Fr.get_set]
    by_cases e : k = t
    · subst e
      rw [if_pos rfl]
      have := eval_put_same (v := v) hlt
      exact (by rw [show (a.put (some k) v).tmps.getD k undef = v from this]; exact hv)
    · rw [if_neg e]
      have := eval_put_ne (a := a) (v := v) e
      rw [show (a.put (some k) v).tmps.getD t undef = a.tmps.getD t undef from this]
      exact (h.fr t).move hle hown
/-- a truth value that is known as a literal -/
theorem Rel.lit {fr : Fr} {H : List Bk} {E : Env} {a : Act} {w : World} (h : Rel B ⟨fr, H⟩ E a w) {t : Nat} {e : BE} (ht : fr.get t = .bool e) {b : Bool} (hb : e.den = b) : Rel B ⟨fr.set t (.bool (.lit b)), H⟩ E a w := by
  refine ⟨h.sz, h.df, fun k => ?_, h.wr⟩
  show DRep w E (Fr.get (Fr.set fr t _) k) _
  rw [Fr.get_set]
  by_cases q : t = k
  · subst q
    rw [if_pos rfl]
    have := h.fr t
    simp only [ht] at this
    generalize a.tmps.getD t undef = v at this
    cases this
    rw [hb]
    exact .bool (e := .lit b)
  · rw [if_neg q]
    exact h.fr k
theorem part1_sound {fr : Fr} {H : List Bk} {E : Env} {a : Act} {w : World} (h : Rel B ⟨fr, H⟩ E a w) {t : Nat} {F : Fr → Prop} (hp : part1 fr t F) : ∃ fr', F fr' ∧ Rel B ⟨fr', H⟩ E a w := by
  unfold part1 at hp
  split at hp
  · exact ⟨fr, hp, h⟩
  · next e _ he =>
    obtain ⟨h1, h2⟩ := hp
    cases hb : e.den with
    | true => exact ⟨_, h1 hb, h.lit he hb⟩
    | false => exact ⟨_, h2 hb, h.lit he hb⟩
  · exact ⟨fr, hp, h⟩
theorem part2_sound {fr : Fr} {H : List Bk} {E : Env} {a : Act} {w : World} (h : Rel B ⟨fr, H⟩ E a w) {o : Oper} {F : Fr → Prop} (hp : part2 fr o F) : ∃ fr', F fr' ∧ Rel B ⟨fr', H⟩ E a w := by
  unfold part2 at hp
  split at hp
  · exact part1_sound h hp
  · exact ⟨fr, hp, h⟩
theorem callFunc_here {f : Nat} (h : Here P f) (args : Array Value) (w : World) : (callFunc f args).run P w = .ok (.enter f args) w := by
  obtain ⟨fn, c, h1, h2, h3⟩ := h
  have h4 : ¬ fn.name = "runtime.NumGoroutine" := by simpa using h3
  simp [callFunc, h1, h2, h4]
theorem vop_sound (hT : cx.T.ok P) (hnt : cx.nt = B.nt) (hh0 : B.h0 ≤ cx.h0) {o : Oper} {fr : Fr} {H : List Bk} {K : Fr → List Bk → Prop} {own : Bool} (hk : vop P cx own o fr H K) {E : Env} {a : Act} {w : World} (h : Rel B ⟨fr, H⟩ E a w) {Q : Exit → Act → World → Prop} :
    o.wp P a w (fun a' w' => ∃ fr' H' E', K fr' H' ∧ Rel B ⟨fr', H'⟩ E' a' w') Q := by
  have eff : ∀ {H' : List Bk} {d : D}, EEff P H fr.ev o H' d → dstB cx.nt o.dst = true → K (fr.put o.dst d) H' → o.wp P a w (fun a' w' => ∃ fr' H' E', K fr' H' ∧ Rel B ⟨fr', H'⟩ E' a' w') Q := by
    intro H' d he hd hK
    obtain ⟨nx, v, w', E', h1, h2, h3, h4, h5, h6, _⟩ := he B w E a.eval h.ev h.wr
    unfold Oper.wp
    rw [h1]
    have fin := h.put h3 h4 h5 (dst := o.dst) (by rw [← hnt]; exact hd) h6
    rcases h2 with rfl | ⟨rfl, rfl⟩
    · exact ⟨_, _, _, hK, fin⟩
    · exact ⟨_, _, _, hK, fin⟩
  unfold vop at hk
  split at hk
  · next hd =>
    split at hk
    · next t x y ho =>
      obtain ⟨H', h1, h2⟩ := sStore2_eff hT ho hk
      exact eff h1 hd h2
    · next t m i x ho =>
      obtain ⟨H', h1, h2⟩ := sMapU_eff hT ho hk
      exact eff h1 hd h2
    · next m t ho =>
      obtain ⟨H', h1, h2⟩ := sClear_eff hT ho hk
      exact eff h1 hd h2
    · next s x t t' ho =>
      obtain ⟨H', d, h1, h2⟩ := sCopy_eff hT ho hk
      exact eff h1 hd h2
    · next s x t t' ho =>
      split at hk
      · next e =>
        subst e
        obtain ⟨H', d, h1, h2⟩ := sAppend_eff hT ho hk
        exact eff h1 hd h2
      · cases hk
    · next f args ats ho =>
      split at hk
      · next n first cap hf =>
        split at hk
        case isFalse => cases hk
        next hchk =>
        simp only [Bool.and_eq_true, decide_eq_true_eq] at hchk
        obtain ⟨hh, hrun⟩ := hk
        have hfv := h.ev f
        rw [hf] at hfv
        generalize hv : a.eval f = vf at hfv
        cases hfv with | @fn _ _ _ _ a0 a1 hs0 hs1 h0 h1 =>
        have hex : (execOp a.eval o).run P w = .ok (.enter n (a0 ++ args.map a.eval ++ a1)) w := by
          unfold execOp
          rw [ho]
          simp only [resolve, hv, Deferred.ofValue, Sem.run_bind, Sem.run_pure, Result.andThen_ok, invoke]
          exact callFunc_here hh _ _
        unfold Oper.wp
        rw [hex]
        let B2 : Base := ⟨B.w0, B.G0, B.nt, H.length, fun w E => B.Φ w E ∧ ∀ t, DRep w E (fr.get t) (a.tmps.getD t undef), fun w E w' E' h1 h2 h3 => ⟨B.stab _ _ _ _ h1 h2 h3.1, fun t => (h3.2 t).move h1 h2⟩, fun w E n hn h3 => ⟨B.cut _ _ _ (by omega) h3.1, fun t => DRep.trunc 8 (D.undr_mono 8 hn (Fr.get_undr hchk.2 t)) (h3.2 t)⟩, B.df, fun w E h => B.gl w E h.1⟩
        have hw2 : WRel B2 H E w := ⟨h.wr.inj, h.wr.own, h.wr.wf, h.wr.heap, h.wr.out, h.wr.good, h.wr.g0, h.wr.gn, h.wr.bel, h.wr.phi, h.fr⟩
        refine (hrun B2 w E _ (Nat.le_refl _) ⟨by simp [hs0, hs1], fun i d v hd1 hv1 => ?_⟩ hw2).mono ?_
        · simp only [List.getElem?_append, Array.getElem?_append, List.length_append, List.length_map, Array.length_toList, Array.size_append, Array.size_map, hs0] at hd1 hv1
          split at hd1
          · next q1 =>
            rw [if_pos (by omega)] at hv1
            split at hd1
            · next q2 =>
              rw [if_pos (by omega)] at hv1
              exact h0 i d v hd1 hv1
            · next q2 =>
              rw [if_neg (by omega)] at hv1
              simp only [List.getElem?_map, Option.map_eq_some_iff, Array.getElem?_toList, Array.getElem?_map] at hd1 hv1
              obtain ⟨x, hx, rfl⟩ := hd1
              obtain ⟨y, hy, rfl⟩ := hv1
              rw [hx] at hy
              cases hy
              exact h.ev x
          · next q1 =>
            rw [if_neg (by omega)] at hv1
            exact h1 _ d v hd1 hv1
        · rintro e w' ⟨v, E', d, H', rfl, q1, q4, q5⟩
          have q1' : WRel B H' E' w' := ⟨q1.inj, q1.own, q1.wf, q1.heap, q1.out, q1.good, q1.g0, q1.gn, q1.bel, q1.phi.1⟩
          have hr2 : Rel B ⟨fr, H'⟩ E' a w' := ⟨h.sz, h.df, q1.phi.2, q1'⟩
          exact ⟨_, _, _, q5, hr2.put q1' (Env.le.refl _ _) (Env.own.refl _) (dst := o.dst) (by rw [← hnt]; exact hd) q4⟩
      · cases hk
    · next r m args ats ho =>
      split at hk
      · next t dd hf =>
        split at hk
        case isFalse => cases hk
        next hchk =>
        simp only [Bool.and_eq_true, decide_eq_true_eq] at hchk
        have hfv := h.ev r
        rw [hf] at hfv
        generalize hv : a.eval r = vf at hfv
        cases hfv with | @ifc _ _ _ v0 hr0 =>
        let B2 : Base := ⟨B.w0, B.G0, B.nt, H.length, fun w E => B.Φ w E ∧ ∀ t, DRep w E (fr.get t) (a.tmps.getD t undef), fun w E w' E' h1 h2 h3 => ⟨B.stab _ _ _ _ h1 h2 h3.1, fun t => (h3.2 t).move h1 h2⟩, fun w E n hn h3 => ⟨B.cut _ _ _ (by omega) h3.1, fun t => DRep.trunc 8 (D.undr_mono 8 hn (Fr.get_undr hchk.2 t)) (h3.2 t)⟩, B.df, fun w E h => B.gl w E h.1⟩
        have hw2 : WRel B2 H E w := ⟨h.wr.inj, h.wr.own, h.wr.wf, h.wr.heap, h.wr.out, h.wr.good, h.wr.g0, h.wr.gn, h.wr.bel, h.wr.phi, h.fr⟩
        have hlr : LRep w E (args.toList.map fr.ev) (args.map a.eval) := by
          refine ⟨by rw [List.length_map, Array.size_map]; exact Array.length_toList, fun i d v hd1 hv1 => ?_⟩
          simp only [List.getElem?_map, Option.map_eq_some_iff, Array.getElem?_toList, Array.getElem?_map] at hd1 hv1
          obtain ⟨x, hx, rfl⟩ := hd1
          obtain ⟨y, hy, rfl⟩ := hv1
          rw [hx] at hy
          cases hy
          exact h.ev x
        obtain ⟨f, u, hmeth, hh, hcall⟩ := hk.run B2 w E v0 (args.map a.eval) (Nat.le_refl _) hr0 hlr hw2
        have hex : (execOp a.eval o).run P w = .ok (.enter f (#[u] ++ args.map a.eval)) w := by
          obtain ⟨e1, e2⟩ := inv_args (.iface t v0) (args.map a.eval)
          have e3 : (program).run P w = .ok P w := rfl
          unfold execOp
          rw [ho]
          simp only [resolve, hv, Sem.run_bind, Sem.run_pure, Result.andThen_ok, invoke, e1, e2, callMethod, e3, hmeth]
          exact callFunc_here hh _ _
        unfold Oper.wp
        rw [hex]
        refine hcall.mono ?_
        rintro e w' ⟨v, E', d, H', rfl, q1, q4, q5⟩
        have q1' : WRel B H' E' w' := ⟨q1.inj, q1.own, q1.wf, q1.heap, q1.out, q1.good, q1.g0, q1.gn, q1.bel, q1.phi.1⟩
        have hr2 : Rel B ⟨fr, H'⟩ E' a w' := ⟨h.sz, h.df, q1.phi.2, q1'⟩
        exact ⟨_, _, _, q5, hr2.put q1' (Env.le.refl _ _) (Env.own.refl _) (dst := o.dst) (by rw [← hnt]; exact hd) q4⟩
      · cases hk
    · obtain ⟨d, nw, h1, h2⟩ := QR.effX _ (qopB_good hT own) hk
      exact h1.toE h.ev h.wr fun v w' E' q1 q2 q3 q4 => ⟨_, _, _, h2, h.put q1 q2 q3 (dst := o.dst) (by rw [← hnt]; exact hd) q4⟩
  · cases hk
theorem yielded_get {ops : Array Oper} {j t : Nat} {a : Act} (hj : (ops[j]?).bind (·.dst) = some t) (ht : t < a.tmps.size) : yielded ops a.tmps j = match a.tmps.getD t undef with | .bool b => some b | _ => none := by
  unfold yielded
  rw [hj]
  simp only [Option.bind_some]
  rw [Array.getElem?_eq_getElem ht]
  have : a.tmps.getD t undef = a.tmps[t] := by simp [ht]
  rw [this]
  cases a.tmps[t] <;> rfl
theorem vopsH_sound (hT : cx.T.ok P) (hnt : cx.nt = B.nt) (hh0 : B.h0 ≤ cx.h0) {ops : Array Oper} {o : Oper} {os : List Oper} {fr : Fr} {H : List Bk} {Kn : Fr → List Bk → Prop} (hk : vopsH P cx ops o fr H Kn) {E : Env} {a : Act} {w : World} (h : Rel B ⟨fr, H⟩ E a w) {Q : Exit → Act → World → Prop}
    (hn : ∀ fr' H' E' a' w', Kn fr' H' → Rel B ⟨fr', H'⟩ E' a' w' → wpList P ops Q os a' w') : wpList P ops Q (o :: os) a w := by
  have run : ∀ {fr : Fr}, Rel B ⟨fr, H⟩ E a w → (part2 fr o fun fr => vop P cx (baseB ops o) o fr H Kn) → o.wp P a w (wpList P ops Q os) Q := fun hr hp => by
    obtain ⟨fr', h1, h2⟩ := part2_sound hr hp
    exact Oper.wp_mono (fun a' w' ⟨fr2, H2, E2, q1, q2⟩ => hn _ _ _ _ _ q1 q2) (vop_sound hT hnt hh0 h1 h2 (Q := Q))
  have skip : ∀ {fr : Fr}, Rel B ⟨fr, H⟩ E a w → dstB cx.nt o.dst = true → Kn (fr.put o.dst (.tup [])) H → wpList P ops Q os (a.put o.dst undef) w := fun hr hd hp =>
    hn _ _ _ _ _ hp (hr.put hr.wr (Env.le.refl _ _) (Env.own.refl _) (by rw [← hnt]; exact hd) (DRep.tup rfl fun i d v h => by simp at h))
  unfold vopsH at hk
  unfold wpList
  split at hk
  · next hg =>
    rw [if_pos (by unfold Region.wanted; rw [hg])]
    exact .inl (run h hk)
  · next j b hg =>
    split at hk
    · next t hj =>
      split at hk
      · next hc =>
        simp only [Bool.and_eq_true, decide_eq_true_eq] at hc
        obtain ⟨fr', hk2, hr⟩ := part1_sound h hk
        have hlt : t < a.tmps.size := by rw [h.sz, ← hnt]; exact hc.1
        have hy := yielded_get hj hlt
        have hrep := hr.fr t
        have hw : Region.wanted o (yielded ops a.tmps) = (yielded ops a.tmps j == some b) := by unfold Region.wanted; rw [hg]
        split at hk2
        · next c hlit =>
          simp only [hlit] at hrep
          generalize a.tmps.getD t undef = v at hrep hy
          cases hrep
          simp only [BE.den] at hy
          split at hk2
          · next e =>
            subst e
            rw [if_pos (by rw [hw, hy]; simp)]
            exact .inl (run hr hk2)
          · next e =>
            rw [if_neg (by rw [hw, hy]; simpa using e)]
            exact skip hr hc.2 hk2
        · next htup =>
          simp only [htup] at hrep
          generalize a.tmps.getD t undef = v at hrep hy
          cases hrep
          simp only at hy
          rw [if_neg (by rw [hw, hy]; simp)]
          exact skip hr hc.2 hk2
        · cases hk2
      · cases hk
    · cases hk
theorem vops_sound (hT : cx.T.ok P) (hnt : cx.nt = B.nt) (hh0 : B.h0 ≤ cx.h0) {ops : Array Oper} : ∀ (os : List Oper) {fr : Fr} {H : List Bk} {K : Fr → List Bk → Prop} (_ : vops P cx ops os fr H K) {E : Env} {a : Act} {w : World} (_ : Rel B ⟨fr, H⟩ E a w) {Q : Exit → Act → World → Prop}
    (_ : ∀ fr' H' E' a' w', K fr' H' → Rel B ⟨fr', H'⟩ E' a' w' → Q .normal a' w'), wpList P ops Q os a w
  | [], fr, H, K, hk, E, a, w, h, Q, hQ => hQ _ _ _ _ _ hk h
  | o :: os, fr, H, K, hk, E, a, w, h, Q, hQ => by
    unfold vops at hk
    split at hk
    · exact hk.run B E a w hnt hh0 h Q hQ
    · split at hk
      · exact hk.run B E a w hnt hh0 h Q hQ
      · exact vopsH_sound hT hnt hh0 hk h fun fr' H' E' a' w' q1 q2 => vops_sound hT hnt hh0 os q1 q2 hQ
theorem OpsP.go (hT : cx.T.ok P) {ops : Array Oper} {o : Oper} {os : List Oper} {fr : Fr} {H : List Bk} {K : Fr → List Bk → Prop} (h : vopsH P cx ops o fr H fun fr H => vops P cx ops os fr H K) : OpsP P cx ops (o :: os) fr H K :=
  ⟨fun B E a w hnt hh0 hr Q hQ => vopsH_sound hT hnt hh0 h hr fun fr' H' E' a' w' q1 q2 => vops_sound hT hnt hh0 os q1 q2 hQ⟩
end
end Go.Proofs.Ytdhfakajlnidiaa
