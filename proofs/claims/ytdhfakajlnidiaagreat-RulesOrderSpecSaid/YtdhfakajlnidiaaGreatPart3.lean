/- Part 3 of the walks and laws that these claims rest on. No condition. -/
import Derived.Test.YtdhfakajlnidiaaGreatPart2
set_option linter.all false
set_option linter.unusedSimpArgs false
set_option linter.unusedVariables false
set_option linter.unnecessarySimpa false
namespace Go.Proofs.YtdhfakajlnidiaaGreat
open Go.RowKit

/-! The operations one by one: what lays new blocks; literals. -/
def D.dataB : Nat → D → Bool
  | 0, _ => false
  | n + 1, d => match d with
    | .agg l | .tup l => l.all (D.dataB n)
    | .ptr .. | .rp .. | .osl .. | .mapr _ | .ap .. => false
    | .fn _ a b => a.all (D.dataB n) && b.all (D.dataB n)
    | .ifc _ e => D.dataB n e
    | _ => true
theorem D.dataB_rep {w : World} {E E' : Env} (hG : E'.G = E.G) : ∀ (n : Nat) {d : D} {v : Value}, d.dataB n = true → DRep w E d v → DRep w E' d v
  | 0, _, _, h, _ => by cases h
  | n + 1, d, v, h, hr => by
    have ed : E'.data = E.data := by unfold Env.data; rw [hG]
    cases hr with
    | junk => exact .junk
    | int h' => exact .int h'
    | bool => exact .bool
    | str h' => exact .str h'
    | agg hs hh =>
      simp only [D.dataB, List.all_eq_true] at h
      exact .agg hs fun i d v h1 h2 => D.dataB_rep hG n (h d (List.mem_of_getElem? h1)) (hh i d v h1 h2)
    | tup hs hh =>
      simp only [D.dataB, List.all_eq_true] at h
      exact .tup hs fun i d v h1 h2 => D.dataB_rep hG n (h d (List.mem_of_getElem? h1)) (hh i d v h1 h2)
    | nils => exact .nils
    | slm u hnb hc hm hx ha hh => exact .slm u hnb hc hm hx (by rw [hG]; exact ha) (by rw [ed]; exact hh)
    | sll u hc hm hx ha hh => exact .sll u hc hm hx (by rw [hG]; exact ha) (by rw [ed]; exact hh)
    | dp u hg hu hh => exact .dp u (by rw [hG]; exact hg) hu (by rw [ed]; exact hh)
    | ptr => cases h
    | ptrs => cases h
    | rp => cases h
    | rps => cases h
    | nilp => exact .nilp
    | oslc => cases h
    | osln => cases h
    | osls => cases h
    | mapr => cases h
    | maps => cases h
    | nilm => exact .nilm
    | fn hs0 hs1 h0 h1 =>
      simp only [D.dataB, Bool.and_eq_true, List.all_eq_true] at h
      exact .fn hs0 hs1 (fun i d v h2 h3 => D.dataB_rep hG n (h.1 d (List.mem_of_getElem? h2)) (h0 i d v h2 h3)) (fun i d v h2 h3 => D.dataB_rep hG n (h.2 d (List.mem_of_getElem? h2)) (h1 i d v h2 h3))
    | nilf => exact .nilf
    | nilI => exact .nilI
    | arr hs hh => exact .arr hs hh
    | dpa hg hh => exact .dpa (by rw [hG]; exact hg) hh
    | mapd hg hb hn hm hv hh ha hc => exact .mapd (by rw [hG]; exact hg) hb hn hm hv hh ha hc
    | ap => cases h
    | aps => cases h
    | mg hg hb hn hm hk hh ha hc hv => exact .mg (by rw [hG]; exact hg) hb hn hm hk hh ha hc (by rw [ed]; exact hv)
    | ifc hh => simp only [D.dataB] at h; exact .ifc (D.dataB_rep hG n h hh)
    | svl => exact .svl
def fillD (place : Nat → Option (Nat × Nat)) (cells : List D) : List (Nat × D) → Option (List D)
  | [] => some cells
  | (i, d) :: rest => match place i, d.cells with
    | some (off, size), some l => if l.length = size ∧ off + size ≤ cells.length then fillD place (over cells off l) rest else none
    | _, _ => none
/-- cells that stand for symbolic cells -/
def CRep (w : World) (E : Env) (l : List D) (cs : Array Value) : Prop := cs.size = l.length ∧ ∀ (i : Nat) d, l[i]? = some d → ∃ v, cs[i]? = some v ∧ DRep w E d v
theorem foldl_set (vs : List Value) : ∀ (off k : Nat) (cs : Array Value), (vs.zipIdx k).foldl (fun cs (c, j) => cs.setIfInBounds (off + j) c) cs = (vs.zipIdx (off + k)).foldl (fun cs (c, j) => cs.setIfInBounds j c) cs := by
  induction vs with
  | nil => intros; rfl
  | cons v vs ih => intro off k cs; simp only [List.zipIdx_cons, List.foldl_cons]; rw [ih off (k + 1)]; rfl
theorem foldl_set_get (vs : List Value) : ∀ (k : Nat) (cs : Array Value) (i : Nat), ((vs.zipIdx k).foldl (fun cs (c, j) => cs.setIfInBounds j c) cs).size = cs.size ∧
    (i < cs.size → ((vs.zipIdx k).foldl (fun cs (c, j) => cs.setIfInBounds j c) cs)[i]? = if k ≤ i ∧ i < k + vs.length then vs[i - k]? else cs[i]?) := by
  induction vs with
  | nil => intro k cs i; refine ⟨rfl, fun _ => ?_⟩; simp; omega
  | cons v vs ih =>
    intro k cs i
    simp only [List.zipIdx_cons, List.foldl_cons]
    obtain ⟨h1, h2⟩ := ih (k + 1) (cs.setIfInBounds k v) i
    refine ⟨by rw [h1]; simp, fun hi => ?_⟩
    rw [h2 (by simpa using hi)]
    by_cases e : i = k
    · subst e
      rw [if_neg (by omega), if_pos (by simp)]
      simp [hi]
    · by_cases h3 : k + 1 ≤ i ∧ i < k + 1 + vs.length
      · rw [if_pos h3, if_pos (by simp; omega)]
        rw [show i - k = (i - (k + 1)) + 1 by omega, List.getElem?_cons_succ]
      · rw [if_neg h3, if_neg (by simp; omega)]
        rw [Array.getElem?_setIfInBounds_ne (by omega)]
theorem CRep.over {w : World} {E : Env} {l m : List D} {cs : Array Value} {v : Value} (h : CRep w E l cs) (off : Nat) (hm : v.cells.size = m.length) (hv : ∀ (i : Nat) e, m[i]? = some e → ∃ u, v.cells[i]? = some u ∧ DRep w E e u) (hle : off + m.length ≤ l.length) :
    CRep w E (over l off m) (v.cells.zipIdx.foldl (fun cs (c, j) => cs.setIfInBounds (off + j) c) cs) := by
  have e1 : v.cells.zipIdx.foldl (fun cs (c, j) => cs.setIfInBounds (off + j) c) cs = (v.cells.toList.zipIdx off).foldl (fun cs (c, j) => cs.setIfInBounds j c) cs := by
    rw [← Array.foldl_toList, Array.toList_zipIdx, foldl_set, Nat.add_zero]
  rw [e1]
  have hl : (Go.Proofs.YtdhfakajlnidiaaGreat.over l off m).length = l.length := by simp [Go.Proofs.YtdhfakajlnidiaaGreat.over]; omega
  refine ⟨by rw [(foldl_set_get _ _ _ 0).1, h.1, hl], fun i d hd => ?_⟩
  have hi : i < l.length := by rw [← hl]; exact (List.getElem?_eq_some_iff.1 hd).1
  rw [(foldl_set_get _ _ _ i).2 (by rw [h.1]; exact hi)]
  simp only [Array.length_toList, hm]
  unfold Go.Proofs.YtdhfakajlnidiaaGreat.over at hd
  rw [List.append_assoc] at hd
  by_cases h1 : i < off
  · rw [if_neg (by omega)]
    rw [List.getElem?_append_left (by simp; omega), List.getElem?_take, if_pos h1] at hd
    exact h.2 i d hd
  · rw [List.getElem?_append_right (by simp; omega)] at hd
    have e2 : i - (List.take off l).length = i - off := by simp; omega
    rw [e2] at hd
    by_cases h2 : i < off + m.length
    · rw [if_pos ⟨by omega, h2⟩]
      rw [List.getElem?_append_left (by omega)] at hd
      obtain ⟨u, h3, h4⟩ := hv (i - off) d hd
      exact ⟨u, by rw [Array.getElem?_toList]; exact h3, h4⟩
    · rw [if_neg (by omega)]
      rw [List.getElem?_append_right (by omega), List.getElem?_drop] at hd
      rw [show off + m.length + (i - off - m.length) = i by omega] at hd
      exact h.2 i d hd
theorem fill_rep {w : World} {E : Env} {place : Nat → Option (Nat × Nat)} : ∀ (ps : List (Nat × D)) (qs : List (Nat × Value)) (l r : List D) (cs : Array Value), ps.length = qs.length → (∀ (i : Nat) p q, ps[i]? = some p → qs[i]? = some q → p.1 = q.1 ∧ DRep w E p.2 q.2) →
    CRep w E l cs → fillD place l ps = some r → ∃ rs, Instr.fill place cs qs = some rs ∧ CRep w E r rs
  | [], [], l, r, cs, _, _, hc, hr => by
    simp only [fillD, Option.some.injEq] at hr
    subst hr
    exact ⟨cs, rfl, hc⟩
  | [], q :: qs, _, _, _, hl, _, _, _ => by simp at hl
  | p :: ps, [], _, _, _, hl, _, _, _ => by simp at hl
  | (i, d) :: ps, (j, v) :: qs, l, r, cs, hl, hh, hc, hr => by
    obtain ⟨e, hd⟩ := hh 0 _ _ rfl rfl
    simp only at e hd
    subst e
    unfold fillD at hr
    split at hr
    · next off size m h1 h2 =>
      split at hr
      · next h3 =>
        obtain ⟨h4, h5⟩ := hd.cells h2
        have hc' := hc.over off h4 h5 (by omega)
        obtain ⟨rs, h6, h7⟩ := fill_rep ps qs _ r _ (by simpa using hl) (fun i p q hp hq => hh (i + 1) p q (by simpa using hp) (by simpa using hq)) hc' hr
        refine ⟨rs, ?_, h7⟩
        unfold Instr.fill
        simp only [h1]
        rw [if_neg (by rw [h4, hc.1]; simp; omega)]
        exact h6
      · cases hr
    · cases hr
def qAlloc (T : Tab) (t : Nat) : QR := match T.get t with
  | some ti => (match (D.ofV ti.zero).cells with | some l => .newc l | none => .stuck)
  | none => .stuck
def qBox (x : D) : QR := match x.cells with | some l => .newc l | none => .stuck
def fieldP (fs : List (Nat × Nat × Bool)) (i : Nat) : Option (Nat × Nat) := match fs[i]? with | some (o, s, _) => some (o, s) | none => none
def qBuild (T : Tab) (t : Nat) (ps : List (Nat × D)) : QR := match T.get t with
  | some ⟨.struct fs, _, _, z⟩ => (match (D.ofV z).cells with
    | some l => (match fillD (fieldP fs) l ps with | some r => .ret (.agg r) | none => .stuck)
    | none => .stuck)
  | some ⟨.arr _ e, _, _, z⟩ => (match (D.ofV z).cells, T.get e with
    | some l, some te => (match fillD (fun i => some (i * te.size, te.size)) l ps with | some r => .ret (.agg r) | none => .stuck)
    | _, _ => .stuck)
  | _ => .stuck
def chunk (n : Nat) (l : List D) (len : Nat) : List (List D) := (List.range len).map fun i => (l.drop (i * n)).take n
def qEmpty (T : Tab) (t : Nat) : QR := match T.get t with
  | some ⟨.slice e, _, _, _⟩ => (match T.get e with
    | some te => if 0 < te.size then .newr e te.size (.lits []) (.lit 0) else .stuck
    | none => .stuck)
  | _ => .stuck
def RE.mkRep (a : IE) (z : List D) : RE := match a with
  | .lit k => .lits (List.replicate k.toNat z)
  | a => .rep a z
theorem RE.mkRep_den (a : IE) (z : List D) : (RE.mkRep a z).den = List.replicate a.den.toNat z := by
  unfold RE.mkRep
  split <;> rfl
def mkLit (a b : IE) (by_ : Nat) : Bool := match a, b with
  | .lit x, .lit y => decide (0 ≤ x) && decide (x ≤ y) && decide (y ≤ 9223372036854775807) && decide ((by_ : Int) * y ≤ 281474976710656)
  | _, _ => false
theorem mkLit_spec {a b : IE} {by_ : Nat} (h : mkLit a b by_ = true) : 0 ≤ a.den ∧ a.den ≤ b.den ∧ b.den ≤ 9223372036854775807 ∧ (by_ : Int) * b.den ≤ 281474976710656 := by
  unfold mkLit at h
  split at h
  · simpa [IE.den, and_assoc] using h
  · cases h
def qMake (T : Tab) (t : Nat) (x y : D) : QR := match T.get t with
  | some ⟨.slice e, _, _, _⟩ => (match T.get e with
    | some te => (match (D.ofV te.zero).cells, x, y with
      | some z, .int _ a, .int _ b => if z.length = te.size ∧ 0 < te.size ∧ z.all (D.dataB 5) then .reqQ (mkLit a b te.bytes) (fun _ => 0 ≤ a.den ∧ a.den ≤ b.den ∧ b.den ≤ 9223372036854775807 ∧ (te.bytes : Int) * b.den ≤ 281474976710656) (.newr e te.size (RE.mkRep a z) a) else .stuck
      | _, _, _ => .stuck)
    | none => .stuck)
  | _ => .stuck
def qBuildSlice (T : Tab) (t len : Nat) (ps : List (Nat × D)) : QR := match T.get t with
  | some ⟨.slice e, _, _, _⟩ => (match T.get e with
    | some te => (match (D.ofV te.zero).cells with
      | some z => if z.length = te.size ∧ len * te.size ≤ 16777216 ∧ 0 < te.size then (match fillD (fun i => some (i * te.size, te.size)) ((List.replicate len z).flatten) ps with
        | some r => if r.all (D.dataB 5) then .newd e te.size (chunk te.size r len) else .stuck
        | none => .stuck) else .stuck
      | none => .stuck)
    | none => .stuck)
  | _ => .stuck
def int0 (k : IntKind) : Value → Bool
  | .int k' n => decide (k' = k) && decide (n = 0)
  | _ => false
def qAlloc2 (T : Tab) (t : Nat) : QR := match T.get t with
  | some ⟨.arr m e, s, _, .agg cs⟩ => (match T.get e with
    | some ⟨.int k, 1, _, _⟩ => if k = .u8 then qAlloc T t else if decide (s = m) && decide (cs.size = m) && cs.toList.all (int0 k) then .newa k m (fun _ => 0) else .stuck
    | _ => qAlloc T t)
  | _ => qAlloc T t
def qBox2 (x : D) : QR := match x with
  | .arr k m f => .newa k m f
  | x => qBox x
section
variable {P : Program} {T : Tab} {H : List Bk} {ρ : Operand → D} {o : Oper}
theorem qAlloc_good (hT : T.ok P) {t : Nat} (ho : o.op = .alloc t) : (qAlloc T t).good P H ρ o := by
  have hx : ∀ ev : Operand → Value, execOp ev o = (do pure (.value (← Instr.alloc t true (.tuple #[])))) := fun ev => by unfold execOp; rw [ho]
  unfold qAlloc
  split
  · next ti ht =>
    split
    · next l hl =>
      intro w E ev hev hwf hH
      obtain ⟨i, d, g1, g2, g3, _, _, g6⟩ := TI.of_spec (Tab.get_ok hT ht)
      obtain ⟨h1, h2⟩ := (D.ofV_rep (w := w) (E := E) ti.zero).cells hl
      exact ⟨ti.zero.cells, t, by rw [hx]; simp [Instr.alloc, zeroValue, typeInfo, g1, g3, newVar, newRow], h1, h2⟩
    · trivial
  · trivial
theorem qBox_good {t : Nat} {x : Operand} (ho : o.op = .box t x) : (qBox (ρ x)).good P H ρ o := by
  have hx : ∀ ev : Operand → Value, execOp ev o = (do pure (.value (← Instr.box t (ev x)))) := fun ev => by unfold execOp; rw [ho]
  unfold qBox
  split
  · next l hl =>
    intro w E ev hev hwf hH
    obtain ⟨h1, h2⟩ := (hev x).cells hl
    exact ⟨(ev x).cells, t, by rw [hx]; simp [Instr.box, newVar, newRow], h1, h2⟩
  · trivial
theorem int0_spec {k : IntKind} {v : Value} (h : int0 k v = true) : v = .int k 0 := by
  unfold int0 at h
  split at h
  · simp only [Bool.and_eq_true, decide_eq_true_eq] at h
    rw [h.1, h.2]
  · cases h
theorem qAlloc2_good (hT : T.ok P) {t : Nat} (ho : o.op = .alloc t) : (qAlloc2 T t).good P H ρ o := by
  have h0 := qAlloc_good (H := H) (ρ := ρ) hT ho
  have hx : ∀ ev : Operand → Value, execOp ev o = (do pure (.value (← Instr.alloc t true (.tuple #[])))) := fun ev => by unfold execOp; rw [ho]
  unfold qAlloc2
  split
  · next m e s b cs ht =>
    split
    · next k b' z' he =>
      split
      · exact h0
      · split
        · next hc =>
          simp only [Bool.and_eq_true, decide_eq_true_eq, List.all_eq_true] at hc
          intro w E ev hev hwf hH
          obtain ⟨i, d, g1, g2, g3, _, _, g6⟩ := TI.of_spec (Tab.get_ok hT ht)
          refine ⟨cs, t, by rw [hx]; simp [Instr.alloc, zeroValue, typeInfo, g1, g3, newVar, newRow, Value.cells], hc.1.2, fun i hi => ?_⟩
          have hlt : i < cs.size := by omega
          refine ⟨?_, InR.zero k⟩
          rw [Array.getElem?_eq_getElem hlt, int0_spec (hc.2 cs[i] (by simp))]
        · trivial
    · exact h0
  · exact h0
theorem qBox2_good {t : Nat} {x : Operand} (ho : o.op = .box t x) : (qBox2 (ρ x)).good P H ρ o := by
  have h0 := qBox_good (P := P) (H := H) (ρ := ρ) ho
  have hx : ∀ ev : Operand → Value, execOp ev o = (do pure (.value (← Instr.box t (ev x)))) := fun ev => by unfold execOp; rw [ho]
  unfold qBox2
  split
  · next k m f hd =>
    intro w E ev hev hwf hH
    have hva := hev x
    rw [hd] at hva
    generalize hv : ev x = va at hva
    cases hva with | @arr _ _ _ _ vs hs h =>
    exact ⟨vs, t, by rw [hx, hv]; simp [Instr.box, newVar, newRow, Value.cells], hs, h⟩
  · exact h0
def evParts (ps : Array (Nat × Operand)) (ρ : Operand → D) : List (Nat × D) := ps.toList.map fun p => (p.1, ρ p.2)
theorem parts_rep {w : World} {E : Env} {ev : Operand → Value} (hev : ∀ x, DRep w E (ρ x) (ev x)) (ps : Array (Nat × Operand)) : (evParts ps ρ).length = ((ps.map fun (i, x) => (i, ev x)).toList).length ∧
    ∀ (i : Nat) p q, (evParts ps ρ)[i]? = some p → (ps.map fun (i, x) => (i, ev x)).toList[i]? = some q → p.1 = q.1 ∧ DRep w E p.2 q.2 := by
  refine ⟨by simp [evParts], fun i p q hp hq => ?_⟩
  simp only [evParts, List.getElem?_map, Option.map_eq_some_iff, Array.getElem?_toList, Array.getElem?_map] at hp hq
  obtain ⟨a, ha, rfl⟩ := hp
  obtain ⟨b, hb, rfl⟩ := hq
  rw [ha] at hb
  cases hb
  exact ⟨rfl, hev _⟩
theorem qBuild_good (hT : T.ok P) {t : Nat} {ps : Array (Nat × Operand)} (ho : o.op = .build t ps) : (qBuild T t (evParts ps ρ)).good P H ρ o := by
  have hx : ∀ ev : Operand → Value, execOp ev o = (do pure (.value (← Instr.build t (ps.map fun (i, x) => (i, ev x))))) := fun ev => by unfold execOp; rw [ho]
  unfold qBuild
  split
  · next fs s b z ht =>
    split
    · next l hl =>
      split
      · next r hr =>
        intro w E ev hev hwf hH
        obtain ⟨i, d, g1, g2, g3, _, _, g6⟩ := TI.of_spec (Tab.get_ok hT ht)
        have hz := (D.ofV_rep (w := w) (E := E) z).cells hl
        obtain ⟨hp1, hp2⟩ := parts_rep hev ps
        cases d with
        | struct fds =>
          have hfd := TI.of_fields (Tab.get_ok hT ht) g2
          simp only [TK.of, TK.struct.injEq] at g6
          have hpl : (fds.mapM fun f => (do pure (f.offset, ← sizeOf f.type) : Sem (Nat × Nat))).run P w = .ok (fds.map fun f => (f.offset, P.cellsOf f.type)) w := by
            have hall : ∀ f ∈ fds.toList, (sizeOf f.type).run P w = .ok (P.cellsOf f.type) w := fun f hf => by
              obtain ⟨dd, hdd⟩ := Option.isSome_iff_exists.1 (hfd f (by simpa using hf))
              have hi : ∃ i, P.info? f.type = some i := by
                unfold Program.underlying at hdd
                cases hq : P.info? f.type with
                | none => rw [hq] at hdd; cases hdd
                | some i => exact ⟨i, rfl⟩
              obtain ⟨i, hi⟩ := hi
              simp [sizeOf, typeInfo, hi, Program.cellsOf]
            have hlist : ∀ l : List Field, (∀ f ∈ l, (sizeOf f.type).run P w = .ok (P.cellsOf f.type) w) → (l.mapM fun f => (do pure (f.offset, ← sizeOf f.type) : Sem (Nat × Nat))).run P w = .ok (l.map fun f => (f.offset, P.cellsOf f.type)) w := by
              intro l
              induction l with
              | nil => intro _; simp
              | cons f l ih =>
                intro h
                have h1 := h f (by simp)
                have h2 := ih fun g hg => h g (by simp [hg])
                rw [List.mapM_cons]
                simp [h1] at h2 ⊢
                simp [h2]
            rw [Array.mapM_eq_mapM_toList]
            simp only [Sem.run_map, hlist _ hall, Result.andThen_ok]
            congr 1
            apply Array.ext'
            simp
          have hfill : ∀ i, (fds.map fun f => (f.offset, P.cellsOf f.type))[i]? = fieldP fs i := fun i => by
            unfold fieldP
            rw [g6]
            simp only [Array.getElem?_map, List.getElem?_map, Array.getElem?_toList]
            cases fds[i]? <;> rfl
          obtain ⟨rs, h1, h2⟩ := fill_rep _ _ l r z.cells hp1 hp2 hz hr
          refine ⟨.agg rs, ?_, .agg h2.1.symm fun i d v hd hv => ?_⟩
          · rw [hx]
            have e1 : Instr.fill ((fds.map fun f => (f.offset, P.cellsOf f.type))[·]?) z.cells (ps.map fun (i, x) => (i, ev x)).toList = some rs := by
              rw [show ((fds.map fun f => (f.offset, P.cellsOf f.type))[·]?) = fieldP fs from funext hfill]
              exact h1
            simp only [Instr.build, Sem.run_bind, zeroValue, typeInfo, run_program, Result.andThen_ok, g1, g3, run_underlying g2, hpl, Sem.run_pure, e1]
          · obtain ⟨u, h3, h4⟩ := h2.2 i d hd
            rw [h3] at hv
            cases hv
            exact h4
        | _ => simp [TK.of] at g6
      · trivial
    · trivial
  · next n e s b z ht =>
    split
    · next l te hl hte =>
      split
      · next r hr =>
        intro w E ev hev hwf hH
        obtain ⟨i, d, g1, g2, g3, _, _, g6⟩ := TI.of_spec (Tab.get_ok hT ht)
        obtain ⟨i', d', f1, f2, f3, f4, _, f6⟩ := TI.of_spec (Tab.get_ok hT hte)
        have hz := (D.ofV_rep (w := w) (E := E) z).cells hl
        obtain ⟨hp1, hp2⟩ := parts_rep hev ps
        cases d with
        | array n2 e2 =>
          simp only [TK.of, TK.arr.injEq] at g6
          obtain ⟨rfl, rfl⟩ := g6
          obtain ⟨rs, h1, h2⟩ := fill_rep _ _ l r z.cells hp1 hp2 hz hr
          refine ⟨.agg rs, ?_, .agg h2.1.symm fun i d v hd hv => ?_⟩
          · rw [hx]
            simp only [Instr.build, Sem.run_bind, zeroValue, typeInfo, run_program, Result.andThen_ok, g1, g3, run_underlying g2, sizeOf, f1, f4, Sem.run_pure, h1]
          · obtain ⟨u, h3, h4⟩ := h2.2 i d hd
            rw [h3] at hv
            cases hv
            exact h4
        | _ => simp [TK.of] at g6
      · trivial
    · trivial
  · trivial
theorem flat_get (z : List D) (hz : 0 < z.length) : ∀ (len i : Nat) d, ((List.replicate len z).flatten)[i]? = some d → i < len * z.length ∧ z[i % z.length]? = some d
  | 0, i, d, h => by simp at h
  | len + 1, i, d, h => by
    rw [List.replicate_succ, List.flatten_cons] at h
    by_cases hi : i < z.length
    · rw [List.getElem?_append_left hi] at h
      rw [Nat.mod_eq_of_lt hi]
      exact ⟨by rw [Nat.add_mul]; omega, h⟩
    · rw [List.getElem?_append_right (by omega)] at h
      obtain ⟨h1, h2⟩ := flat_get z hz len _ d h
      refine ⟨by rw [Nat.add_mul]; omega, ?_⟩
      rw [Nat.mod_eq_sub_mod (by omega)]
      exact h2
theorem flat_len (z : List D) (len : Nat) : ((List.replicate len z).flatten).length = len * z.length := by
  induction len with
  | zero => simp
  | succ n ih => rw [List.replicate_succ, List.flatten_cons, List.length_append, ih, Nat.add_mul]; omega
theorem qBuildSlice_good (hT : T.ok P) {t len : Nat} {ps : Array (Nat × Operand)} (ho : o.op = .buildSlice t len ps) : (qBuildSlice T t len (evParts ps ρ)).good P H ρ o := by
  have hx : ∀ ev : Operand → Value, execOp ev o = (do pure (.value (← Instr.buildSlice t len (ps.map fun (i, x) => (i, ev x))))) := fun ev => by unfold execOp; rw [ho]
  unfold qBuildSlice
  split
  · next e s b z ht =>
    split
    · next te hte =>
      split
      · next zl hzl =>
        split
        · next hc =>
          obtain ⟨hzn, hbig, hpos⟩ := hc
          split
          · next r hr =>
            split
            · next hdata =>
              intro w E ev hev hwf hH
              obtain ⟨i, d, g1, g2, g3, _, _, g6⟩ := TI.of_spec (Tab.get_ok hT ht)
              obtain ⟨i', d', f1, f2, f3, f4, _, f6⟩ := TI.of_spec (Tab.get_ok hT hte)
              obtain ⟨hz1, hz2⟩ := (D.ofV_rep (w := w) (E := E) te.zero).cells hzl
              obtain ⟨hp1, hp2⟩ := parts_rep hev ps
              cases d with
              | slice e2 =>
                simp only [TK.of, TK.slice.injEq] at g6
                subst g6
                have hzero : CRep w E ((List.replicate len zl).flatten) ((Array.range (len * te.size)).map (te.zero.cells[· % te.zero.cells.size]!)) := by
                  refine ⟨by simp [hzn], fun i d hd => ?_⟩
                  obtain ⟨h1, h2⟩ := flat_get zl (by omega) len i d hd
                  obtain ⟨u, h3, h4⟩ := hz2 _ d h2
                  refine ⟨u, ?_, h4⟩
                  rw [hzn] at h1
                  have h5 : te.zero.cells[i % te.zero.cells.size]? = some u := by rw [hz1]; exact h3
                  simp [h1, h5, Array.getElem!_eq_getD]
                obtain ⟨rs, h1, h2⟩ := fill_rep _ _ _ r _ hp1 hp2 hzero hr
                have hrl : r.length = len * te.size := by
                  have := h2.1
                  have fl : ∀ (ps : List (Nat × D)) (l r : List D) {pl : Nat → Option (Nat × Nat)}, fillD pl l ps = some r → r.length = l.length := by
                    intro ps
                    induction ps with
                    | nil => intro l r pl h; simp only [fillD, Option.some.injEq] at h; rw [h]
                    | cons p ps ih =>
                      intro l r pl h
                      obtain ⟨i, d⟩ := p
                      unfold fillD at h
                      split at h
                      · split at h
                        · next hq => rw [ih _ _ h]; simp [over]; omega
                        · cases h
                      · cases h
                  rw [fl _ _ _ hr, flat_len, hzn]
                refine ⟨rs, ?_, ?_, ?_, fun k x hk => ?_⟩
                · rw [hx]
                  have hl : (chunk te.size r len).length = len := by simp [chunk]
                  rw [hl]
                  have n1 : ¬ (len * te.size > 2 ^ 24) := by omega
                  by_cases h0 : len * te.size = 0
                  · obtain rfl : len = 0 := by rcases Nat.mul_eq_zero.1 h0 with q | q <;> omega
                    simp [Array.range_zero'] at h1
                    simp [Instr.buildSlice, run_underlying g2, sizeOf, typeInfo, f1, f4, newRow, Array.range_zero', h1]
                  · simp [Instr.buildSlice, run_underlying g2, sizeOf, typeInfo, f1, f4, h0, newRow, zeroValue, f3]
                    rw [if_neg (by omega)]
                    try simp at h1
                    simp [h1]
                · simp [chunk]; unfold maxLen; have := Nat.le_mul_of_pos_right len hpos; omega
                · have hcl : (chunk te.size r len).length = len := by simp [chunk]
                  rw [hcl, h2.1, hrl]
                · skip
                  unfold chunk at hk
                  simp only [List.getElem?_map, Option.map_eq_some_iff] at hk
                  obtain ⟨k', hk', rfl⟩ := hk
                  obtain ⟨hk1, hk2⟩ := List.getElem?_eq_some_iff.1 hk'
                  simp at hk1 hk2
                  subst hk2
                  have hkm : k * te.size + te.size ≤ len * te.size := by
                    rw [← Nat.succ_mul]; exact Nat.mul_le_mul_right _ hk1
                  refine ⟨by simp; omega, fun j d hd => ?_⟩
                  simp only [List.getElem?_take, List.getElem?_drop] at hd
                  split at hd
                  · obtain ⟨v, h5, h6⟩ := h2.2 _ d hd
                    exact ⟨v, h5, D.dataB_rep (by rfl) 5 (List.all_eq_true.1 hdata d (List.mem_of_getElem? hd)) h6⟩
                  · cases hd
              | _ => simp [TK.of] at g6
            · trivial
          · trivial
        · trivial
      · trivial
    · trivial
  · trivial
theorem qEmpty_good (hT : T.ok P) {t : Nat} {ps : Array (Nat × Operand)} (hp : ps.size = 0) (ho : o.op = .buildSlice t 0 ps) : (qEmpty T t).good P H ρ o := by
  have hx : ∀ ev : Operand → Value, execOp ev o = (do pure (.value (← Instr.buildSlice t 0 (ps.map fun (i, x) => (i, ev x))))) := fun ev => by unfold execOp; rw [ho]
  unfold qEmpty
  split
  · next e s b z ht =>
    split
    · next te hte =>
      split
      · next hpos =>
        intro w E ev hev hwf hH
        obtain ⟨i, d, g1, g2, g3, _, _, g6⟩ := TI.of_spec (Tab.get_ok hT ht)
        obtain ⟨i', d', f1, f2, f3, f4, _, f6⟩ := TI.of_spec (Tab.get_ok hT hte)
        cases d with
        | slice e2 =>
          simp only [TK.of, TK.slice.injEq] at g6
          subst g6
          have : ps = #[] := Array.eq_empty_of_size_eq_zero hp
          subst this
          exact ⟨#[], 0, 0, by rw [hx]; simp [Instr.buildSlice, run_underlying g2, sizeOf, typeInfo, f1, f4, newRow, Instr.fill, Array.range_zero'], Nat.le_refl _, Nat.zero_le _, rfl, rfl, by simp, fun i e h => by simp [RE.den] at h⟩
        | _ => simp [TK.of] at g6
      · trivial
    · trivial
  · trivial
theorem qMake_good (hT : T.ok P) {t : Nat} {x y : Operand} (ho : o.op = .makeSlice t x y) : (qMake T t (ρ x) (ρ y)).good P H ρ o := by
  have hx : ∀ ev : Operand → Value, execOp ev o = (do pure (.value (← Instr.makeSlice t (ev x) (ev y)))) := fun ev => by unfold execOp; rw [ho]
  unfold qMake
  split
  · next e s b z ht =>
    split
    · next te hte =>
      split
      · next zl kx a ky bb hzl hxx hyy =>
        split
        · next hc =>
          obtain ⟨hzn, hpos, hdata⟩ := hc
          refine QR.reqQ_good mkLit_spec fun ⟨h0, hab, h63, hbytes⟩ => ?_
          intro w E ev hev hwf hH
          obtain ⟨i, d, g1, g2, g3, _, _, g6⟩ := TI.of_spec (Tab.get_ok hT ht)
          obtain ⟨i', d', f1, f2, f3, f4, f5, f6⟩ := TI.of_spec (Tab.get_ok hT hte)
          obtain ⟨hz1, hz2⟩ := (D.ofV_rep (w := w) (E := E) te.zero).cells hzl
          have h1 := hev x
          have h2 := hev y
          rw [hxx] at h1
          rw [hyy] at h2
          generalize hvx : ev x = vx at h1
          generalize hvy : ev y = vy at h2
          cases h1; cases h2
          cases d with
          | slice e2 =>
            simp only [TK.of, TK.slice.injEq] at g6
            subst g6
            have hrun := run_make (P := P) w t e i' te.zero g2 f1 f3 kx ky a.den bb.den h0 hab (by rw [f5]; exact hbytes) (by omega)
            rw [f4] at hrun
            have hle : a.den.toNat ≤ bb.den.toNat := by omega
            refine ⟨madeCells te.zero.cells (bb.den.toNat * te.size), a.den.toNat, bb.den.toNat, by rw [hx, hvx, hvy]; simp [hrun], hle, by unfold maxLen; omega, by omega, by simp [RE.mkRep_den], size_madeCells _ _, fun k el hk => ?_⟩
            simp only [RE.mkRep_den, List.getElem?_replicate] at hk
            split at hk
            · next hka =>
              cases hk
              refine ⟨hzn, fun j d hd => ?_⟩
              have hj : j < te.size := by rw [← hzn]; exact (List.getElem?_eq_some_iff.1 hd).1
              obtain ⟨u, k1, k2⟩ := hz2 j d hd
              refine ⟨u, ?_, D.dataB_rep (E := E) (E' := E.data) rfl 5 (List.all_eq_true.1 hdata d (List.mem_of_getElem? hd)) k2⟩
              have hlt : k * te.size + j < bb.den.toNat * te.size := by
                have : (k + 1) * te.size ≤ bb.den.toNat * te.size := Nat.mul_le_mul_right _ (by omega)
                rw [Nat.add_mul, Nat.one_mul] at this
                omega
              have hmod : (k * te.size + j) % te.zero.cells.size = j := by
                rw [hz1, hzn, Nat.mul_comm, Nat.mul_add_mod]
                exact Nat.mod_eq_of_lt hj
              simp [madeCells, hlt, hmod, k1, Array.getElem!_eq_getD]
            · cases hk
          | _ => simp [TK.of] at g6
        · trivial
      · trivial
    · trivial
  · trivial
def OpAt (P : Program) (o : Oper) (w : World) (E : Env) (ev : Operand → Value) (d : D) : Prop := ∃ v, (execOp ev o).run P w = .ok (.value v) w ∧ DRep w E d v
def optIE : Option D → Option (Option IE)
  | none => some none
  | some (.int _ e) => some (some e)
  | some _ => none
def qSlice (T : Tab) (H : List Bk) (t : Nat) (x : D) (lo hi mx : Option D) : QR := match T.get t, optIE lo, optIE hi, optIE mx with
  | some ⟨.slice e, _, _, _⟩, some lo, some hi, some mx => (match T.get e with
    | some te => (match x with
      | .slm n nb c l => if n = te.size then
          .req (fun _ => 0 ≤ (lo.getD (.lit 0)).den ∧ (lo.getD (.lit 0)).den ≤ (hi.getD (.len l)).den ∧ (hi.getD (.len l)).den ≤ (mx.getD (.len l)).den ∧ (mx.getD (.len l)).den ≤ l.length ∧ (mx.isSome = true → hi.isSome = true))
            (.letl (fun _ => (l.take (hi.getD (.len l)).den.toNat).drop (lo.getD (.lit 0)).den.toNat) fun l' => .slm n nb c l') else .stuck
      | .osl n b ver nb lo0 len => (match lo, hi, mx with
        | none, some h, none => if Bk.at H b ver then .req (fun _ => 0 ≤ h.den ∧ h.den ≤ len.den) (.ret (.osl n b ver nb lo0 h)) else .stuck
        | _, _, _ => .stuck)
      | _ => .stuck)
    | none => .stuck)
  | _, _, _, _ => .stuck
theorem qSlice_good (hT : T.ok P) {t : Nat} {x : Operand} {lo hi mx : Option Operand} (ho : o.op = .slice t x lo hi mx) : (qSlice T H t (ρ x) (lo.map ρ) (hi.map ρ) (mx.map ρ)).good P H ρ o := by
  have hx : ∀ ev : Operand → Value, execOp ev o = (do pure (.value (← Instr.sliceAt t (ev x) (lo.map ev) (hi.map ev) (mx.map ev)))) := fun ev => by unfold execOp; rw [ho]
  -- a bound that is there
  have bnd : ∀ {q : Option Operand} {r : Option IE}, optIE (q.map ρ) = some r → ∀ {w : World} {E : Env} {ev : Operand → Value}, (∀ x, DRep w E (ρ x) (ev x)) → (r = none ∧ q = none) ∨ ∃ e y k, r = some e ∧ q = some y ∧ ev y = .int k e.den := by
    intro q r h w E ev hev
    cases q with
    | none => simp [optIE] at h; exact .inl ⟨h.symm, rfl⟩
    | some y =>
      simp only [Option.map_some] at h
      have hy := hev y
      unfold optIE at h
      split at h
      · next h1 => cases h1
      · next k e h1 =>
        cases h
        simp only [Option.some.injEq] at h1
        rw [h1] at hy
        generalize hv : ev y = v at hy
        cases hy
        exact .inr ⟨e, y, k, rfl, rfl, hv⟩
      · cases h
  unfold qSlice
  split
  · next e s b z l1 h1 m1 ht hlo hhi hmx =>
    split
    · next te hte =>
      obtain ⟨ti, d, g1, g2, _, _, _, g6⟩ := TI.of_spec (Tab.get_ok hT ht)
      obtain ⟨ti', d', f1, f2, _, f4, _, f6⟩ := TI.of_spec (Tab.get_ok hT hte)
      have hu : P.underlying t = some (.slice e) := by
        cases d with
        | slice e2 => simp only [TK.of, TK.slice.injEq] at g6; rw [g2, g6]
        | _ => simp [TK.of] at g6
      split
      · next α n nb c l hd =>
        split
        · next hn =>
          subst hn
          intro ⟨q1, q2, q3, q4, q5⟩ w E ev hev hwf hH
          have h3 := hev x
          rw [hd] at h3
          generalize hv : ev x = vx at h3
          cases h3 with | @slm _ _ _ _ _ _ a cap u hnb hc hm hxx ha hh =>
          -- the three bounds
          obtain ⟨L, hL⟩ : ∃ L : Nat, (L : Int) = (l1.getD (.lit 0)).den := ⟨_, Int.toNat_of_nonneg q1⟩
          obtain ⟨Hh, hHh⟩ : ∃ Hh : Nat, (Hh : Int) = (h1.getD (.len l)).den := ⟨(h1.getD (.len l)).den.toNat, Int.toNat_of_nonneg (by omega)⟩
          have hrun : ∃ M, Hh ≤ M ∧ M ≤ cap ∧ (Instr.sliceAt t (.slice a l.length cap) (lo.map ev) (hi.map ev) (mx.map ev)).run P w = .ok (.slice (if M = L then a else a.map (·.add (L * te.size))) (Hh - L) (M - L)) w := by
            have hLH : L ≤ Hh := by omega
            have hHl : Hh ≤ l.length := by omega
            rcases bnd hlo hev with ⟨rfl, rfl⟩ | ⟨e1, y1, k1, rfl, rfl, v1⟩ <;> rcases bnd hhi hev with ⟨rfl, rfl⟩ | ⟨e2, y2, k2, rfl, rfl, v2⟩ <;> rcases bnd hmx hev with ⟨rfl, rfl⟩ | ⟨e3, y3, k3, rfl, rfl, v3⟩
            all_goals simp only [Option.getD_none, Option.getD_some, Option.isSome_none, Option.isSome_some, IE.den, Bool.false_eq_true, false_imp_iff, true_imp_iff, forall_const, imp_false] at hL hHh q1 q2 q3 q4 q5
            · have e1 : L = 0 := by omega
              have e2 : Hh = l.length := by omega
              subst e1; subst e2
              exact ⟨cap, hc, Nat.le_refl _, by simp [Instr.sliceAt, Instr.slice, run_underlying hu, Instr.sliceBounds, sizeOf, typeInfo, f1, f4]⟩
            · have e1 : L = 0 := by omega
              subst e1
              exact ⟨cap, by omega, Nat.le_refl _, by simp [Instr.sliceAt, Instr.slice, run_underlying hu, Instr.sliceBounds, Instr.sliceBound, asIntOf, v2, ← hHh, sizeOf, typeInfo, f1, f4, show Hh ≤ cap by omega]⟩
            · obtain ⟨M, hM⟩ : ∃ M : Nat, (M : Int) = e3.den := ⟨e3.den.toNat, Int.toNat_of_nonneg (by omega)⟩
              have e1 : L = 0 := by omega
              subst e1
              exact ⟨M, by omega, by omega, by simp [Instr.sliceAt, Instr.slice, run_underlying hu, Instr.sliceBounds, Instr.sliceBound, asIntOf, v2, v3, ← hHh, ← hM, sizeOf, typeInfo, f1, f4, show M ≤ cap by omega, show Hh ≤ M by omega]⟩
            · have e2 : Hh = l.length := by omega
              subst e2
              exact ⟨cap, hc, Nat.le_refl _, by simp [Instr.sliceAt, Instr.slice, run_underlying hu, Instr.sliceBounds, Instr.sliceBound, asIntOf, v1, ← hL, sizeOf, typeInfo, f1, f4, hLH]⟩
            · exact ⟨cap, by omega, Nat.le_refl _, by simp [Instr.sliceAt, Instr.slice, run_underlying hu, Instr.sliceBounds, Instr.sliceBound, asIntOf, v1, v2, ← hL, ← hHh, sizeOf, typeInfo, f1, f4, show Hh ≤ cap by omega, hLH]⟩
            · obtain ⟨M, hM⟩ : ∃ M : Nat, (M : Int) = e3.den := ⟨e3.den.toNat, Int.toNat_of_nonneg (by omega)⟩
              exact ⟨M, by omega, by omega, by simp [Instr.sliceAt, Instr.slice, run_underlying hu, Instr.sliceBounds, Instr.sliceBound, asIntOf, v1, v2, v3, ← hL, ← hHh, ← hM, sizeOf, typeInfo, f1, f4, show M ≤ cap by omega, show Hh ≤ M by omega, hLH]⟩
          obtain ⟨M, hM1, hM2, hrun⟩ := hrun
          have hl' : ((l.take (h1.getD (.len l)).den.toNat).drop (l1.getD (.lit 0)).den.toNat).length = Hh - L := by simp; omega
          have eL : (l1.getD (.lit 0)).den.toNat = L := by omega
          have eH : (h1.getD (.len l)).den.toNat = Hh := by omega
          rw [eL, eH] at hl'
          show OpAt P o w E ev (.slm te.size nb c ((l.take _).drop _))
          rw [eL, eH]
          refine ⟨_, by rw [hx, hv]; simp [hrun]; rfl, ?_⟩
          have get : ∀ (i : Nat) y, ((l.take Hh).drop L)[i]? = some y → l[L + i]? = some y := fun i y hy => by
            rw [List.getElem?_drop, List.getElem?_take] at hy
            split at hy
            · exact hy
            · cases hy
          have hd := DRep.slm (w := w) (E := E) (n := te.size) (nb := nb) (c := c) (l := (l.take Hh).drop L) (a := if M = L then a else a.map (·.add (L * te.size))) (cap := M - L) (fun i j => u (L + i) j) (fun e he => by
            rw [hnb e he]
            split
            · rfl
            · cases a <;> rfl) (by rw [hl']; omega) (by omega) (fun y hy => by
              obtain ⟨i, hi⟩ := List.getElem?_of_mem hy
              exact hxx y (List.mem_of_getElem? (get i y hi))) (fun hne => by
              have hlt : L < Hh := by
                rcases Nat.lt_or_ge L Hh with q | q
                · exact q
                · exact absurd (List.length_eq_zero_iff.1 (by rw [hl']; omega)) hne
              obtain ⟨bb, base, rfl, hG, hcell⟩ := ha (by intro e; subst e; simp at hne)
              refine ⟨bb, base + L * te.size, by rw [if_neg (by omega)]; simp [Addr.add_mid], hG, fun i j hi hj => ?_⟩
              rw [hl'] at hi
              have := hcell (L + i) j (by omega) hj
              rw [Nat.add_mul, ← Nat.add_assoc] at this
              exact this) (fun i y j d hy hd => hh (L + i) y j d (get i y hy) hd)
          rw [hl'] at hd
          exact hd
        · trivial
      · next n bb ver nb lo0 len hd =>
        split
        · next h2 =>
          split
          · next hat =>
            intro ⟨q1, q2⟩ w E ev hev hwf hH
            have h3 := hev x
            rw [hd] at h3
            generalize hv : ev x = vx at h3
            have hs := at_spec hat hH
            rcases bnd hlo hev with ⟨_, rfl⟩ | ⟨e1, y1, k1, c1, _⟩
            case inr => cases c1
            rcases bnd hmx hev with ⟨_, rfl⟩ | ⟨e1, y1, k1, c1, _⟩
            case inr => cases c1
            rcases bnd hhi hev with ⟨c1, _⟩ | ⟨e2, y2, k2, c1, rfl, v2⟩
            case inl => cases c1
            cases c1
            obtain ⟨Hh, hHh⟩ : ∃ Hh : Nat, (Hh : Int) = h2.den := ⟨h2.den.toNat, Int.toNat_of_nonneg q1⟩
            cases h3 with
            | @oslc _ _ _ _ _ _ _ cc m cap hk hσ hnb hl hn hc hm hsz =>
              refine ⟨.slice (some ⟨cc, lo0.den.toNat * n, none⟩) Hh cap, ?_, .oslc hk hσ hnb hl hHh.symm (by omega) hm hsz⟩
              rw [hx, hv]
              simp [Instr.sliceAt, Instr.slice, run_underlying hu, Instr.sliceBounds, Instr.sliceBound, asIntOf, v2, ← hHh, sizeOf, typeInfo, f1, f4, show Hh ≤ cap by omega, Addr.add]
            | osln hk hσ hnb hl hn =>
              have : Hh = 0 := by omega
              subst this
              refine ⟨.slice none 0 0, ?_, .osln hk hσ hnb hl hHh.symm⟩
              rw [hx, hv]
              simp [Instr.sliceAt, Instr.slice, run_underlying hu, Instr.sliceBounds, Instr.sliceBound, asIntOf, v2, ← hHh, sizeOf, typeInfo, f1, f4]
            | osls hk => rcases hs with q | q <;> omega
          · trivial
        · trivial
      · trivial
    · trivial
  · trivial
def arrLen (H : List Bk) (b : Nat) : Option Nat := match H[b]? with
  | some (.cells l) => some l.length
  | _ => none
def qSlice2 (T : Tab) (H : List Bk) (t : Nat) (x : D) (lo hi mx : Option D) : QR := match T.get t, x, lo, hi, mx with
  | some ⟨.arr m e, _, _, _⟩, .ptr b ver 0, none, none, none => (match T.get e with
    | some te => if ver = 1 ∧ arrLen H b = some (m * te.size) ∧ m ≤ maxLen then .ret (.osl te.size b 1 (.lit false) (.lit 0) (.lit m)) else .stuck
    | none => .stuck)
  | some ⟨.slice e, _, _, _⟩, .osl n b ver nb lo0 len, some (.int _ l), none, none => (match T.get e with
    | some te => if n = te.size ∧ Bk.at H b ver = true then .req (fun _ => 0 ≤ l.den ∧ l.den < len.den) (.ret (.osl n b ver nb (IE.mkSum lo0 l) (IE.mkDif len l))) else .stuck
    | none => .stuck)
  | some ⟨.arr m e, _, _, _⟩, .dp cells 0, none, none, none => (match T.get e with
    | some te => if te.size = 1 ∧ cells.length = m ∧ m ≤ maxLen then .ret (.sll 1 (cells.map fun d => [d])) else .stuck
    | none => .stuck)
  | _, x, lo, hi, mx => qSlice T H t x lo hi mx
theorem qSlice2_good (hT : T.ok P) {t : Nat} {x : Operand} {lo hi mx : Option Operand} (ho : o.op = .slice t x lo hi mx) : (qSlice2 T H t (ρ x) (lo.map ρ) (hi.map ρ) (mx.map ρ)).good P H ρ o := by
  have hx : ∀ ev : Operand → Value, execOp ev o = (do pure (.value (← Instr.sliceAt t (ev x) (lo.map ev) (hi.map ev) (mx.map ev)))) := fun ev => by unfold execOp; rw [ho]
  unfold qSlice2
  split
  · next m e s b z bb ver ht hd hlo hhi hmx =>
    split
    · next te hte =>
      split
      · next hc =>
        obtain ⟨rfl, hal, hm⟩ := hc
        obtain ⟨ti, d, g1, g2, _, _, _, g6⟩ := TI.of_spec (Tab.get_ok hT ht)
        obtain ⟨ti', d', f1, f2, _, f4, _, f6⟩ := TI.of_spec (Tab.get_ok hT hte)
        have hu : P.underlying t = some (.array m e) := by
          cases d with
          | array n2 e2 => simp only [TK.of, TK.arr.injEq] at g6; rw [g2, g6.1, g6.2]
          | _ => simp [TK.of] at g6
        have l0 : lo = none := by cases lo <;> simp_all
        have h0 : hi = none := by cases hi <;> simp_all
        have m0 : mx = none := by cases mx <;> simp_all
        subst l0 h0 m0
        intro w E ev hev hwf hH
        have h1 := hev x
        rw [hd] at h1
        unfold arrLen at hal
        split at hal
        · next l hl =>
          simp only [Option.some.injEq] at hal
          obtain ⟨c, hk, hs, hv⟩ := ptr_at (by unfold Bk.at; rw [hl]; rfl) hH h1
          have hz : l.length = E.ζ bb := by
            rcases hH bb _ hl with q | ⟨_, q, _⟩
            · rw [q.2] at hs; cases hs
            · obtain ⟨cs, t', q1, q2, q3, _⟩ := q c hs
              exact q3
          refine ⟨.slice (some ⟨c, (IE.lit 0).den.toNat * te.size, none⟩) m m, ?_, .oslc hk hs rfl (by simp [IE.den]) (by simp [IE.den]) (Nat.le_refl _) hm (by simp [IE.den]; omega)⟩
          rw [hx, hv]
          simp [Instr.sliceAt, run_underlying hu, Instr.sureAddr, Instr.sliceBounds, sizeOf, typeInfo, f1, IE.den, Addr.add_mid]
        · cases hal
      · trivial
    · trivial
  · next e s b z n bb ver nb lo0 len kl l ht hd hlo hhi hmx =>
    split
    · next te hte =>
      split
      · next hc =>
        obtain ⟨rfl, hat⟩ := hc
        obtain ⟨ti, d, g1, g2, _, _, _, g6⟩ := TI.of_spec (Tab.get_ok hT ht)
        obtain ⟨ti', d', f1, f2, _, f4, _, f6⟩ := TI.of_spec (Tab.get_ok hT hte)
        have hu : P.underlying t = some (.slice e) := by
          cases d with
          | slice e2 => simp only [TK.of, TK.slice.injEq] at g6; rw [g2, g6]
          | _ => simp [TK.of] at g6
        have h0 : hi = none := by cases hi <;> simp_all
        have m0 : mx = none := by cases mx <;> simp_all
        subst h0 m0
        obtain ⟨y, rfl, hy⟩ : ∃ y, lo = some y ∧ ρ y = .int kl l := by cases lo <;> simp_all
        intro ⟨q1, q2⟩ w E ev hev hwf hH
        have h1 := hev x
        rw [hd] at h1
        have h2 := hev y
        rw [hy] at h2
        generalize hvy : ev y = vy at h2
        cases h2
        generalize hv : ev x = vx at h1
        have hs' := at_spec hat hH
        cases h1 with
        | @oslc _ _ _ _ _ _ _ c mm cap hk hs hnb hl hn hc hm hsz =>
          obtain ⟨L, hL⟩ : ∃ L : Nat, (L : Int) = l.den := ⟨l.den.toNat, Int.toNat_of_nonneg q1⟩
          have e1 : (IE.mkSum lo0 l).den.toNat = lo0.den.toNat + L := by rw [IE.mkSum_den]; omega
          have e2 : (IE.mkDif len l).den = ((mm - L : Nat) : Int) := by rw [IE.mkDif_den]; omega
          refine ⟨.slice (some ⟨c, (IE.mkSum lo0 l).den.toNat * te.size, none⟩) (mm - L) (cap - L), ?_, .oslc hk hs hnb (by rw [IE.mkSum_den]; omega) e2 (by omega) (by omega) (by rw [e1, ← hsz]; congr 1; omega)⟩
          rw [hx, hv]
          have hne : ¬ cap = L := by omega
          simp [Instr.sliceAt, Instr.slice, run_underlying hu, Instr.sliceBounds, Instr.sliceBound, asIntOf, hvy, ← hL, sizeOf, typeInfo, f1, f4, show L ≤ mm by omega, hc, hne, Addr.add_mid, e1, Nat.add_mul]
        | osln hk hs hnb hl hn => exfalso; omega
        | osls hk => rcases hs' with q | q <;> omega
      · trivial
    · trivial
  · next m e s b z cells ht hd hlo hhi hmx =>
    split
    · next te hte =>
      split
      · next hc =>
        obtain ⟨hsz, hlen, hm⟩ := hc
        obtain ⟨ti, d, g1, g2, _, _, _, g6⟩ := TI.of_spec (Tab.get_ok hT ht)
        obtain ⟨ti', d', f1, f2, _, f4, _, f6⟩ := TI.of_spec (Tab.get_ok hT hte)
        have hu : P.underlying t = some (.array m e) := by
          cases d with
          | array n2 e2 => simp only [TK.of, TK.arr.injEq] at g6; rw [g2, g6.1, g6.2]
          | _ => simp [TK.of] at g6
        have l0 : lo = none := by cases lo <;> simp_all
        have h0 : hi = none := by cases hi <;> simp_all
        have m0 : mx = none := by cases mx <;> simp_all
        subst l0 h0 m0
        intro w E ev hev hwf hH
        have h1 := hev x
        rw [hd] at h1
        generalize hv : ev x = vx at h1
        cases h1 with
        | @dp _ _ _ bb base u hg hu2 hr =>
          have key := DRep.sll (w := w) (E := E) (n := 1) (es := cells.map fun d => [d]) (a := some ⟨bb, base + 0, none⟩) (cap := m) (fun i _ => u i) (by simp [hlen]) hm (fun x hx => by simp only [List.mem_map] at hx; obtain ⟨d, _, rfl⟩ := hx; rfl) ⟨bb, base, rfl, hg, fun i j hi hj => by
            have hj0 : j = 0 := by omega
            subst hj0
            rw [Nat.mul_one, Nat.add_zero]
            exact hu2 i (by simpa using hi)⟩ fun i x j d hx hd => by
              simp only [List.getElem?_map, Option.map_eq_some_iff] at hx
              obtain ⟨y, hy, rfl⟩ := hx
              have hj := (List.getElem?_eq_some_iff.1 hd).1
              have hj0 : j = 0 := by simp at hj; exact hj
              subst hj0
              cases hd
              exact hr i _ hy
          rw [List.length_map, hlen] at key
          refine ⟨_, ?_, key⟩
          rw [hx, hv]
          simp [Instr.sliceAt, run_underlying hu, Instr.sureAddr, Instr.sliceBounds, sizeOf, typeInfo, f1, Addr.add_mid]
      · trivial
    · trivial
  · exact qSlice_good hT ho
/-- an operation that only reads or lays something new -/
def qop (T : Tab) (H : List Bk) (ρ : Operand → D) (o : Oper) : QR := match o.op with
  | .move x | .assign x => .ret (ρ x)
  | .pick c a b => qPick (ρ c) (ρ a) (ρ b)
  | .alloc t => qAlloc2 T t
  | .box _ x => qBox2 (ρ x)
  | .build t ps => qBuild T t (evParts ps ρ)
  | .buildSlice t len ps => if len = 0 ∧ ps.size = 0 then qEmpty T t else qBuildSlice T t len (evParts ps ρ)
  | .makeSlice t a b => qMake T t (ρ a) (ρ b)
  | .load t a => qLoad2 T H t (ρ a)
  | .binOp op t x y _ => (match ρ x, ρ y with
    | .agg l, .agg m => qEqA T op t l m
    | a, b => qBin T H op t a b)
  | .unOp op _ x => qUn op (ρ x)
  | .convert s t x => (match T.get t, T.get s with
    | some ⟨.str, _, _, _⟩, some ⟨.slice _, _, _, _⟩ => qStr T s t (ρ x)
    | _, _ => qConv T s t (ρ x))
  | .makeFunc f a b => .ret (.fn f (a.toList.map ρ) (b.toList.map ρ))
  | .fieldAddr t x f => qFieldAddr T H t f (ρ x)
  | .field t x f => qField T t f (ρ x)
  | .indexAddr t x i => qIdx2 T H t (ρ x) (ρ i)
  | .nilCheck x => qNil H (ρ x)
  | .index t x i => qIndex T t (ρ x) (ρ i)
  | .extract x i => qExtract (ρ x) i
  | .makeMap t r => qMakeMap T t (r.map ρ)
  | .lookup t x i ck => qLookup2 T H t (ρ x) (ρ i) ck
  | .slice t x lo hi mx => qSlice2 T H t (ρ x) (lo.map ρ) (hi.map ρ) (mx.map ρ)
  | .makeInterface t x => qIface T t (ρ x)
  | .typeAssert x _ u ck => qAssert T u ck (ρ x)
  | .call ⟨.builtin .len, ⟨[x]⟩, ⟨[t]⟩⟩ => qLen T H t (ρ x)
  | .call ⟨.builtin .min, ⟨[x, y]⟩, _⟩ => qMinMax false (ρ x) (ρ y)
  | .call ⟨.builtin .max, ⟨[x, y]⟩, _⟩ => qMinMax true (ρ x) (ρ y)
  | _ => .stuck
theorem qop_good (hT : T.ok P) : (qop T H ρ o).good P H ρ o := by
  unfold qop
  split
  · next x h => exact qMove_good (.inl h)
  · next x h => exact qMove_good (.inr h)
  · next h => exact qPick_good h
  · next h => exact qAlloc2_good hT h
  · next h => exact qBox2_good h
  · next h => exact qBuild_good hT h
  · next h =>
    split
    · next e => obtain ⟨rfl, e⟩ := e; exact qEmpty_good hT e h
    · exact qBuildSlice_good hT h
  · next h => exact qMake_good hT h
  · next h => exact qLoad2_good hT h
  · next h =>
    split
    · next hx hy => exact qEqA_good hT h hx hy
    · exact qBin_good hT h
  · next h => exact qUn_good h
  · next h =>
    split
    · exact qStr_good hT h
    · exact qConv_good hT h
  · next h => exact qMakeFunc_good h
  · next h => exact qFieldAddr_good hT h
  · next h => exact qField_good hT h
  · next h => exact qIdx2_good hT h
  · next h => exact qNil_good h
  · next h => exact qIndex_good hT h
  · next h => exact qExtract_good h
  · next h => exact qMakeMap_good h
  · next h => exact qLookup2_good hT h
  · next h => exact qSlice2_good hT h
  · next h => exact qIface_good hT h
  · next h => exact qAssert_good hT h
  · next h => exact qLen_good hT h
  · next h => exact qMinMax_good (mx := false) h
  · next h => exact qMinMax_good (mx := true) h
  · trivial
end
end Go.Proofs.YtdhfakajlnidiaaGreat
namespace Go.Proofs.YtdhfakajlnidiaaGreat
open Go.RowKit

/-! A step of the world that leaves all that was there as it was: what the blocks say stays. -/
theorem BRep.move {w w' : World} {E E' : Env} {x c : Nat} {b : Bk} (h : BRep w E x c b) (hle : E.le w w' E') (hown : E.own E') (hc : w'.heap[c]? = w.heap[c]?) (hz : E'.ζ x = E.ζ x) : BRep w' E' x c b := by
  cases b with
  | cells l =>
    obtain ⟨cs, t, h1, h2, hz2, h3⟩ := h
    exact ⟨cs, t, hc.trans h1, h2, hz2.trans hz.symm, fun i d hd => by obtain ⟨v, h4, h5⟩ := h3 i d hd; exact ⟨v, h4, h5.move hle hown⟩⟩
  | row ty n ver r =>
    obtain ⟨cs, tt, ht, h1, h2, h3, h4⟩ := h
    refine ⟨cs, tt, ht, hc.trans h1, h2.trans hz.symm, h3, fun i e he => ?_⟩
    obtain ⟨h5, h6⟩ := h4 i e he
    exact ⟨h5, fun j d hd => by obtain ⟨v, h7, h8⟩ := h6 j d hd; exact ⟨v, h7, h8.move hle.data Env.own.data⟩⟩
  | arr k m f =>
    obtain ⟨cs, t, h1, h2, h3, h4⟩ := h
    exact ⟨cs, t, hc.trans h1, h2, h3.trans hz.symm, h4⟩
  | mp kk m =>
    obtain ⟨es, clock, h1, h2, h3, h4⟩ := h
    exact ⟨es, clock, hc.trans h1, h2, h3, fun e he => by obtain ⟨x, d, q1, q2, q3, q4⟩ := h4.val e he; exact ⟨x, d, q1, q2, q3, q4.move hle.data Env.own.data⟩, h4.has, h4.apart, h4.clock⟩
  | mpk ks k2 F n =>
    obtain ⟨es, clock, h1, h2, h3, h4⟩ := h
    exact ⟨es, clock, hc.trans h1, h2, h3, h4⟩
  | dead => trivial
/-- a new own block -/
def Env.push (E : Env) (n c z : Nat) : Env := ⟨E.G, fun x => if x = n then some c else E.σ x, fun x => if x = n then 1 else E.κ x, fun x => if x = n then z else E.ζ x⟩
theorem alloc_heap (w : World) (o : Obj) (c : Nat) (h : c < w.heap.size) : (w.alloc o).heap[c]? = w.heap[c]? := by
  show (w.heap.push o)[c]? = _
  rw [Array.getElem?_push_lt h, Array.getElem?_eq_getElem h]
theorem alloc_cell (w : World) (o : Obj) (b off : Nat) (h : b < w.heap.size) : (w.alloc o).cell? ⟨b, off, none⟩ = w.cell? ⟨b, off, none⟩ := by
  unfold World.cell?
  rw [alloc_heap w o b h]
section
variable {B : Base} {H : List Bk} {E : Env} {w : World}
theorem WRel.le_push (h : WRel B H E w) (o : Obj) (n c z : Nat) : E.le w (w.alloc o) (E.push n c z) := ⟨fun _ h => h, fun b hb => alloc_heap w o b (h.good b hb)⟩
theorem WRel.own_push (h : WRel B H E w) (c z : Nat) : E.own (E.push H.length c z) := by
  have h0 := (h.out H.length (Nat.le_refl _)).2
  refine ⟨fun b => ?_, fun b e => ?_⟩
  · simp only [Env.push]
    split
    · next q => subst q; omega
    · exact Nat.le_refl _
  · simp only [Env.push] at e ⊢
    by_cases q : b = H.length
    · subst q; simp at e; omega
    · simp [q]
/-- a block that is laid: at a number that stood empty -/
theorem WRel.layB {Hx : List Bk} (h : WRel B Hx E w) {m z : Nat} {o : Obj} {b0 : Bk} (hm : Hx[m]? = some b0) (h0 : E.σ m = none ∧ E.κ m = 0) (hv : b0.ver 1)
    (hb : E.le w (w.alloc o) (E.push m w.heap.size z) → E.own (E.push m w.heap.size z) → BRep (w.alloc o) (E.push m w.heap.size z) m w.heap.size b0) : WRel B Hx (E.push m w.heap.size z) (w.alloc o) ∧ E.own (E.push m w.heap.size z) := by
  have hle := h.le_push o m w.heap.size z
  have hown : E.own (E.push m w.heap.size z) := by
    refine ⟨fun b => ?_, fun b e => ?_⟩
    · simp only [Env.push]
      split
      · next q => subst q; omega
      · exact Nat.le_refl _
    · simp only [Env.push] at e ⊢
      by_cases q : b = m
      · subst q; simp at e; omega
      · simp [q]
  have hsz : (w.alloc o).heap.size = w.heap.size + 1 := World.size_alloc _ _
  refine ⟨⟨fun x y c hx hy => ?_, fun x c hx => ?_, fun b hb => ?_, fun x b hb' => ?_, fun x hx => ?_, fun b hb => ?_, h.g0, h.gn, h.bel.alloc h.bel.size _, B.stab _ _ _ _ hle hown h.phi⟩, hown⟩
  · simp only [Env.push] at hx hy
    split at hx <;> split at hy
    · omega
    · cases hx; have := (h.own _ _ hy).2.1; omega
    · cases hy; have := (h.own _ _ hx).2.1; omega
    · exact h.inj _ _ _ hx hy
  · simp only [Env.push] at hx
    split at hx
    · cases hx
      exact ⟨h.bel.size, by omega, fun q => by have := h.good _ q; omega⟩
    · obtain ⟨h1, h2, h3⟩ := h.own _ _ hx
      exact ⟨h1, by omega, h3⟩
  · simp only [Env.push] at hb ⊢
    split at hb
    · omega
    · next q => rw [if_neg q]; exact h.wf b hb
  · by_cases hne : x = m
    · subst hne
      rw [hm] at hb'
      cases hb'
      have k1 : (E.push x w.heap.size z).κ x = 1 := by simp [Env.push]
      have k2 : (E.push x w.heap.size z).σ x = some w.heap.size := by simp [Env.push]
      rw [k1, k2]
      exact .inr ⟨hv, fun c hc => by cases hc; exact hb hle hown, fun hn => by cases hn⟩
    · have hk : (E.push m w.heap.size z).κ x = E.κ x := by simp [Env.push, hne]
      have hs' : (E.push m w.heap.size z).σ x = E.σ x := by simp [Env.push, hne]
      have hz' : (E.push m w.heap.size z).ζ x = E.ζ x := by simp [Env.push, hne]
      rw [hk, hs']
      rcases h.heap x b hb' with q | ⟨q1, q2, q3⟩
      · exact .inl q
      · exact .inr ⟨q1, fun c hc => (q2 c hc).move hle hown (alloc_heap w _ c (h.own x c hc).2.1) hz', q3⟩
  · have hlt := (List.getElem?_eq_some_iff.1 hm).1
    have := h.out x hx
    simp only [Env.push]
    rw [if_neg (by omega), if_neg (by omega)]
    exact this
  · have := h.good b hb
    omega
theorem WRel.ext (h : WRel B H E w) (nws : List Bk) : WRel B (H ++ nws) E w := by
  refine ⟨h.inj, h.own, h.wf, fun x b hx => ?_, fun x hx => h.out x (by simp at hx; omega), h.good, h.g0, h.gn, h.bel, h.phi⟩
  by_cases q : x < H.length
  · rw [List.getElem?_append_left q] at hx
    exact h.heap x b hx
  · have := h.out x (by omega)
    exact .inl ⟨this.2, this.1⟩
/-- a new block of data -/
def Env.data1 (E : Env) (c : Nat) : Env := ⟨fun b => E.G b ∨ b = c, E.σ, E.κ, E.ζ⟩
theorem WRel.le_data (h : WRel B H E w) (o : Obj) (c : Nat) : E.le w (w.alloc o) (E.data1 c) := ⟨fun _ h => .inl h, fun b hb => alloc_heap w o b (h.good b hb)⟩
theorem Env.own_data (E : Env) (c : Nat) : E.own (E.data1 c) := ⟨fun _ => Nat.le_refl _, fun _ _ => ⟨rfl, fun _ _ => rfl⟩⟩
theorem WRel.pushd (h : WRel B H E w) (o : Obj) : WRel B H (E.data1 w.heap.size) (w.alloc o) := by
  have hle := h.le_data o w.heap.size
  have hsz : (w.alloc o).heap.size = w.heap.size + 1 := World.size_alloc _ _
  refine ⟨h.inj, fun x c hx => ?_, h.wf, fun x b hb => ?_, h.out, fun b hb => ?_, fun b hb => .inl (h.g0 b hb), fun b hb => ?_, h.bel.alloc h.bel.size _, B.stab _ _ _ _ hle (Env.own_data E _) h.phi⟩
  · obtain ⟨h1, h2, h3⟩ := h.own x c hx
    exact ⟨h1, by omega, fun q => by rcases q with q | q; exact h3 q; omega⟩
  · rcases h.heap x b hb with q | ⟨q1, q2, q3⟩
    · exact .inl q
    · exact .inr ⟨q1, fun c hc => (q2 c hc).move hle (Env.own_data E _) (alloc_heap w _ c (h.own x c hc).2.1) rfl, q3⟩
  · rcases hb with hb | hb
    · have := h.good b hb; omega
    · omega
  · rcases hb with hb | hb
    · exact h.gn b hb
    · exact .inr (by rw [hb]; exact h.bel.size)
end
/-! What comes of an operation, as a condition on what follows. -/
inductive ElemP {α : Type} (l : List α) (i : IE) (K : α → Prop) : Prop
  | mk (h0 : 0 ≤ i.den ∧ i.den < l.length) (h : ∀ x, l[i.den.toNat]? = some x → K x)
inductive ElemL (es : List (List D)) (i : IE) (K : List D → Prop) : Prop
  | mk (h0 : 0 ≤ i.den ∧ i.den < es.length) (h : ∀ x, es[i.den.toNat]? = some x → K x)
inductive ReqP (p : Unit → Prop) (K : Prop) : Prop
  | mk (h : p ()) (k : p () → K)
def ReqQ (b : Bool) (p : Unit → Prop) (K : Prop) : Prop := match b with
  | true => K
  | false => ReqP p K
theorem ReqQ.get {b : Bool} {p : Unit → Prop} {K : Prop} (h : ReqQ b p K) (hb : b = true → p ()) : p () ∧ K := by
  cases b with
  | true => exact ⟨hb rfl, h⟩
  | false => obtain ⟨h1, h2⟩ := (show ReqP p K from h); exact ⟨h1, h2 h1⟩
inductive SplitP (b : BE) (A B : Prop) : Prop
  | mk (t : b.den = true → A) (f : b.den = false → B)
inductive LetP {α : Type} (f : Unit → List α) (K : List α → Prop) : Prop
  | mk (h : ∀ l, l = f () → K l)
inductive LetBP (f : Unit → Bool) (K : Bool → Prop) : Prop
  | mk (h : ∀ b, b = f () → K b)
inductive LetSP (f : Unit → ByteArray) (K : ByteArray → Prop) : Prop
  | mk (h : ∀ s, s = f () → K s)
inductive ElemR (r : RE) (i : IE) (K : List D → Prop) : Prop
  | mk (h0 : 0 ≤ i.den ∧ i.den < r.den.length) (h : ∀ x, r.den[i.den.toNat]? = some x → K x)
inductive LetOP (f : Unit → Option Int) (K0 : Prop) (K : Int → Prop) : Prop
  | mk (h0 : f () = none → K0) (h : ∀ y, f () = some y → K y)
inductive LetDP (f : Unit → Option D) (K0 : Prop) (K : D → Prop) : Prop
  | mk (h0 : f () = none → K0) (h : ∀ y, f () = some y → K y)
inductive StuckP (o : Oper) (ds : List D) : Prop
def QR.run (o : Oper) (ds : List D) (n0 : Nat) (K : D → List Bk → Prop) : QR → Prop
  | .ret d => K d []
  | .req p r => ReqP p (r.run o ds n0 K)
  | .elem c l i k => ElemP l i fun x => K (k (c x)) []
  | .elemL es i k => ElemL es i fun x => K (k x) []
  | .newc l => K (.ptr n0 1 0) [.cells l]
  | .newd _ n es => K (.sll n es) []
  | .newr ty n r len => K (.osl n n0 1 (.lit false) (.lit 0) len) [.row ty n 1 r]
  | .letl f k => LetP f fun l => K (k l) []
  | .letb f k => LetBP f fun b => K (k b) []
  | .lets f k => LetSP f fun b => K (k b) []
  | .elemR r i k => ElemR r i fun x => K (k x) []
  | .leto f k0 k => LetOP f (K k0 []) fun y => K (k y) []
  | .letd f k0 k => LetDP f (K k0 []) fun y => K (k y) []
  | .newm kk => K (.mapr n0) [.mp kk (.lits [])]
  | .newa k m f => K (.ptr n0 1 0) [.arr k m f]
  | .stuck => StuckP o ds
end Go.Proofs.YtdhfakajlnidiaaGreat
namespace Go.Proofs.YtdhfakajlnidiaaGreat
open Go.RowKit

/-! Stores into own blocks. -/
def D.cellB : D → Bool
  | .junk | .agg _ | .tup _ | .arr .. => false
  | _ => true
theorem DRep.one {w : World} {E : Env} {d : D} {v : Value} (h : DRep w E d v) (hd : d.cellB = true) : v.oneCell' = true := by
  cases h <;> first | rfl | cases hd
theorem setCells_blk {b : Nat} {t : TypeId} : ∀ (vs : List Value) (o : Nat) (w : World) (c : Array Value), Blk w b c t → o + vs.length ≤ c.size →
    ∃ c', Blk (w.setCells b o vs) b c' t ∧ c'.size = c.size ∧ ∀ j, j < c.size → c'[j]? = if o ≤ j ∧ j < o + vs.length then vs[j - o]? else c[j]?
  | [], o, w, c, h, _ => ⟨c, h, rfl, fun j _ => by simp; omega⟩
  | v :: vs, o, w, c, h, hl => by
    simp only [List.length_cons] at hl
    obtain ⟨c', h1, h2, h3⟩ := setCells_blk vs (o + 1) (w.setCell ⟨b, o, none⟩ v) _ (h.set o v) (by simp; omega)
    refine ⟨c', h1, by simpa using h2, fun j hj => ?_⟩
    rw [h3 j (by simpa using hj)]
    by_cases e : j = o
    · subst e
      rw [if_neg (by omega), if_pos (by simp)]
      simp [hj]
    · by_cases q : o + 1 ≤ j ∧ j < o + 1 + vs.length
      · rw [if_pos q, if_pos (by simp; omega), show j - o = (j - (o + 1)) + 1 by omega, List.getElem?_cons_succ]
      · rw [if_neg q, if_neg (by simp; omega), Array.getElem?_setIfInBounds_ne (by omega)]
theorem setCells_heap (b : Nat) (vs : List Value) (o : Nat) (w : World) (c : Nat) (h : c ≠ b) : (w.setCells b o vs).heap[c]? = w.heap[c]? := by
  induction vs generalizing o w with
  | nil => rfl
  | cons v vs ih => exact (ih (o + 1) _).trans (Below.heap_setCell w _ v c h)
theorem setCells_size (b : Nat) (vs : List Value) (o : Nat) (w : World) : (w.setCells b o vs).heap.size = w.heap.size := by
  induction vs generalizing o w with
  | nil => rfl
  | cons v vs ih => rw [World.setCells, ih]; simp [World.setCell]
theorem WRel.le_set {B : Base} {H : List Bk} {E : Env} {w : World} (h : WRel B H E w) {x c : Nat} (hx : E.σ x = some c) (vs : List Value) (o : Nat) : E.le w (w.setCells c o vs) E := ⟨fun _ h => h, fun k hk => by
  have ho := (h.own x c hx).2.2
  exact setCells_heap c vs o w k (fun e => ho (by rw [← e]; exact hk))⟩
/-- an own block gets another content -/
theorem WRel.put {B : Base} {H : List Bk} {E : Env} {w : World} (h : WRel B H E w) {x c : Nat} (hx : E.σ x = some c) {b b' : Bk} (hb : H[x]? = some b) (vs : List Value) (o : Nat) (hv : b'.ver (E.κ x)) (hnew : BRep (w.setCells c o vs) E x c b') :
    WRel B (H.set x b') E (w.setCells c o vs) ∧ E.le w (w.setCells c o vs) E := by
  obtain ⟨ho1, ho2, ho3⟩ := h.own x c hx
  have hle := h.le_set hx vs o
  have hxl : x < H.length := (List.getElem?_eq_some_iff.1 hb).1
  refine ⟨⟨h.inj, fun y k hy => ?_, h.wf, fun y b2 hy => ?_, fun y hy => h.out y (by simpa using hy), fun k hk => by rw [setCells_size]; exact h.good k hk, h.g0, h.gn, h.bel.trans (below_setCells ho1 vs o w), B.stab _ _ _ _ hle (Env.own.refl _) h.phi⟩, hle⟩
  · obtain ⟨h1, h2, h3⟩ := h.own y k hy
    exact ⟨h1, by rw [setCells_size]; exact h2, h3⟩
  · by_cases e : y = x
    · subst e
      rw [List.getElem?_set_self hxl] at hy
      cases hy
      refine .inr ⟨hv, fun k hk => ?_, fun hn => by rw [hn] at hx; cases hx⟩
      rw [hx] at hk
      cases hk
      exact hnew
    · rw [List.getElem?_set_ne (fun q => e q.symm)] at hy
      rcases h.heap y b2 hy with q | ⟨q1, q2, q3⟩
      · exact .inl q
      · exact .inr ⟨q1, fun k hk => (q2 k hk).move hle (Env.own.refl _) (setCells_heap c vs o w k fun e2 => e (h.inj _ _ _ hk (e2 ▸ hx))) rfl, q3⟩
/-- the store itself -/
theorem run_store_cells {P : Program} {w : World} {t : Nat} {ti : TI} (hT : TI.of P t = some ti) {c o : Nat} {cs : Array Value} {tt : TypeId} (hb : Blk w c cs tt) {v : Value} (hs : v.cells.size = ti.size) (hle : o + v.cells.size ≤ cs.size) (h1 : ∀ u ∈ v.cells.toList, u.oneCell' = true) :
    (Instr.storeAt t (.pointer (some ⟨c, o, none⟩)) v).run P w = .ok () (w.setCells c o v.cells.toList) := by
  obtain ⟨i, d, g1, _, _, g4, _, _⟩ := TI.of_spec hT
  have := run_storeCells_cells (P := P) c o v.cells.toList 0 w (fun j hj => by
    rw [hb.cell]; simp; simp at hj; omega) (fun j hj => hb.frozen _) h1
  simp only [Nat.add_zero] at this
  simp [Instr.storeAt, Instr.sureAddr, storeVar, sizeOf, typeInfo, g1, g4, hs, this]
def RE.mkUpd (r : RE) (i : IE) (off : Nat) (m : List D) : RE := match r, i with
  | .lits es, .lit k => .lits (es.modify k.toNat fun cs => over cs off m)
  | r, i => .upd r i off m
theorem RE.mkUpd_den (r : RE) (i : IE) (off : Nat) (m : List D) : (RE.mkUpd r i off m).den = r.den.modify i.den.toNat fun cs => over cs off m := by
  unfold RE.mkUpd
  split <;> simp [RE.den, IE.den]
def ltLit (i : IE) (r : RE) : Bool := match i, r with
  | .lit k, .lits es => decide (k.toNat < es.length)
  | _, _ => false
theorem ltLit_spec {i : IE} {r : RE} (h : ltLit i r = true) : i.den.toNat < r.den.length := by
  unfold ltLit at h
  split at h
  · simpa [IE.den, RE.den] using h
  · cases h
/-- what a store does to the blocks, and what follows -/
def sStore (T : Tab) (H : List Bk) (o : Oper) (t : Nat) (a d : D) (K : List Bk → Prop) : Prop := match T.get t, d.cells with
  | some ti, some m => if m.length = ti.size && m.all D.cellB then (match a with
    | .ptr b ver off => (match H[b]? with
      | some (.cells l) => if ver = 1 ∧ off + m.length ≤ l.length then K (H.set b (.cells (over l off m))) else StuckP o [a, d]
      | _ => StuckP o [a, d])
    | .rp n b ver i off => (match H[b]? with
      | some (.row ty n' ver' r) => if n' = n ∧ ver' = ver ∧ off + m.length ≤ n ∧ m.all (D.dataB 5) then ReqQ (ltLit i r) (fun _ => i.den.toNat < r.den.length) (K (H.set b (.row ty n ver (RE.mkUpd r i off m)))) else StuckP o [a, d]
      | _ => StuckP o [a, d])
    | _ => StuckP o [a, d]) else StuckP o [a, d]
  | _, _ => StuckP o [a, d]
/-- what an operation does that may write -/
def EEff (P : Program) (H : List Bk) (ρ : Operand → D) (o : Oper) (H' : List Bk) (d : D) : Prop :=
  ∀ (B : Base) (w : World) (E : Env) (ev : Operand → Value), (∀ x, DRep w E (ρ x) (ev x)) → WRel B H E w →
    ∃ nx v w' E', (execOp ev o).run P w = .ok nx w' ∧ (nx = .value v ∨ (nx = .skip ∧ v = undef)) ∧ WRel B H' E' w' ∧ E.le w w' E' ∧ E.own E' ∧ DRep w' E' d v ∧ ∀ y : Nat, H'[y]? = H[y]? → E'.σ y = E.σ y ∧ E'.κ y = E.κ y
section
variable {P : Program} {T : Tab} {H : List Bk} {ρ : Operand → D} {o : Oper}
theorem sStore_eff (hT : T.ok P) {t : Nat} {a x : Operand} (ho : o.op = .store t a x) {K : List Bk → Prop} (hk : sStore T H o t (ρ a) (ρ x) K) : ∃ H', EEff P H ρ o H' (.tup []) ∧ K H' := by
  have hx : ∀ ev : Operand → Value, execOp ev o = (do Instr.storeAt t (ev a) (ev x); pure .skip) := fun ev => by unfold execOp; rw [ho]
  have und : ∀ {w : World} {E : Env}, DRep w E (.tup []) undef := DRep.tup rfl fun i d v h => by simp at h
  unfold sStore at hk
  split at hk
  · next ti m hti hm =>
    have hti' := Tab.get_ok hT hti
    split at hk
    · next hc =>
      simp only [Bool.and_eq_true, decide_eq_true_eq, List.all_eq_true] at hc
      obtain ⟨hlen, hcell⟩ := hc
      have cellsOK : ∀ {w : World} {E : Env} {ev : Operand → Value}, (∀ x, DRep w E (ρ x) (ev x)) → (ev x).cells.size = m.length ∧ (∀ (i : Nat) e, m[i]? = some e → ∃ u, (ev x).cells[i]? = some u ∧ DRep w E e u) ∧ ∀ u ∈ (ev x).cells.toList, u.oneCell' = true := by
        intro w E ev hev
        obtain ⟨h1, h2⟩ := (hev x).cells hm
        refine ⟨h1, h2, fun u hu => ?_⟩
        obtain ⟨i, hi⟩ := List.getElem?_of_mem hu
        rw [Array.getElem?_toList] at hi
        have hlt := (Array.getElem?_eq_some_iff.1 hi).1
        obtain ⟨u', h3, h4⟩ := h2 i _ (List.getElem?_eq_getElem (by omega))
        rw [hi] at h3
        cases h3
        exact h4.one (hcell _ (List.getElem_mem _))
      split at hk
      · next b ver off hd =>
        split at hk
        · next l hl =>
          split at hk
          · next hcc =>
            obtain ⟨rfl, hle⟩ := hcc
            refine ⟨_, fun B w E ev hev hw => ?_, hk⟩
            have h1 := hev a
            rw [hd] at h1
            obtain ⟨c, hk1, hs1, hv1⟩ := ptr_at (by unfold Bk.at; rw [hl]; simp) hw.heap h1
            obtain ⟨h2, h3, h4⟩ := cellsOK hev
            rcases hw.heap b _ hl with q | ⟨_, q2, _⟩
            · omega
            · obtain ⟨cs, tt, g1, g2, gz, g3⟩ := q2 c hs1
              have hrun := run_store_cells hti' (c := c) (o := off) (w := w) (cs := cs) (tt := tt) g1 (v := ev x) (by omega) (by omega) h4
              obtain ⟨c', e1, e2, e3⟩ := setCells_blk (ev x).cells.toList off w cs g1 (by simp; omega)
              have hlen2 : (over l off m).length = l.length := by simp [over]; omega
              have hold := hw.le_set hs1 (ev x).cells.toList off
              obtain ⟨f1, f2⟩ := hw.put hs1 hl (b' := .cells (over l off m)) (ev x).cells.toList off (by rw [hk1]; rfl) ⟨c', tt, e1, by omega, by rw [hlen2]; exact gz, fun i d hdd => by
                have hi : i < l.length := by rw [← hlen2]; exact (List.getElem?_eq_some_iff.1 hdd).1
                rw [e3 i (by omega)]
                simp only [Array.length_toList, h2]
                unfold over at hdd
                rw [List.append_assoc] at hdd
                by_cases p1 : i < off
                · rw [if_neg (by omega)]
                  rw [List.getElem?_append_left (by simp; omega), List.getElem?_take, if_pos p1] at hdd
                  obtain ⟨v, k1, k2⟩ := g3 i d hdd
                  exact ⟨v, k1, k2.move hold (Env.own.refl _)⟩
                · rw [List.getElem?_append_right (by simp; omega)] at hdd
                  have e2' : i - (List.take off l).length = i - off := by simp; omega
                  rw [e2'] at hdd
                  by_cases p2 : i < off + m.length
                  · rw [if_pos ⟨by omega, p2⟩]
                    rw [List.getElem?_append_left (by omega)] at hdd
                    obtain ⟨u, k1, k2⟩ := h3 (i - off) d hdd
                    exact ⟨u, by rw [Array.getElem?_toList]; exact k1, k2.move hold (Env.own.refl _)⟩
                  · rw [if_neg (by omega)]
                    rw [List.getElem?_append_right (by omega), List.getElem?_drop] at hdd
                    rw [show off + m.length + (i - off - m.length) = i by omega] at hdd
                    obtain ⟨v, k1, k2⟩ := g3 i d hdd
                    exact ⟨v, k1, k2.move hold (Env.own.refl _)⟩⟩
              exact ⟨.skip, undef, _, E, by rw [hx, hv1]; simp [hrun], .inr ⟨rfl, rfl⟩, f1, f2, Env.own.refl _, und, fun _ _ => ⟨rfl, rfl⟩⟩
          · cases hk
        · cases hk
      · next n b ver i off hd =>
        split at hk
        · next ty n' ver' r hl =>
          split at hk
          · next hcc =>
            obtain ⟨rfl, rfl, hle, hdata⟩ := hcc
            obtain ⟨hlt, hk⟩ := ReqQ.get hk ltLit_spec
            refine ⟨_, fun B w E ev hev hw => ?_, hk⟩
            have h1 := hev a
            rw [hd] at h1
            obtain ⟨c, hk1, hs1, hi1, hv1⟩ := rp_at (by unfold Bk.at; rw [hl]; simp) hw.heap h1
            obtain ⟨h2, h3, h4⟩ := cellsOK hev
            rcases hw.heap b _ hl with q | ⟨_, q2, _⟩
            · rw [q.2] at hs1; cases hs1
            · obtain ⟨cs, tt, gt, g1, g2, g3, g4⟩ := q2 c hs1
              have hin : i.den.toNat * n' + n' ≤ cs.size := by
                have : (i.den.toNat + 1) * n' ≤ r.den.length * n' := Nat.mul_le_mul_right _ hlt
                rw [Nat.add_mul, Nat.one_mul] at this
                omega
              have hrun := run_store_cells hti' (c := c) (o := i.den.toNat * n' + off) (w := w) (cs := cs) (tt := tt) g1 (v := ev x) (by omega) (by omega) h4
              obtain ⟨c', e1, e2, e3⟩ := setCells_blk (ev x).cells.toList (i.den.toNat * n' + off) w cs g1 (by simp; omega)
              have hold := hw.le_set hs1 (ev x).cells.toList (i.den.toNat * n' + off)
              obtain ⟨f1, f2⟩ := hw.put hs1 hl (b' := .row ty n' ver' (RE.mkUpd r i off m)) (ev x).cells.toList (i.den.toNat * n' + off) (by rw [hk1]; rfl) ⟨c', tt, gt, e1, by omega, by simp only [RE.mkUpd_den, List.length_modify]; omega, fun k e he => by
                simp only [RE.mkUpd_den, List.getElem?_modify, Option.map_eq_map] at he
                by_cases p0 : i.den.toNat = k
                · subst p0
                  simp only [if_true, Option.map_eq_some_iff] at he
                  obtain ⟨e0, he0, rfl⟩ := he
                  obtain ⟨k1, k2⟩ := g4 _ _ he0
                  refine ⟨by simp [over]; omega, fun j d hdd => ?_⟩
                  have hj : j < n' := by
                    have := (List.getElem?_eq_some_iff.1 hdd).1
                    simp [over] at this
                    omega
                  rw [e3 _ (by omega)]
                  simp only [Array.length_toList, h2]
                  unfold over at hdd
                  rw [List.append_assoc] at hdd
                  by_cases p1 : j < off
                  · rw [if_neg (by omega)]
                    rw [List.getElem?_append_left (by simp; omega), List.getElem?_take, if_pos p1] at hdd
                    obtain ⟨v, k3, k4⟩ := k2 j d hdd
                    exact ⟨v, k3, k4.move hold.data Env.own.data⟩
                  · rw [List.getElem?_append_right (by simp; omega)] at hdd
                    have e2' : j - (List.take off e0).length = j - off := by simp; omega
                    rw [e2'] at hdd
                    by_cases p2 : j < off + m.length
                    · rw [if_pos ⟨by omega, by omega⟩]
                      rw [List.getElem?_append_left (by omega)] at hdd
                      obtain ⟨u, k3, k4⟩ := h3 (j - off) d hdd
                      refine ⟨u, by rw [Array.getElem?_toList, show i.den.toNat * n' + j - (i.den.toNat * n' + off) = j - off by omega]; exact k3, ?_⟩
                      exact (D.dataB_rep (E := E) (E' := E.data) rfl 5 (List.all_eq_true.1 hdata d (List.mem_of_getElem? hdd)) k4).move hold.data Env.own.data
                    · rw [if_neg (by omega)]
                      rw [List.getElem?_append_right (by omega), List.getElem?_drop] at hdd
                      rw [show off + m.length + (j - off - m.length) = j by omega] at hdd
                      obtain ⟨v, k3, k4⟩ := k2 j d hdd
                      exact ⟨v, k3, k4.move hold.data Env.own.data⟩
                · simp only [p0, if_false, Option.map_eq_some_iff] at he
                  have he0 : r.den[k]? = some e := by
                    obtain ⟨e0, q1, q2⟩ := he
                    rw [q1]; exact congrArg some q2
                  obtain ⟨k1, k2⟩ := g4 _ _ he0
                  refine ⟨k1, fun j d hdd => ?_⟩
                  have hj : j < n' := by rw [← k1]; exact (List.getElem?_eq_some_iff.1 hdd).1
                  obtain ⟨v, k3, k4⟩ := k2 j d hdd
                  have hb := (Array.getElem?_eq_some_iff.1 k3).1
                  refine ⟨v, ?_, k4.move hold.data Env.own.data⟩
                  rw [e3 _ hb, if_neg, k3]
                  simp only [Array.length_toList, h2]
                  rcases Nat.lt_or_ge k i.den.toNat with p1 | p1
                  · have : (k + 1) * n' ≤ i.den.toNat * n' := Nat.mul_le_mul_right _ p1
                    rw [Nat.add_mul, Nat.one_mul] at this
                    omega
                  · have : (i.den.toNat + 1) * n' ≤ k * n' := Nat.mul_le_mul_right _ (by omega)
                    rw [Nat.add_mul, Nat.one_mul] at this
                    omega⟩
              exact ⟨.skip, undef, _, E, by rw [hx, hv1]; simp [hrun], .inr ⟨rfl, rfl⟩, f1, f2, Env.own.refl _, und, fun _ _ => ⟨rfl, rfl⟩⟩
          · cases hk
        · cases hk
      · cases hk
    · cases hk
  · cases hk
end
/-- a function that gets another value at one place -/
def updA (f : Nat → Int) (i e : IE) (j : Nat) : Int := if j = i.den.toNat then e.den else f j
/-- stores into arrays that are functions -/
def sStore2 (T : Tab) (H : List Bk) (o : Oper) (t : Nat) (a d : D) (K : List Bk → Prop) : Prop := match a, d with
  | .ap m b i, .int k e => (match H[b]? with
    | some (.arr k' m' f) => if decide (k' = k) && decide (m' = m) && intT T t k then K (H.set b (.arr k m (updA f i e))) else StuckP o [a, d]
    | _ => StuckP o [a, d])
  | .ptr b ver 0, .arr k m g => (match H[b]? with
    | some (.arr k' m' _) => if decide (ver = 1) && decide (k' = k) && decide (m' = m) && arrT T t k m then K (H.set b (.arr k m g)) else StuckP o [a, d]
    | _ => StuckP o [a, d])
  | a, d => sStore T H o t a d K
section
variable {P : Program} {T : Tab} {H : List Bk} {ρ : Operand → D} {o : Oper}
theorem sStore2_eff (hT : T.ok P) {t : Nat} {a x : Operand} (ho : o.op = .store t a x) {K : List Bk → Prop} (hk : sStore2 T H o t (ρ a) (ρ x) K) : ∃ H', EEff P H ρ o H' (.tup []) ∧ K H' := by
  have hx : ∀ ev : Operand → Value, execOp ev o = (do Instr.storeAt t (ev a) (ev x); pure .skip) := fun ev => by unfold execOp; rw [ho]
  have und : ∀ {w : World} {E : Env}, DRep w E (.tup []) undef := DRep.tup rfl fun i d v h => by simp at h
  unfold sStore2 at hk
  split at hk
  · next m b i k e hd hdx =>
    split at hk
    · next k' m' f hb =>
      split at hk
      · next hc =>
        simp only [Bool.and_eq_true, decide_eq_true_eq] at hc
        obtain ⟨⟨rfl, rfl⟩, hc⟩ := hc
        obtain ⟨ti, h1, _, h3, _⟩ := intT_spec hT hc
        refine ⟨_, fun B w E ev hev hw => ?_, hk⟩
        have hva := hev a
        rw [hd] at hva
        have hvx := hev x
        rw [hdx] at hvx
        generalize hv : ev a = va at hva
        generalize hv2 : ev x = vx at hvx
        cases hvx with | int hin =>
        cases hva with
        | @ap _ _ _ _ c hκ hσ hi =>
          rcases hw.heap b _ hb with q | ⟨_, q2, _⟩
          · omega
          · obtain ⟨cs, tt, g1, g2, gz, g3⟩ := q2 c hσ
            have hrun := run_store_cells h1 (c := c) (o := i.den.toNat) (w := w) (cs := cs) (tt := tt) g1 (v := .int k' e.den) (by simp [Value.cells, h3]) (by simp [Value.cells]; omega) (by simp [Value.cells, Value.oneCell'])
            obtain ⟨c', e1, e2, e3⟩ := setCells_blk (Value.cells (.int k' e.den)).toList i.den.toNat w cs g1 (by simp [Value.cells]; omega)
            obtain ⟨f1, f2⟩ := hw.put hσ hb (b' := .arr k' m' (updA f i e)) (Value.cells (.int k' e.den)).toList i.den.toNat (by rw [hκ]; rfl) ⟨c', tt, e1, by omega, gz, fun j hj => by
              rw [e3 j (by omega)]
              obtain ⟨g4, g5⟩ := g3 j hj
              by_cases q : j = i.den.toNat
              · subst q
                simp only [updA, if_true]
                exact ⟨by simp [Value.cells], hin⟩
              · rw [if_neg (by simp [Value.cells]; omega)]
                simp only [updA, if_neg q]
                exact ⟨g4, g5⟩⟩
            exact ⟨.skip, undef, _, E, by rw [hx, hv, hv2]; simp [hrun], .inr ⟨rfl, rfl⟩, f1, f2, Env.own.refl _, und, fun _ _ => ⟨rfl, rfl⟩⟩
        | aps hκ =>
          rcases hw.heap b _ hb with q | ⟨q, _⟩
          · omega
          · simp only [Bk.ver] at q; omega
      · cases hk
    · cases hk
  · next b ver k m g hd hdx =>
    split at hk
    · next k' m' f hb =>
      split at hk
      · next hc =>
        simp only [Bool.and_eq_true, decide_eq_true_eq] at hc
        obtain ⟨⟨⟨rfl, rfl⟩, rfl⟩, hc⟩ := hc
        obtain ⟨ti, ee, te, h1, _, h3, _⟩ := arrT_spec hT hc
        refine ⟨_, fun B w E ev hev hw => ?_, hk⟩
        have hva := hev a
        rw [hd] at hva
        have hvx := hev x
        rw [hdx] at hvx
        obtain ⟨c, hκ, hσ, hv⟩ := ptr_at (by unfold Bk.at; rw [hb]; simp) hw.heap hva
        generalize hv2 : ev x = vx at hvx
        cases hvx with | @arr _ _ _ _ vs hs hh =>
        rcases hw.heap b _ hb with q | ⟨_, q2, _⟩
        · omega
        · obtain ⟨cs, tt, g1, g2, gz, g3⟩ := q2 c hσ
          have hone : ∀ u ∈ (Value.cells (.agg vs)).toList, u.oneCell' = true := fun u hu => by
            simp only [Value.cells] at hu
            obtain ⟨j, hj⟩ := List.getElem?_of_mem hu
            rw [Array.getElem?_toList] at hj
            have hjl := (Array.getElem?_eq_some_iff.1 hj).1
            obtain ⟨g4, _⟩ := hh j (by omega)
            rw [g4] at hj
            cases hj
            rfl
          have hrun := run_store_cells h1 (c := c) (o := 0) (w := w) (cs := cs) (tt := tt) g1 (v := .agg vs) (by simp [Value.cells, h3, hs]) (by simp [Value.cells]; omega) hone
          obtain ⟨c', e1, e2, e3⟩ := setCells_blk (Value.cells (.agg vs)).toList 0 w cs g1 (by simp [Value.cells]; omega)
          obtain ⟨f1, f2⟩ := hw.put hσ hb (b' := .arr k' m' g) (Value.cells (.agg vs)).toList 0 (by rw [hκ]; rfl) ⟨c', tt, e1, by omega, gz, fun j hj => by
            rw [e3 j (by omega), if_pos (by simp [Value.cells]; omega)]
            simp only [Value.cells, Nat.sub_zero, Array.getElem?_toList]
            exact hh j hj⟩
          exact ⟨.skip, undef, _, E, by rw [hx, hv, hv2]; simp [hrun], .inr ⟨rfl, rfl⟩, f1, f2, Env.own.refl _, und, fun _ _ => ⟨rfl, rfl⟩⟩
      · cases hk
    · cases hk
  · exact sStore_eff hT ho hk
end
end Go.Proofs.YtdhfakajlnidiaaGreat
namespace Go.Proofs.YtdhfakajlnidiaaGreat
open Go.RowKit

def Compat (H nw Hx : List Bk) : Prop := ∀ (x : Nat) (b : Bk), (H ++ nw)[x]? = some b → b = .dead ∨ Hx[x]? = some b
def Fresh (E : Env) (n m : Nat) : Prop := ∀ x, n ≤ x → x < m → E.σ x = none ∧ E.κ x = 0
/-- an operation that is quiet, among blocks of which some are not laid yet -/
def OpX (P : Program) (H : List Bk) (ρ : Operand → D) (o : Oper) (d : D) (nw : List Bk) : Prop :=
  ∀ (B : Base) (Hx : List Bk) (w : World) (E : Env) (a : Act), (∀ x, DRep w E (ρ x) (a.eval x)) → WRel B Hx E w → Compat H nw Hx → Fresh E H.length (H.length + nw.length) → ∀ (K : Act → World → Prop) (Q : Exit → Act → World → Prop),
    (∀ v w' E', WRel B Hx E' w' → E.le w w' E' → E.own E' → (∀ x, x < H.length ∨ H.length + nw.length ≤ x → E'.σ x = E.σ x ∧ E'.κ x = E.κ x) → DRep w' E' d v → K (a.put o.dst v) w') → o.wp P a w K Q
theorem Compat.heap {H nw Hx : List Bk} (h : Compat H nw Hx) {w : World} {E : Env} (hH : HRep w E Hx) : HRep w E H := fun x b hx => by
  have hlt := (List.getElem?_eq_some_iff.1 hx).1
  rcases h x b (by rw [List.getElem?_append_left hlt]; exact hx) with q | q
  · subst q
    exact .inr ⟨trivial, fun _ _ => trivial, fun _ => trivial⟩
  · exact hH x b q
theorem Compat.of {H nw Hx : List Bk} (h : Compat H nw Hx) {x : Nat} {b : Bk} (hb : (H ++ nw)[x]? = some b) (hd : b ≠ .dead) : Hx[x]? = some b := (h x b hb).resolve_left hd
theorem OpX.value {P : Program} {H : List Bk} {ρ : Operand → D} {o : Oper} {d : D} {nw : List Bk} (h : ∀ (B : Base) (Hx : List Bk) (w : World) (E : Env) (ev : Operand → Value), (∀ x, DRep w E (ρ x) (ev x)) → WRel B Hx E w → Compat H nw Hx → Fresh E H.length (H.length + nw.length) →
    ∃ v w' E', (execOp ev o).run P w = .ok (.value v) w' ∧ WRel B Hx E' w' ∧ E.le w w' E' ∧ E.own E' ∧ (∀ x, x < H.length ∨ H.length + nw.length ≤ x → E'.σ x = E.σ x ∧ E'.κ x = E.κ x) ∧ DRep w' E' d v) : OpX P H ρ o d nw := fun B Hx w E a hev hw hc hf K Q hk => by
  obtain ⟨v, w', E', h1, h2, h3, h4, h5, h6⟩ := h B Hx w E a.eval hev hw hc hf
  unfold Oper.wp
  rw [h1]
  exact hk v w' E' h2 h3 h4 h5 h6
theorem QR.effX {P : Program} {H : List Bk} {ρ : Operand → D} {o : Oper} {ds : List D} {K : D → List Bk → Prop} : ∀ (q : QR), q.good P H ρ o → q.run o ds H.length K → ∃ d nw, OpX P H ρ o d nw ∧ K d nw := by
  have ret : ∀ {d : D}, OpRet P H ρ o d → OpX P H ρ o d [] := fun {d} hg => OpX.value fun B Hx w E ev hev hw hc _ => by
    obtain ⟨v, h1, h2⟩ := hg w E ev hev hw.wf (hc.heap hw.heap)
    exact ⟨v, w, E, h1, hw, Env.le.refl _ _, Env.own.refl _, fun _ _ => ⟨rfl, rfl⟩, h2⟩
  intro q
  induction q with
  | ret d => exact fun hg hk => ⟨d, [], ret hg, hk⟩
  | req p r ih => exact fun hg hk => by obtain ⟨h1, h2⟩ := hk; exact ih (hg h1) (h2 h1)
  | elem c l i k =>
    intro hg hk
    obtain ⟨h0, h1⟩ := hk
    have hx : l[i.den.toNat]? = some (l[i.den.toNat]'(by omega)) := List.getElem?_eq_getElem (by omega)
    exact ⟨_, [], ret (hg h0.1 _ hx), h1 _ hx⟩
  | elemL l i k =>
    intro hg hk
    obtain ⟨h0, h1⟩ := hk
    have hx : l[i.den.toNat]? = some (l[i.den.toNat]'(by omega)) := List.getElem?_eq_getElem (by omega)
    exact ⟨_, [], ret (hg h0.1 _ hx), h1 _ hx⟩
  | newc l =>
    intro hg hk
    refine ⟨_, _, OpX.value fun B Hx w E ev hev hw hc hf => ?_, hk⟩
    obtain ⟨cs, t, h1, h2, h3⟩ := hg w E ev hev hw.wf (hc.heap hw.heap)
    obtain ⟨h4, h5⟩ := hw.layB (m := H.length) (z := l.length) (o := .cells cs t) (b0 := .cells l) (hc.of (by simp) (by simp)) (hf _ (Nat.le_refl _) (by simp)) rfl fun hle hown => ⟨cs, t, by show (w.heap.push _)[w.heap.size]? = _; simp, h2, by simp [Env.push], fun i d hd => by
      obtain ⟨v, q1, q2⟩ := h3 i d hd
      exact ⟨v, q1, q2.move hle hown⟩⟩
    exact ⟨_, _, _, h1, h4, hw.le_push _ _ _ _, h5, fun x hx => by simp only [List.length_cons, List.length_nil] at hx; simp only [Env.push]; rw [if_neg (by omega), if_neg (by omega)]; exact ⟨rfl, rfl⟩, .ptr (by simp [Env.push]) (by simp [Env.push])⟩
  | newd ty n es =>
    intro hg hk
    refine ⟨_, _, OpX.value fun B Hx w E ev hev hw hc hf => ?_, hk⟩
    obtain ⟨cs, h1, h2, _, h3⟩ := hg w E ev hev hw.wf (hc.heap hw.heap)
    refine ⟨_, _, _, h1, hw.pushd _, hw.le_data _ _, Env.own_data _ _, fun _ _ => ⟨rfl, rfl⟩, ?_⟩
    refine .sll (fun i j => (cs[i * n + j]?).getD undef) (Nat.le_refl _) h2 (fun x hx => ?_) ⟨_, 0, rfl, .inr rfl, fun i j hi hj => ?_⟩ fun i x j d hx hd => ?_
    · obtain ⟨i, hi⟩ := List.getElem?_of_mem hx
      exact (h3 i x hi).1
    · obtain ⟨h4, h5⟩ := h3 i _ (List.getElem?_eq_getElem hi)
      obtain ⟨v, h6, _⟩ := h5 j _ (List.getElem?_eq_getElem (by omega))
      rw [World.cell?_alloc_at _ _ _ _ rfl, Nat.zero_add, h6]
      rfl
    · obtain ⟨v, h6, h7⟩ := (h3 i x hx).2 j d hd
      rw [h6]
      exact h7.move (hw.le_data _ _).data Env.own.data
  | newr ty n r len =>
    intro hg hk
    refine ⟨_, _, OpX.value fun B Hx w E ev hev hw hc hf => ?_, hk⟩
    obtain ⟨cs, m, cap, h1, hmc, h2, h3, h6, h7, h8⟩ := hg w E ev hev hw.wf (hc.heap hw.heap)
    obtain ⟨h4, h5⟩ := hw.layB (m := H.length) (z := cs.size) (o := .cells cs ty) (b0 := .row ty n 1 r) (hc.of (by simp) (by simp)) (hf _ (Nat.le_refl _) (by simp)) rfl fun hle hown => ⟨cs, ty, .inr rfl, by show (w.heap.push _)[w.heap.size]? = _; simp, by simp [Env.push], by rw [h6, h7]; exact Nat.mul_le_mul_right _ hmc, fun i e he => by
      obtain ⟨q1, q2⟩ := h8 i e he
      exact ⟨q1, fun j d hd => by obtain ⟨v, q3, q4⟩ := q2 j d hd; exact ⟨v, q3, q4.move hle.data Env.own.data⟩⟩⟩
    refine ⟨_, _, _, h1, h4, hw.le_push _ _ _ _, h5, fun x hx => by simp only [List.length_cons, List.length_nil] at hx; simp only [Env.push]; rw [if_neg (by omega), if_neg (by omega)]; exact ⟨rfl, rfl⟩, ?_⟩
    have := DRep.oslc (w := w.alloc (.cells cs ty)) (E := E.push H.length w.heap.size cs.size) (n := n) (b := H.length) (ver := 1) (nb := .lit false) (lo := .lit 0) (len := len) (c := w.heap.size) (m := m) (cap := cap) (by simp [Env.push]) (by simp [Env.push]) rfl (by simp [IE.den]) h3 hmc h2 (by simp [IE.den, Env.push, h7])
    simpa [IE.den] using this
  | letb f k => exact fun hg hk => by obtain ⟨h⟩ := hk; exact ⟨_, [], ret hg, h _ rfl⟩
  | lets f k => exact fun hg hk => by obtain ⟨h⟩ := hk; exact ⟨_, [], ret hg, h _ rfl⟩
  | elemR r i k =>
    intro hg hk
    obtain ⟨h0, h1⟩ := hk
    have hx : r.den[i.den.toNat]? = some (r.den[i.den.toNat]'(by omega)) := List.getElem?_eq_getElem (by omega)
    exact ⟨_, [], ret (hg h0.1 _ hx), h1 _ hx⟩
  | leto f k0 k =>
    intro hg hk
    obtain ⟨h0, h⟩ := hk
    cases hf : f () with
    | none => exact ⟨_, [], ret (hg.1 hf), h0 hf⟩
    | some y => exact ⟨_, [], ret (hg.2 y hf), h y hf⟩
  | letd f k0 k =>
    intro hg hk
    obtain ⟨h0, h⟩ := hk
    cases hf : f () with
    | none => exact ⟨_, [], ret (hg.1 hf), h0 hf⟩
    | some y => exact ⟨_, [], ret (hg.2 y hf), h y hf⟩
  | newm kk =>
    intro hg hk
    refine ⟨_, _, OpX.value fun B Hx w E ev hev hw hc hf => ?_, hk⟩
    have h1 := hg w E ev hev hw.wf (hc.heap hw.heap)
    obtain ⟨h4, h5⟩ := hw.layB (m := H.length) (z := 0) (o := .map #[] 0) (b0 := .mp kk (.lits [])) (hc.of (by simp) (by simp)) (hf _ (Nat.le_refl _) (by simp)) rfl fun hle hown => ⟨#[], 0, heap_alloc_last w _, rfl, Nat.zero_le _, fun e he => by simp at he, fun x d h => by simp [ME.den, findE] at h, by simp, fun e he => by simp at he⟩
    exact ⟨_, _, _, h1, h4, hw.le_push _ _ _ _, h5, fun x hx => by simp only [List.length_cons, List.length_nil] at hx; simp only [Env.push]; rw [if_neg (by omega), if_neg (by omega)]; exact ⟨rfl, rfl⟩, .mapr (by simp [Env.push]) (by simp [Env.push])⟩
  | newa k m f =>
    intro hg hk
    refine ⟨_, _, OpX.value fun B Hx w E ev hev hw hc hf => ?_, hk⟩
    obtain ⟨cs, t, h1, h2, h3⟩ := hg w E ev hev hw.wf (hc.heap hw.heap)
    obtain ⟨h4, h5⟩ := hw.layB (m := H.length) (z := m) (o := .cells cs t) (b0 := .arr k m f) (hc.of (by simp) (by simp)) (hf _ (Nat.le_refl _) (by simp)) rfl fun hle hown => ⟨cs, t, by show (w.heap.push _)[w.heap.size]? = _; simp, h2, by simp [Env.push], h3⟩
    exact ⟨_, _, _, h1, h4, hw.le_push _ _ _ _, h5, fun x hx => by simp only [List.length_cons, List.length_nil] at hx; simp only [Env.push]; rw [if_neg (by omega), if_neg (by omega)]; exact ⟨rfl, rfl⟩, .ptr (by simp [Env.push]) (by simp [Env.push])⟩
  | letl f k => exact fun hg hk => by obtain ⟨h⟩ := hk; exact ⟨_, [], ret hg, h _ rfl⟩
  | stuck => exact fun _ hk => by cases hk
theorem OpX.toE {P : Program} {H : List Bk} {ρ : Operand → D} {o : Oper} {d : D} {nw : List Bk} {B : Base} {E : Env} {a : Act} {w : World} (h : OpX P H ρ o d nw) (hev : ∀ x, DRep w E (ρ x) (a.eval x)) (hw : WRel B H E w) {K : Act → World → Prop} {Q : Exit → Act → World → Prop}
    (hk : ∀ v w' E', WRel B (H ++ nw) E' w' → E.le w w' E' → E.own E' → DRep w' E' d v → K (a.put o.dst v) w') : o.wp P a w K Q :=
  h B (H ++ nw) w E a hev (hw.ext nw) (fun _ _ h => .inr h) (fun x h1 _ => hw.out x h1) K Q fun v w' E' h1 h2 h3 _ h5 => hk v w' E' h1 h2 h3 h5
end Go.Proofs.YtdhfakajlnidiaaGreat
