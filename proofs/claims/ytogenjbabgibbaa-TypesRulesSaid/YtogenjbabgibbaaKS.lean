import Derived.Test.YtogenjbabgibbaaKR
import Derived.Test.YtogenjbabgibbaaOwnL
namespace Go.Proofs.Ytogenjbabgibbaa
open Go.RowKit
abbrev AtomD.val (m : AtomD) : Value := .agg #[.int .i64 m.op, .string m.a.name, .string m.a.path, .int .i64 m.a.var, .int .i64 m.a.field, .int .i64 m.a.n, .string m.b.name, .string m.b.path, .int .i64 m.b.var, .int .i64 m.b.field, .int .i64 m.b.n]
def ordOK (op : Int) (y : TyD) : Bool := !(decide (op = 2) || decide (op = 3)) || ordB y
def atomTys (s : SourceD) (fs : List FromD) (m : AtomD) : List TyD := [m.a, m.b].filterMap fun t => termTy? s fs t fs.length
def okT (s : SourceD) (fs : List FromD) (t : TermD) : Bool := (termTy? s fs t fs.length).isSome || isNumB t
def pairOK (us : List UnitD) : List TyD → Bool
  | [] => false
  | [y, z] => cmpB us y z
  | _ => true
def atomB (s : SourceD) (fs : List FromD) (m : AtomD) : Bool :=
  decide (1 ≤ m.op) && decide (m.op ≤ 4) && ([m.a, m.b].all (okT s fs) && (pairOK s.units (atomTys s fs m) && (atomTys s fs m).all (ordOK m.op)))
/-- all types of fields are valid -/
def Good (s : SourceD) : Prop := ∀ i j t, typeOf? s i j = some t → kindB t s.units.length = true
theorem kindB_in {us : List UnitD} {t : TyD} (h : kindB t us.length = true) : unitIn us t := fun _ => kindB_unit h
theorem atomTys_mem {s : SourceD} {fs : List FromD} {m : AtomD} {y : TyD} (h : y ∈ atomTys s fs m) : ∃ t, termTy? s fs t fs.length = some y := by
  unfold atomTys at h
  rw [List.mem_filterMap] at h
  obtain ⟨t, _, ht⟩ := h
  exact ⟨t, ht⟩
theorem termTy_good {s : SourceD} (h : Good s) {fs : List FromD} {t : TermD} {n : Int} {y : TyD} (hy : termTy? s fs t n = some y) : unitIn s.units y := by
  unfold termTy? at hy
  split at hy
  · split at hy
    · exact kindB_in (h _ _ _ hy)
    · cases hy
  · cases hy
abbrev TX := TyD × Option Addr × Nat
def encT (x : TX) : List Value := [.int .i64 x.1.kind, .int .i64 x.1.lo, .int .i64 x.1.hi, .string x.1.of_, .int .i64 x.1.unit, .slice x.2.1 x.1.names.length x.2.2]
theorem encT_len (x : TX) : (encT x).length = 6 := rfl
theorem info71 : (Try.prog.info? 71).map (fun i => (i.zero, i.size, i.bytes)) = some (some (.agg #[.int .i64 0, .int .i64 0, .int .i64 0, .string ⟨#[]⟩, .int .i64 0, .slice none 0 0]), 6, 72) := by kernel_rfl
theorem cmp_eq (s : SourceD) (p : SrcAt) (a b : TyD) (aa ab : Option Addr) (ka kb : Nat) (w : World) (hs : Src w s p) (ha : Sl 1 RStr w aa a.names) (hb : Sl 1 RStr w ab b.names) (hl : a.names.length ≤ 100000)
    (ua : unitIn s.units a) (ub : unitIn s.units b) (r : Bool) (hr : cmpB s.units a b = r) :
    Calls Try.prog 43 #[s.val p, a.val aa ka, b.val ab kb] w fun e w' => e = .returned (.bool r) ∧ Below w.heap.size w w' := by
  subst hr
  exact cmp_any s p a b aa ab ka kb w hs ha hb hl ua ub
set_option maxRecDepth 20000 in
set_option maxHeartbeats 8000000 in
theorem atomOK_any (s : SourceD) (p : SrcAt) (r : RuleD) (q : RuleAt) (m : AtomD) (wb : World) (hs : Src wb s p) (hr : Rul wb r q) (w : World) (hbb : Below wb.heap.size wb w) (hsh : Short s) (hgd : Good s) :
    Calls Try.prog 54 #[rcVal s p r q, m.val] w fun e w' => e = .returned (.bool (atomB s r.froms m)) ∧ Below w.heap.size w w' := by
  have Hs := Lib.hid hs
  have Hr := Lib.hid hr
  have Hbb := Lib.hid hbb
  clear hs hr hbb
  by_cases hop : 1 ≤ m.op ∧ m.op ≤ 4
  case neg =>
    have Hop := Lib.hid hop
    clear hop
    go_enter Try.func54, Try.ntmps54
    go_wp2_with fail
    all_goals (try (exfalso; have := Hop.out; omega))
    all_goals go_ret
    all_goals exact ⟨ret_bool (by have := Hop.out; simp [atomB]; intros; omega), by (repeat (first | exact Below.refl _ _ | refine Below.alloc ?_ (by first | (simp; done) | (simp; omega)) _ | refine Below.setCell ?_ (by first | (simp; done) | (simp; omega)) _ | refine below_drewN ?_ _))⟩
  obtain ⟨hop1, hop2⟩ := hop
  have hab : atomB s r.froms m = ([m.a, m.b].all (okT s r.froms) && (pairOK s.units (atomTys s r.froms m) && (atomTys s r.froms m).all (ordOK m.op))) := by unfold atomB; simp [hop1, hop2]
  have Hab := Lib.hid hab
  clear hab
  obtain ⟨i0, hi, hz0, hz1, hz2⟩ := info_split info71
  go_enter Try.func54, Try.ntmps54
  go_wp2_with fail
  all_goals (try (exfalso; omega))
  generalize hw0 : World.alloc _ _ = w0
  obtain ⟨X0, X1, X2, hsz, hb0⟩ := blk3 hw0
  have x0 : w0.cell? ⟨w.heap.size, 0, none⟩ = some (.slice p.a0 s.issuers.length p.k0) := X0.cell 0
  have x1 : w0.cell? ⟨w.heap.size, 1, none⟩ = some (.slice p.a1 s.units.length p.k1) := X0.cell 1
  have x2 : w0.cell? ⟨w.heap.size, 2, none⟩ = some (.slice p.a2 s.schemas.length p.k2) := X0.cell 2
  have x3 : w0.cell? ⟨w.heap.size, 3, none⟩ = some (.slice p.a3 s.rules.length p.k3) := X0.cell 3
  have x4 : w0.cell? ⟨w.heap.size, 4, none⟩ = some (.slice p.a4 s.converts p.k4) := X0.cell 4
  have x5 : w0.cell? ⟨w.heap.size, 5, none⟩ = some (.slice p.a5 s.purposes.length p.k5) := X0.cell 5
  have x6 : w0.cell? ⟨w.heap.size, 6, none⟩ = some (.string r.head) := X0.cell 6
  have x7 : w0.cell? ⟨w.heap.size, 7, none⟩ = some (.int .i64 r.schema) := X0.cell 7
  have x8 : w0.cell? ⟨w.heap.size, 8, none⟩ = some (.slice q.a2 r.froms.length q.k2) := X0.cell 8
  have x9 : w0.cell? ⟨w.heap.size, 9, none⟩ = some (.slice q.a3 r.where_.length q.k3) := X0.cell 9
  have x10 : w0.cell? ⟨w.heap.size, 10, none⟩ = some (.slice q.a4 r.sets.length q.k4) := X0.cell 10
  have hl_x : w.heap.size < w0.heap.size := by omega
  have y0 : w0.cell? ⟨w.heap.size + 1, 0, none⟩ = some (.int .i64 m.op) := X1.cell 0
  have y1 : w0.cell? ⟨w.heap.size + 1, 1, none⟩ = some (.string m.a.name) := X1.cell 1
  have y2 : w0.cell? ⟨w.heap.size + 1, 2, none⟩ = some (.string m.a.path) := X1.cell 2
  have y3 : w0.cell? ⟨w.heap.size + 1, 3, none⟩ = some (.int .i64 m.a.var) := X1.cell 3
  have y4 : w0.cell? ⟨w.heap.size + 1, 4, none⟩ = some (.int .i64 m.a.field) := X1.cell 4
  have y5 : w0.cell? ⟨w.heap.size + 1, 5, none⟩ = some (.int .i64 m.a.n) := X1.cell 5
  have y6 : w0.cell? ⟨w.heap.size + 1, 6, none⟩ = some (.string m.b.name) := X1.cell 6
  have y7 : w0.cell? ⟨w.heap.size + 1, 7, none⟩ = some (.string m.b.path) := X1.cell 7
  have y8 : w0.cell? ⟨w.heap.size + 1, 8, none⟩ = some (.int .i64 m.b.var) := X1.cell 8
  have y9 : w0.cell? ⟨w.heap.size + 1, 9, none⟩ = some (.int .i64 m.b.field) := X1.cell 9
  have y10 : w0.cell? ⟨w.heap.size + 1, 10, none⟩ = some (.int .i64 m.b.n) := X1.cell 10
  have hl_y : w.heap.size + 1 < w0.heap.size := by omega
  have z0 : w0.cell? ⟨w.heap.size + 1 + 1, 0, none⟩ = some (.string m.a.name) := X2.cell 0
  have z1 : w0.cell? ⟨w.heap.size + 1 + 1, 1, none⟩ = some (.string m.a.path) := X2.cell 1
  have z2 : w0.cell? ⟨w.heap.size + 1 + 1, 2, none⟩ = some (.int .i64 m.a.var) := X2.cell 2
  have z3 : w0.cell? ⟨w.heap.size + 1 + 1, 3, none⟩ = some (.int .i64 m.a.field) := X2.cell 3
  have z4 : w0.cell? ⟨w.heap.size + 1 + 1, 4, none⟩ = some (.int .i64 m.a.n) := X2.cell 4
  have z5 : w0.cell? ⟨w.heap.size + 1 + 1, 5, none⟩ = some (.string m.b.name) := X2.cell 5
  have z6 : w0.cell? ⟨w.heap.size + 1 + 1, 6, none⟩ = some (.string m.b.path) := X2.cell 6
  have z7 : w0.cell? ⟨w.heap.size + 1 + 1, 7, none⟩ = some (.int .i64 m.b.var) := X2.cell 7
  have z8 : w0.cell? ⟨w.heap.size + 1 + 1, 8, none⟩ = some (.int .i64 m.b.field) := X2.cell 8
  have z9 : w0.cell? ⟨w.heap.size + 1 + 1, 9, none⟩ = some (.int .i64 m.b.n) := X2.cell 9
  have hl_z : w.heap.size + 1 + 1 < w0.heap.size := by omega
  have hwl : w.heap.size ≤ w0.heap.size := hb0.size
  have Hb := Lib.hid hb0
  clear hw0 hb0 hsz X0 X1 X2
  go_loopw [5, 27] (fun v i wr => ∃ (k : Nat) (L : List TX), k ≤ 2 ∧ i = .int .i64 k ∧ Hid (OwnL 6 encT 71 wr w0.heap.size v L) ∧ Hid (L.map (·.1) = ([m.a, m.b].take k).filterMap fun t => termTy? s r.froms t r.froms.length) ∧ Hid (∀ x ∈ L, Sl 1 RStr wb x.2.1 x.1.names) ∧ Hid (∀ t ∈ [m.a, m.b].take k, okT s r.froms t = true) ∧ Below w0.heap.size w0 wr) (fun _ i _ => 2 - (intOf i).toNat)
  case atStart => exact ⟨0, [], Nat.zero_le _, rfl, Lib.hid (OwnL.nil _ _), Lib.hid rfl, Lib.hid (fun x hx => by simp at hx), Lib.hid (fun x hx => by simp at hx), Below.refl _ _⟩
  case round =>
    obtain ⟨k, L, hk, rfl, HO, HL, HN, HK, hb1⟩ := hrel
    have Hb1 := Lib.hid hb1
    have hwl1 := hb1.size
    replace x0 := cell_kept hb1 x0 hl_x
    replace x1 := cell_kept hb1 x1 hl_x
    replace x2 := cell_kept hb1 x2 hl_x
    replace x3 := cell_kept hb1 x3 hl_x
    replace x4 := cell_kept hb1 x4 hl_x
    replace x5 := cell_kept hb1 x5 hl_x
    replace x6 := cell_kept hb1 x6 hl_x
    replace x7 := cell_kept hb1 x7 hl_x
    replace x8 := cell_kept hb1 x8 hl_x
    replace x9 := cell_kept hb1 x9 hl_x
    replace x10 := cell_kept hb1 x10 hl_x
    replace y0 := cell_kept hb1 y0 hl_y
    replace y1 := cell_kept hb1 y1 hl_y
    replace y2 := cell_kept hb1 y2 hl_y
    replace y3 := cell_kept hb1 y3 hl_y
    replace y4 := cell_kept hb1 y4 hl_y
    replace y5 := cell_kept hb1 y5 hl_y
    replace y6 := cell_kept hb1 y6 hl_y
    replace y7 := cell_kept hb1 y7 hl_y
    replace y8 := cell_kept hb1 y8 hl_y
    replace y9 := cell_kept hb1 y9 hl_y
    replace y10 := cell_kept hb1 y10 hl_y
    replace z0 := cell_kept hb1 z0 hl_z
    replace z1 := cell_kept hb1 z1 hl_z
    replace z2 := cell_kept hb1 z2 hl_z
    replace z3 := cell_kept hb1 z3 hl_z
    replace z4 := cell_kept hb1 z4 hl_z
    replace z5 := cell_kept hb1 z5 hl_z
    replace z6 := cell_kept hb1 z6 hl_z
    replace z7 := cell_kept hb1 z7 hl_z
    replace z8 := cell_kept hb1 z8 hl_z
    replace z9 := cell_kept hb1 z9 hl_z
    replace Hb := Lib.hid (Hb.out.trans (hb1.mono hwl))
    replace hl_x := Nat.lt_of_lt_of_le hl_x hb1.size
    replace hl_y := Nat.lt_of_lt_of_le hl_y hb1.size
    replace hl_z := Nat.lt_of_lt_of_le hl_z hb1.size
    replace hwl := Nat.le_trans hwl hb1.size
    clear hb1
    by_cases hlt : k < 2
    case pos =>
      obtain ⟨t, htk, c0, c1, c2, c3, c4⟩ : ∃ t : TermD, [m.a, m.b][k]? = some t ∧ wr.cell? ⟨w.heap.size + 1 + 1, k * 5, none⟩ = some (.string t.name) ∧ wr.cell? ⟨w.heap.size + 1 + 1, k * 5 + 1, none⟩ = some (.string t.path) ∧ wr.cell? ⟨w.heap.size + 1 + 1, k * 5 + 2, none⟩ = some (.int .i64 t.var) ∧ wr.cell? ⟨w.heap.size + 1 + 1, k * 5 + 3, none⟩ = some (.int .i64 t.field) ∧ wr.cell? ⟨w.heap.size + 1 + 1, k * 5 + 4, none⟩ = some (.int .i64 t.n) := by
        rcases (show k = 0 ∨ k = 1 by omega) with rfl | rfl
        · exact ⟨m.a, rfl, z0, z1, z2, z3, z4⟩
        · exact ⟨m.b, rfl, z5, z6, z7, z8, z9⟩
      have htake : [m.a, m.b].take (k + 1) = [m.a, m.b].take k ++ [t] := by rw [List.take_add_one, htk]; rfl
      have hLk : L.length ≤ k := by
        have h1 := congrArg List.length HL.out
        have h2 := List.length_filterMap_le (fun t => termTy? s r.froms t r.froms.length) ([m.a, m.b].take k)
        simp only [List.length_map] at h1
        rw [List.length_take] at h2
        omega
      have Htake := Lib.hid htake
      have Htk := Lib.hid htk
      clear htake htk
      have hlt' : (k : Int) < 2 := by omega
      go_wp2_with fail
      clear c0 c1 c2 c3 c4
      generalize hw0 : World.alloc _ _ = w2
      obtain ⟨X0, hsz, hb1⟩ := blk1 hw0
      have v0 : w2.cell? ⟨wr.heap.size, 0, none⟩ = some (.string t.name) := X0.cell 0
      have v1 : w2.cell? ⟨wr.heap.size, 1, none⟩ = some (.string t.path) := X0.cell 1
      have v2 : w2.cell? ⟨wr.heap.size, 2, none⟩ = some (.int .i64 t.var) := X0.cell 2
      have v3 : w2.cell? ⟨wr.heap.size, 3, none⟩ = some (.int .i64 t.field) := X0.cell 3
      have v4 : w2.cell? ⟨wr.heap.size, 4, none⟩ = some (.int .i64 t.n) := X0.cell 4
      have hl_v : wr.heap.size < w2.heap.size := by omega
      replace x0 := cell_kept hb1 x0 hl_x
      replace x1 := cell_kept hb1 x1 hl_x
      replace x2 := cell_kept hb1 x2 hl_x
      replace x3 := cell_kept hb1 x3 hl_x
      replace x4 := cell_kept hb1 x4 hl_x
      replace x5 := cell_kept hb1 x5 hl_x
      replace x6 := cell_kept hb1 x6 hl_x
      replace x7 := cell_kept hb1 x7 hl_x
      replace x8 := cell_kept hb1 x8 hl_x
      replace x9 := cell_kept hb1 x9 hl_x
      replace x10 := cell_kept hb1 x10 hl_x
      replace y0 := cell_kept hb1 y0 hl_y
      replace y1 := cell_kept hb1 y1 hl_y
      replace y2 := cell_kept hb1 y2 hl_y
      replace y3 := cell_kept hb1 y3 hl_y
      replace y4 := cell_kept hb1 y4 hl_y
      replace y5 := cell_kept hb1 y5 hl_y
      replace y6 := cell_kept hb1 y6 hl_y
      replace y7 := cell_kept hb1 y7 hl_y
      replace y8 := cell_kept hb1 y8 hl_y
      replace y9 := cell_kept hb1 y9 hl_y
      replace y10 := cell_kept hb1 y10 hl_y
      replace z0 := cell_kept hb1 z0 hl_z
      replace z1 := cell_kept hb1 z1 hl_z
      replace z2 := cell_kept hb1 z2 hl_z
      replace z3 := cell_kept hb1 z3 hl_z
      replace z4 := cell_kept hb1 z4 hl_z
      replace z5 := cell_kept hb1 z5 hl_z
      replace z6 := cell_kept hb1 z6 hl_z
      replace z7 := cell_kept hb1 z7 hl_z
      replace z8 := cell_kept hb1 z8 hl_z
      replace z9 := cell_kept hb1 z9 hl_z
      replace Hb := Lib.hid (Hb.out.trans (hb1.mono hwl))
      replace Hb1 := Lib.hid (Hb1.out.trans (hb1.mono hwl1))
      replace hl_x := Nat.lt_of_lt_of_le hl_x hb1.size
      replace hl_y := Nat.lt_of_lt_of_le hl_y hb1.size
      replace hl_z := Nat.lt_of_lt_of_le hl_z hb1.size
      replace hwl := Nat.le_trans hwl hb1.size
      replace hwl1 := Nat.le_trans hwl1 hb1.size
      replace HO := Lib.hid (HO.out.below hb1)
      clear hb1
      clear hw0 hsz X0
      refine (termType_any s p r q t r.froms.length wb Hs.out Hr.out _ (Hbb.out.trans (Hb.out.mono Hbb.out.size)) (Int.le_refl _)).mono ?_
      cases htt : termTy? s r.froms t r.froms.length with
      | none =>
        rintro e w3 ⟨⟨ty, an, kn, rfl⟩, hb1⟩
        replace x0 := cell_kept hb1 x0 hl_x
        replace x1 := cell_kept hb1 x1 hl_x
        replace x2 := cell_kept hb1 x2 hl_x
        replace x3 := cell_kept hb1 x3 hl_x
        replace x4 := cell_kept hb1 x4 hl_x
        replace x5 := cell_kept hb1 x5 hl_x
        replace x6 := cell_kept hb1 x6 hl_x
        replace x7 := cell_kept hb1 x7 hl_x
        replace x8 := cell_kept hb1 x8 hl_x
        replace x9 := cell_kept hb1 x9 hl_x
        replace x10 := cell_kept hb1 x10 hl_x
        replace y0 := cell_kept hb1 y0 hl_y
        replace y1 := cell_kept hb1 y1 hl_y
        replace y2 := cell_kept hb1 y2 hl_y
        replace y3 := cell_kept hb1 y3 hl_y
        replace y4 := cell_kept hb1 y4 hl_y
        replace y5 := cell_kept hb1 y5 hl_y
        replace y6 := cell_kept hb1 y6 hl_y
        replace y7 := cell_kept hb1 y7 hl_y
        replace y8 := cell_kept hb1 y8 hl_y
        replace y9 := cell_kept hb1 y9 hl_y
        replace y10 := cell_kept hb1 y10 hl_y
        replace z0 := cell_kept hb1 z0 hl_z
        replace z1 := cell_kept hb1 z1 hl_z
        replace z2 := cell_kept hb1 z2 hl_z
        replace z3 := cell_kept hb1 z3 hl_z
        replace z4 := cell_kept hb1 z4 hl_z
        replace z5 := cell_kept hb1 z5 hl_z
        replace z6 := cell_kept hb1 z6 hl_z
        replace z7 := cell_kept hb1 z7 hl_z
        replace z8 := cell_kept hb1 z8 hl_z
        replace z9 := cell_kept hb1 z9 hl_z
        replace v0 := cell_kept hb1 v0 hl_v
        replace v1 := cell_kept hb1 v1 hl_v
        replace v2 := cell_kept hb1 v2 hl_v
        replace v3 := cell_kept hb1 v3 hl_v
        replace v4 := cell_kept hb1 v4 hl_v
        replace Hb := Lib.hid (Hb.out.trans (hb1.mono hwl))
        replace Hb1 := Lib.hid (Hb1.out.trans (hb1.mono hwl1))
        replace hl_x := Nat.lt_of_lt_of_le hl_x hb1.size
        replace hl_y := Nat.lt_of_lt_of_le hl_y hb1.size
        replace hl_z := Nat.lt_of_lt_of_le hl_z hb1.size
        replace hl_v := Nat.lt_of_lt_of_le hl_v hb1.size
        replace hwl := Nat.le_trans hwl hb1.size
        replace hwl1 := Nat.le_trans hwl1 hb1.size
        replace HO := Lib.hid (HO.out.below hb1)
        clear hb1
        go_wp2_with fail
        generalize hw0 : World.alloc _ _ = w4
        obtain ⟨X0, hsz, hb1⟩ := blk1 hw0
        have u0 : w4.cell? ⟨w3.heap.size, 0, none⟩ = some (.int .i64 ty.kind) := X0.cell 0
        have u1 : w4.cell? ⟨w3.heap.size, 1, none⟩ = some (.int .i64 ty.lo) := X0.cell 1
        have u2 : w4.cell? ⟨w3.heap.size, 2, none⟩ = some (.int .i64 ty.hi) := X0.cell 2
        have u3 : w4.cell? ⟨w3.heap.size, 3, none⟩ = some (.string ty.of_) := X0.cell 3
        have u4 : w4.cell? ⟨w3.heap.size, 4, none⟩ = some (.int .i64 ty.unit) := X0.cell 4
        have u5 : w4.cell? ⟨w3.heap.size, 5, none⟩ = some (.slice an ty.names.length kn) := X0.cell 5
        have hl_u : w3.heap.size < w4.heap.size := by omega
        replace x0 := cell_kept hb1 x0 hl_x
        replace x1 := cell_kept hb1 x1 hl_x
        replace x2 := cell_kept hb1 x2 hl_x
        replace x3 := cell_kept hb1 x3 hl_x
        replace x4 := cell_kept hb1 x4 hl_x
        replace x5 := cell_kept hb1 x5 hl_x
        replace x6 := cell_kept hb1 x6 hl_x
        replace x7 := cell_kept hb1 x7 hl_x
        replace x8 := cell_kept hb1 x8 hl_x
        replace x9 := cell_kept hb1 x9 hl_x
        replace x10 := cell_kept hb1 x10 hl_x
        replace y0 := cell_kept hb1 y0 hl_y
        replace y1 := cell_kept hb1 y1 hl_y
        replace y2 := cell_kept hb1 y2 hl_y
        replace y3 := cell_kept hb1 y3 hl_y
        replace y4 := cell_kept hb1 y4 hl_y
        replace y5 := cell_kept hb1 y5 hl_y
        replace y6 := cell_kept hb1 y6 hl_y
        replace y7 := cell_kept hb1 y7 hl_y
        replace y8 := cell_kept hb1 y8 hl_y
        replace y9 := cell_kept hb1 y9 hl_y
        replace y10 := cell_kept hb1 y10 hl_y
        replace z0 := cell_kept hb1 z0 hl_z
        replace z1 := cell_kept hb1 z1 hl_z
        replace z2 := cell_kept hb1 z2 hl_z
        replace z3 := cell_kept hb1 z3 hl_z
        replace z4 := cell_kept hb1 z4 hl_z
        replace z5 := cell_kept hb1 z5 hl_z
        replace z6 := cell_kept hb1 z6 hl_z
        replace z7 := cell_kept hb1 z7 hl_z
        replace z8 := cell_kept hb1 z8 hl_z
        replace z9 := cell_kept hb1 z9 hl_z
        replace v0 := cell_kept hb1 v0 hl_v
        replace v1 := cell_kept hb1 v1 hl_v
        replace v2 := cell_kept hb1 v2 hl_v
        replace v3 := cell_kept hb1 v3 hl_v
        replace v4 := cell_kept hb1 v4 hl_v
        replace Hb := Lib.hid (Hb.out.trans (hb1.mono hwl))
        replace Hb1 := Lib.hid (Hb1.out.trans (hb1.mono hwl1))
        replace hl_x := Nat.lt_of_lt_of_le hl_x hb1.size
        replace hl_y := Nat.lt_of_lt_of_le hl_y hb1.size
        replace hl_z := Nat.lt_of_lt_of_le hl_z hb1.size
        replace hl_v := Nat.lt_of_lt_of_le hl_v hb1.size
        replace hwl := Nat.le_trans hwl hb1.size
        replace hwl1 := Nat.le_trans hwl1 hb1.size
        replace HO := Lib.hid (HO.out.below hb1)
        clear hb1
        clear hw0 hsz X0
        refine (isNum_any t _).mono ?_
        rintro e w5 ⟨rfl, hb1⟩
        replace x0 := cell_kept hb1 x0 hl_x
        replace x1 := cell_kept hb1 x1 hl_x
        replace x2 := cell_kept hb1 x2 hl_x
        replace x3 := cell_kept hb1 x3 hl_x
        replace x4 := cell_kept hb1 x4 hl_x
        replace x5 := cell_kept hb1 x5 hl_x
        replace x6 := cell_kept hb1 x6 hl_x
        replace x7 := cell_kept hb1 x7 hl_x
        replace x8 := cell_kept hb1 x8 hl_x
        replace x9 := cell_kept hb1 x9 hl_x
        replace x10 := cell_kept hb1 x10 hl_x
        replace y0 := cell_kept hb1 y0 hl_y
        replace y1 := cell_kept hb1 y1 hl_y
        replace y2 := cell_kept hb1 y2 hl_y
        replace y3 := cell_kept hb1 y3 hl_y
        replace y4 := cell_kept hb1 y4 hl_y
        replace y5 := cell_kept hb1 y5 hl_y
        replace y6 := cell_kept hb1 y6 hl_y
        replace y7 := cell_kept hb1 y7 hl_y
        replace y8 := cell_kept hb1 y8 hl_y
        replace y9 := cell_kept hb1 y9 hl_y
        replace y10 := cell_kept hb1 y10 hl_y
        replace z0 := cell_kept hb1 z0 hl_z
        replace z1 := cell_kept hb1 z1 hl_z
        replace z2 := cell_kept hb1 z2 hl_z
        replace z3 := cell_kept hb1 z3 hl_z
        replace z4 := cell_kept hb1 z4 hl_z
        replace z5 := cell_kept hb1 z5 hl_z
        replace z6 := cell_kept hb1 z6 hl_z
        replace z7 := cell_kept hb1 z7 hl_z
        replace z8 := cell_kept hb1 z8 hl_z
        replace z9 := cell_kept hb1 z9 hl_z
        replace v0 := cell_kept hb1 v0 hl_v
        replace v1 := cell_kept hb1 v1 hl_v
        replace v2 := cell_kept hb1 v2 hl_v
        replace v3 := cell_kept hb1 v3 hl_v
        replace v4 := cell_kept hb1 v4 hl_v
        replace u0 := cell_kept hb1 u0 hl_u
        replace u1 := cell_kept hb1 u1 hl_u
        replace u2 := cell_kept hb1 u2 hl_u
        replace u3 := cell_kept hb1 u3 hl_u
        replace u4 := cell_kept hb1 u4 hl_u
        replace u5 := cell_kept hb1 u5 hl_u
        replace Hb := Lib.hid (Hb.out.trans (hb1.mono hwl))
        replace Hb1 := Lib.hid (Hb1.out.trans (hb1.mono hwl1))
        replace hl_x := Nat.lt_of_lt_of_le hl_x hb1.size
        replace hl_y := Nat.lt_of_lt_of_le hl_y hb1.size
        replace hl_z := Nat.lt_of_lt_of_le hl_z hb1.size
        replace hl_v := Nat.lt_of_lt_of_le hl_v hb1.size
        replace hl_u := Nat.lt_of_lt_of_le hl_u hb1.size
        replace hwl := Nat.le_trans hwl hb1.size
        replace hwl1 := Nat.le_trans hwl1 hb1.size
        replace HO := Lib.hid (HO.out.below hb1)
        clear hb1
        cases hnum : isNumB t with
        | false =>
          go_wp2
          go_ret
          refine ⟨ret_bool ?_, Hb.out⟩
          have : [m.a, m.b].all (okT s r.froms) = false := by
            rw [List.all_eq_false]
            exact ⟨t, List.mem_of_getElem? Htk.out, by simp [okT, htt, hnum]⟩
          rw [Hab.out, this]; rfl
        | true =>
          go_wp2_with fail
          go_roundw
          case rel => exact ⟨k + 1, L, by omega, by go_num, HO, Lib.hid (by rw [HL.out, Htake.out, List.filterMap_append]; simp [htt]), HN, Lib.hid (fun x hx => by
            rw [Htake.out] at hx
            simp only [List.mem_append, List.mem_singleton] at hx
            rcases hx with hx | rfl
            · exact HK.out x hx
            · simp [okT, hnum]), Hb1.out⟩
          case measure => simp [intOf]; omega
      | some y =>
        rintro e w3 ⟨⟨an, kn, rfl, hny⟩, hb1⟩
        have Hny := Lib.hid hny
        have Htt := Lib.hid htt
        clear hny htt
        replace x0 := cell_kept hb1 x0 hl_x
        replace x1 := cell_kept hb1 x1 hl_x
        replace x2 := cell_kept hb1 x2 hl_x
        replace x3 := cell_kept hb1 x3 hl_x
        replace x4 := cell_kept hb1 x4 hl_x
        replace x5 := cell_kept hb1 x5 hl_x
        replace x6 := cell_kept hb1 x6 hl_x
        replace x7 := cell_kept hb1 x7 hl_x
        replace x8 := cell_kept hb1 x8 hl_x
        replace x9 := cell_kept hb1 x9 hl_x
        replace x10 := cell_kept hb1 x10 hl_x
        replace y0 := cell_kept hb1 y0 hl_y
        replace y1 := cell_kept hb1 y1 hl_y
        replace y2 := cell_kept hb1 y2 hl_y
        replace y3 := cell_kept hb1 y3 hl_y
        replace y4 := cell_kept hb1 y4 hl_y
        replace y5 := cell_kept hb1 y5 hl_y
        replace y6 := cell_kept hb1 y6 hl_y
        replace y7 := cell_kept hb1 y7 hl_y
        replace y8 := cell_kept hb1 y8 hl_y
        replace y9 := cell_kept hb1 y9 hl_y
        replace y10 := cell_kept hb1 y10 hl_y
        replace z0 := cell_kept hb1 z0 hl_z
        replace z1 := cell_kept hb1 z1 hl_z
        replace z2 := cell_kept hb1 z2 hl_z
        replace z3 := cell_kept hb1 z3 hl_z
        replace z4 := cell_kept hb1 z4 hl_z
        replace z5 := cell_kept hb1 z5 hl_z
        replace z6 := cell_kept hb1 z6 hl_z
        replace z7 := cell_kept hb1 z7 hl_z
        replace z8 := cell_kept hb1 z8 hl_z
        replace z9 := cell_kept hb1 z9 hl_z
        replace v0 := cell_kept hb1 v0 hl_v
        replace v1 := cell_kept hb1 v1 hl_v
        replace v2 := cell_kept hb1 v2 hl_v
        replace v3 := cell_kept hb1 v3 hl_v
        replace v4 := cell_kept hb1 v4 hl_v
        replace Hb := Lib.hid (Hb.out.trans (hb1.mono hwl))
        replace Hb1 := Lib.hid (Hb1.out.trans (hb1.mono hwl1))
        replace hl_x := Nat.lt_of_lt_of_le hl_x hb1.size
        replace hl_y := Nat.lt_of_lt_of_le hl_y hb1.size
        replace hl_z := Nat.lt_of_lt_of_le hl_z hb1.size
        replace hl_v := Nat.lt_of_lt_of_le hl_v hb1.size
        replace hwl := Nat.le_trans hwl hb1.size
        replace hwl1 := Nat.le_trans hwl1 hb1.size
        replace HO := Lib.hid (HO.out.below hb1)
        clear hb1
        have hmax : L.length + 1 ≤ maxLen := by unfold maxLen; omega
        go_wp2_with (at_builtin; refine wpList_append_own _ rfl _ _ 122 rfl w0.heap.size 71 i0 (.agg #[.int .i64 0, .int .i64 0, .int .i64 0, .string ⟨#[]⟩, .int .i64 0, .slice none 0 0]) 6 72 Try.underlying122 hi hz0 hz1 hz2 rfl (by decide) _ _ _ rfl (((HO.out.alloc _).alloc _).row) ⟨w3.heap.size + 1, 0, none⟩ 1 1 (encT (y, an, kn)) rfl rfl (cells_new' _ _ _ _ (by simp)) (by simp [encT, Value.oneCell']) hmax (by omega) (by simp; omega) ?_; intro v' w4 hown hgrow hnil)
        go_roundw
        case rel => exact ⟨k + 1, L ++ [(y, an, kn)], by omega, by go_num, Lib.hid (OwnL.snoc hown), Lib.hid (by rw [List.map_append, HL.out, Htake.out, List.filterMap_append]; simp [Htt.out]), Lib.hid (fun x hx => by
            simp only [List.mem_append, List.mem_singleton] at hx
            rcases hx with hx | rfl
            · exact HN.out x hx
            · exact Hny.out), Lib.hid (fun x hx => by
            rw [Htake.out] at hx
            simp only [List.mem_append, List.mem_singleton] at hx
            rcases hx with hx | rfl
            · exact HK.out x hx
            · simp [okT, Htt.out]), ((Hb1.out.alloc hwl1 _).alloc (by simp; omega) _).grown hgrow (by simp; omega) HO.out.ge⟩
        case measure => simp [intOf]; omega
    case neg =>
      obtain rfl : k = 2 := by omega
      have hLt : L.map (·.1) = atomTys s r.froms m := HL.out
      have hok : [m.a, m.b].all (okT s r.froms) = true := List.all_eq_true.2 HK.out
      have Hv := Lib.hid (show atomB s r.froms m = (pairOK s.units (L.map (·.1)) && (L.map (·.1)).all (ordOK m.op)) by rw [Hab.out, hok, hLt]; rfl)
      have HLt := Lib.hid hLt
      have hl2 : L.length ≤ 2 := by
        have h1 := congrArg List.length hLt
        have h2 := List.length_filterMap_le (fun t => termTy? s r.froms t r.froms.length) [m.a, m.b]
        simp only [List.length_map] at h1
        simp only [List.length_cons, List.length_nil] at h2
        unfold atomTys at h1
        omega
      clear hLt hok HL HK
      obtain ⟨a, cap, hv, hc⟩ := HO.out.out encT_len
      subst hv
      rcases (show L.length = 0 ∨ L.length = 1 ∨ L.length = 2 by omega) with hn | hn | hn
      · obtain rfl := List.length_eq_zero_iff.1 hn
        clear hc hn
        simp only [List.length_nil]
        go_wp2_with fail
        refine wp_region_grown (by kernel_rfl) (by kernel_rfl) ?_
        repeat (go_big_quiet_step (fail))
        refine wpQuiet_nil ?_
        intro w5 hw0
        have hb1 : Below wr.heap.size wr w5 := by obtain ⟨n, rfl⟩ := hw0; exact grown_below _ n
        clear hw0
        replace x0 := cell_kept hb1 x0 hl_x
        replace x1 := cell_kept hb1 x1 hl_x
        replace x2 := cell_kept hb1 x2 hl_x
        replace x3 := cell_kept hb1 x3 hl_x
        replace x4 := cell_kept hb1 x4 hl_x
        replace x5 := cell_kept hb1 x5 hl_x
        replace x6 := cell_kept hb1 x6 hl_x
        replace x7 := cell_kept hb1 x7 hl_x
        replace x8 := cell_kept hb1 x8 hl_x
        replace x9 := cell_kept hb1 x9 hl_x
        replace x10 := cell_kept hb1 x10 hl_x
        replace y0 := cell_kept hb1 y0 hl_y
        replace y1 := cell_kept hb1 y1 hl_y
        replace y2 := cell_kept hb1 y2 hl_y
        replace y3 := cell_kept hb1 y3 hl_y
        replace y4 := cell_kept hb1 y4 hl_y
        replace y5 := cell_kept hb1 y5 hl_y
        replace y6 := cell_kept hb1 y6 hl_y
        replace y7 := cell_kept hb1 y7 hl_y
        replace y8 := cell_kept hb1 y8 hl_y
        replace y9 := cell_kept hb1 y9 hl_y
        replace y10 := cell_kept hb1 y10 hl_y
        replace z0 := cell_kept hb1 z0 hl_z
        replace z1 := cell_kept hb1 z1 hl_z
        replace z2 := cell_kept hb1 z2 hl_z
        replace z3 := cell_kept hb1 z3 hl_z
        replace z4 := cell_kept hb1 z4 hl_z
        replace z5 := cell_kept hb1 z5 hl_z
        replace z6 := cell_kept hb1 z6 hl_z
        replace z7 := cell_kept hb1 z7 hl_z
        replace z8 := cell_kept hb1 z8 hl_z
        replace z9 := cell_kept hb1 z9 hl_z
        replace Hb := Lib.hid (Hb.out.trans (hb1.mono hwl))
        replace Hb1 := Lib.hid (Hb1.out.trans (hb1.mono hwl1))
        replace hl_x := Nat.lt_of_lt_of_le hl_x hb1.size
        replace hl_y := Nat.lt_of_lt_of_le hl_y hb1.size
        replace hl_z := Nat.lt_of_lt_of_le hl_z hb1.size
        replace hwl := Nat.le_trans hwl hb1.size
        replace hwl1 := Nat.le_trans hwl1 hb1.size
        clear hb1
        go_wp2
        go_ret
        exact ⟨ret_bool (by rw [Hv.out]; rfl), Hb.out⟩
      · obtain ⟨⟨tA, aA, kA⟩, rfl⟩ := List.length_eq_one_iff.1 hn
        obtain ⟨g, rfl, -⟩ := hc 0 (by simp)
        clear hc hn
        simp only [List.length_cons, List.length_nil, Nat.zero_add] at HO ⊢
        go_wp2_with fail
        refine wp_region_grown (by kernel_rfl) (by kernel_rfl) ?_
        repeat (go_big_quiet_step (fail))
        refine wpQuiet_nil ?_
        intro w5 hw0
        have hb1 : Below wr.heap.size wr w5 := by obtain ⟨n, rfl⟩ := hw0; exact grown_below _ n
        clear hw0
        replace x0 := cell_kept hb1 x0 hl_x
        replace x1 := cell_kept hb1 x1 hl_x
        replace x2 := cell_kept hb1 x2 hl_x
        replace x3 := cell_kept hb1 x3 hl_x
        replace x4 := cell_kept hb1 x4 hl_x
        replace x5 := cell_kept hb1 x5 hl_x
        replace x6 := cell_kept hb1 x6 hl_x
        replace x7 := cell_kept hb1 x7 hl_x
        replace x8 := cell_kept hb1 x8 hl_x
        replace x9 := cell_kept hb1 x9 hl_x
        replace x10 := cell_kept hb1 x10 hl_x
        replace y0 := cell_kept hb1 y0 hl_y
        replace y1 := cell_kept hb1 y1 hl_y
        replace y2 := cell_kept hb1 y2 hl_y
        replace y3 := cell_kept hb1 y3 hl_y
        replace y4 := cell_kept hb1 y4 hl_y
        replace y5 := cell_kept hb1 y5 hl_y
        replace y6 := cell_kept hb1 y6 hl_y
        replace y7 := cell_kept hb1 y7 hl_y
        replace y8 := cell_kept hb1 y8 hl_y
        replace y9 := cell_kept hb1 y9 hl_y
        replace y10 := cell_kept hb1 y10 hl_y
        replace z0 := cell_kept hb1 z0 hl_z
        replace z1 := cell_kept hb1 z1 hl_z
        replace z2 := cell_kept hb1 z2 hl_z
        replace z3 := cell_kept hb1 z3 hl_z
        replace z4 := cell_kept hb1 z4 hl_z
        replace z5 := cell_kept hb1 z5 hl_z
        replace z6 := cell_kept hb1 z6 hl_z
        replace z7 := cell_kept hb1 z7 hl_z
        replace z8 := cell_kept hb1 z8 hl_z
        replace z9 := cell_kept hb1 z9 hl_z
        replace Hb := Lib.hid (Hb.out.trans (hb1.mono hwl))
        replace Hb1 := Lib.hid (Hb1.out.trans (hb1.mono hwl1))
        replace hl_x := Nat.lt_of_lt_of_le hl_x hb1.size
        replace hl_y := Nat.lt_of_lt_of_le hl_y hb1.size
        replace hl_z := Nat.lt_of_lt_of_le hl_z hb1.size
        replace hwl := Nat.le_trans hwl hb1.size
        replace hwl1 := Nat.le_trans hwl1 hb1.size
        replace HO := Lib.hid (HO.out.below hb1)
        clear hb1
        obtain ⟨hBg, hl_e, hcell⟩ := HO.out.at encT_len
        have e0 : w5.cell? ⟨g, 0, none⟩ = some (.int .i64 tA.kind) := hcell 0 (by simp) 0 (by omega)
        have e1 : w5.cell? ⟨g, 1, none⟩ = some (.int .i64 tA.lo) := hcell 0 (by simp) 1 (by omega)
        have e2 : w5.cell? ⟨g, 2, none⟩ = some (.int .i64 tA.hi) := hcell 0 (by simp) 2 (by omega)
        have e3 : w5.cell? ⟨g, 3, none⟩ = some (.string tA.of_) := hcell 0 (by simp) 3 (by omega)
        have e4 : w5.cell? ⟨g, 4, none⟩ = some (.int .i64 tA.unit) := hcell 0 (by simp) 4 (by omega)
        have e5 : w5.cell? ⟨g, 5, none⟩ = some (.slice aA tA.names.length kA) := hcell 0 (by simp) 5 (by omega)
        clear hcell
        go_wp2_with fail
        go_loopw [76] (fun i wr => ∃ j : Nat, j ≤ 1 ∧ i = .int .i64 j ∧ Hid (([tA].take j).all (ordOK m.op) = true) ∧ Below w5.heap.size w5 wr) (fun i _ => 1 - (intOf i).toNat)
        case atStart => exact ⟨0, Nat.zero_le _, rfl, Lib.hid rfl, Below.refl _ _⟩
        case round =>
          obtain ⟨j, hj, rfl, HQ, hb1⟩ := hrel
          have Hb2 := Lib.hid hb1
          have hwl2 := hb1.size
          replace x0 := cell_kept hb1 x0 hl_x
          replace x1 := cell_kept hb1 x1 hl_x
          replace x2 := cell_kept hb1 x2 hl_x
          replace x3 := cell_kept hb1 x3 hl_x
          replace x4 := cell_kept hb1 x4 hl_x
          replace x5 := cell_kept hb1 x5 hl_x
          replace x6 := cell_kept hb1 x6 hl_x
          replace x7 := cell_kept hb1 x7 hl_x
          replace x8 := cell_kept hb1 x8 hl_x
          replace x9 := cell_kept hb1 x9 hl_x
          replace x10 := cell_kept hb1 x10 hl_x
          replace y0 := cell_kept hb1 y0 hl_y
          replace y1 := cell_kept hb1 y1 hl_y
          replace y2 := cell_kept hb1 y2 hl_y
          replace y3 := cell_kept hb1 y3 hl_y
          replace y4 := cell_kept hb1 y4 hl_y
          replace y5 := cell_kept hb1 y5 hl_y
          replace y6 := cell_kept hb1 y6 hl_y
          replace y7 := cell_kept hb1 y7 hl_y
          replace y8 := cell_kept hb1 y8 hl_y
          replace y9 := cell_kept hb1 y9 hl_y
          replace y10 := cell_kept hb1 y10 hl_y
          replace z0 := cell_kept hb1 z0 hl_z
          replace z1 := cell_kept hb1 z1 hl_z
          replace z2 := cell_kept hb1 z2 hl_z
          replace z3 := cell_kept hb1 z3 hl_z
          replace z4 := cell_kept hb1 z4 hl_z
          replace z5 := cell_kept hb1 z5 hl_z
          replace z6 := cell_kept hb1 z6 hl_z
          replace z7 := cell_kept hb1 z7 hl_z
          replace z8 := cell_kept hb1 z8 hl_z
          replace z9 := cell_kept hb1 z9 hl_z
          replace e0 := cell_kept hb1 e0 hl_e
          replace e1 := cell_kept hb1 e1 hl_e
          replace e2 := cell_kept hb1 e2 hl_e
          replace e3 := cell_kept hb1 e3 hl_e
          replace e4 := cell_kept hb1 e4 hl_e
          replace e5 := cell_kept hb1 e5 hl_e
          replace Hb := Lib.hid (Hb.out.trans (hb1.mono hwl))
          replace Hb1 := Lib.hid (Hb1.out.trans (hb1.mono hwl1))
          replace hl_x := Nat.lt_of_lt_of_le hl_x hb1.size
          replace hl_y := Nat.lt_of_lt_of_le hl_y hb1.size
          replace hl_z := Nat.lt_of_lt_of_le hl_z hb1.size
          replace hl_e := Nat.lt_of_lt_of_le hl_e hb1.size
          replace hwl := Nat.le_trans hwl hb1.size
          replace hwl1 := Nat.le_trans hwl1 hb1.size
          clear hb1
          by_cases hjn : j < 1
          case neg =>
            go_wp2
            go_ret
            obtain rfl : j = 1 := by omega
            have hq : [tA].all (ordOK m.op) = true := HQ.out
            exact ⟨ret_bool (by rw [Hv.out]; simp only [List.map_cons, List.map_nil]; rw [hq]; simp [pairOK]), Hb.out⟩
          obtain ⟨ty, tn, tk, hty, d0, d1, d2, d3, d4, d5⟩ : ∃ (ty : TyD) (tn : Option Addr) (tk : Nat), [tA][j]? = some ty ∧ wr.cell? ⟨g, j * 6, none⟩ = some (.int .i64 ty.kind) ∧ wr.cell? ⟨g, j * 6 + 1, none⟩ = some (.int .i64 ty.lo) ∧ wr.cell? ⟨g, j * 6 + 2, none⟩ = some (.int .i64 ty.hi) ∧ wr.cell? ⟨g, j * 6 + 3, none⟩ = some (.string ty.of_) ∧ wr.cell? ⟨g, j * 6 + 4, none⟩ = some (.int .i64 ty.unit) ∧ wr.cell? ⟨g, j * 6 + 5, none⟩ = some (.slice tn ty.names.length tk) := by
            obtain rfl : j = 0 := by omega
            exact ⟨tA, aA, kA, rfl, e0, e1, e2, e3, e4, e5⟩
          have htake : [tA].take (j + 1) = [tA].take j ++ [ty] := by rw [List.take_add_one, hty]; rfl
          have Htake2 := Lib.hid htake
          have Hty := Lib.hid hty
          clear htake hty
          have hjn' : (j : Int) < 1 := by omega
          have hK : ((ty.kind == 1) = true) ∨ ((ty.kind == 1) = false ∧ (ty.kind == 2) = true) ∨ ((ty.kind == 1) = false ∧ (ty.kind == 2) = false) := by cases (ty.kind == 1) <;> cases (ty.kind == 2) <;> simp
          have hO : ((m.op == 2) = true) ∨ ((m.op == 2) = false ∧ (m.op == 3) = true) ∨ ((m.op == 2) = false ∧ (m.op == 3) = false) := by cases (m.op == 2) <;> cases (m.op == 3) <;> simp
          rcases hK with k1 | ⟨k1, k2⟩ | ⟨k1, k2⟩
          · rcases hO with o2 | ⟨o2, o3⟩ | ⟨o2, o3⟩
            · have Ho := Lib.hid (show ordOK m.op ty = true by simp at k1 o2; simp [ordOK, ordB, *])
              go_wp2_with fail
              go_roundw
              case rel => exact ⟨j + 1, by omega, by go_num, Lib.hid (by rw [Htake2.out, List.all_append, HQ.out]; simp [Ho.out]), Hb2.out.alloc hwl2 _⟩
              case measure => simp [intOf]; omega
            · have Ho := Lib.hid (show ordOK m.op ty = true by simp at k1 o2 o3; simp [ordOK, ordB, *])
              go_wp2_with fail
              go_roundw
              case rel => exact ⟨j + 1, by omega, by go_num, Lib.hid (by rw [Htake2.out, List.all_append, HQ.out]; simp [Ho.out]), Hb2.out.alloc hwl2 _⟩
              case measure => simp [intOf]; omega
            · have Ho := Lib.hid (show ordOK m.op ty = true by simp at k1 o2 o3; simp [ordOK, ordB, *])
              go_wp2_with fail
              go_roundw
              case rel => exact ⟨j + 1, by omega, by go_num, Lib.hid (by rw [Htake2.out, List.all_append, HQ.out]; simp [Ho.out]), Hb2.out.alloc hwl2 _⟩
              case measure => simp [intOf]; omega
          · rcases hO with o2 | ⟨o2, o3⟩ | ⟨o2, o3⟩
            · have Ho := Lib.hid (show ordOK m.op ty = true by simp at k1 k2 o2; simp [ordOK, ordB, *])
              go_wp2_with fail
              go_roundw
              case rel => exact ⟨j + 1, by omega, by go_num, Lib.hid (by rw [Htake2.out, List.all_append, HQ.out]; simp [Ho.out]), Hb2.out.alloc hwl2 _⟩
              case measure => simp [intOf]; omega
            · have Ho := Lib.hid (show ordOK m.op ty = true by simp at k1 k2 o2 o3; simp [ordOK, ordB, *])
              go_wp2_with fail
              go_roundw
              case rel => exact ⟨j + 1, by omega, by go_num, Lib.hid (by rw [Htake2.out, List.all_append, HQ.out]; simp [Ho.out]), Hb2.out.alloc hwl2 _⟩
              case measure => simp [intOf]; omega
            · have Ho := Lib.hid (show ordOK m.op ty = true by simp at k1 k2 o2 o3; simp [ordOK, ordB, *])
              go_wp2_with fail
              go_roundw
              case rel => exact ⟨j + 1, by omega, by go_num, Lib.hid (by rw [Htake2.out, List.all_append, HQ.out]; simp [Ho.out]), Hb2.out.alloc hwl2 _⟩
              case measure => simp [intOf]; omega
          · rcases hO with o2 | ⟨o2, o3⟩ | ⟨o2, o3⟩
            · have Ho := Lib.hid (show ordOK m.op ty = false by simp at k1 k2 o2; simp [ordOK, ordB, *])
              go_wp2_with fail
              go_ret
              refine ⟨ret_bool ?_, Hb.out.alloc hwl _⟩
              have hno : [tA].all (ordOK m.op) = false := List.all_eq_false.2 ⟨ty, List.mem_of_getElem? Hty.out, by simp [Ho.out]⟩
              rw [Hv.out]; simp only [List.map_cons, List.map_nil]; rw [hno]; simp
            · have Ho := Lib.hid (show ordOK m.op ty = false by simp at k1 k2 o2 o3; simp [ordOK, ordB, *])
              go_wp2_with fail
              go_ret
              refine ⟨ret_bool ?_, Hb.out.alloc hwl _⟩
              have hno : [tA].all (ordOK m.op) = false := List.all_eq_false.2 ⟨ty, List.mem_of_getElem? Hty.out, by simp [Ho.out]⟩
              rw [Hv.out]; simp only [List.map_cons, List.map_nil]; rw [hno]; simp
            · have Ho := Lib.hid (show ordOK m.op ty = true by simp at k1 k2 o2 o3; simp [ordOK, ordB, *])
              go_wp2_with fail
              go_roundw
              case rel => exact ⟨j + 1, by omega, by go_num, Lib.hid (by rw [Htake2.out, List.all_append, HQ.out]; simp [Ho.out]), Hb2.out.alloc hwl2 _⟩
              case measure => simp [intOf]; omega
      · obtain ⟨⟨tA, aA, kA⟩, ⟨tB, aB, kB⟩, rfl⟩ : ∃ x1 x2, L = [x1, x2] := by
          rcases L with _ | ⟨x1, _ | ⟨x2, _ | ⟨x3, L⟩⟩⟩ <;> simp at hn
          exact ⟨x1, x2, rfl⟩
        obtain ⟨g, rfl, -⟩ := hc 0 (by simp)
        clear hc hn
        obtain ⟨uA, huA⟩ := atomTys_mem (s := s) (fs := r.froms) (m := m) (y := tA) (by rw [← HLt.out]; simp)
        obtain ⟨uB, huB⟩ := atomTys_mem (s := s) (fs := r.froms) (m := m) (y := tB) (by rw [← HLt.out]; simp)
        have hlA := termTy_short hsh huA
        have HuA := Lib.hid (termTy_good hgd huA)
        have HuB := Lib.hid (termTy_good hgd huB)
        clear huA huB
        simp only [List.length_cons, List.length_nil, Nat.zero_add, Nat.reduceAdd] at HO ⊢
        go_wp2_with fail
        obtain ⟨hBg, hl_e, hcell⟩ := HO.out.at encT_len
        have hl_f := hl_e
        have e0 : wr.cell? ⟨g, 0, none⟩ = some (.int .i64 tA.kind) := hcell 0 (by simp) 0 (by omega)
        have e1 : wr.cell? ⟨g, 1, none⟩ = some (.int .i64 tA.lo) := hcell 0 (by simp) 1 (by omega)
        have e2 : wr.cell? ⟨g, 2, none⟩ = some (.int .i64 tA.hi) := hcell 0 (by simp) 2 (by omega)
        have e3 : wr.cell? ⟨g, 3, none⟩ = some (.string tA.of_) := hcell 0 (by simp) 3 (by omega)
        have e4 : wr.cell? ⟨g, 4, none⟩ = some (.int .i64 tA.unit) := hcell 0 (by simp) 4 (by omega)
        have e5 : wr.cell? ⟨g, 5, none⟩ = some (.slice aA tA.names.length kA) := hcell 0 (by simp) 5 (by omega)
        have f0 : wr.cell? ⟨g, 6, none⟩ = some (.int .i64 tB.kind) := hcell 1 (by simp) 0 (by omega)
        have f1 : wr.cell? ⟨g, 7, none⟩ = some (.int .i64 tB.lo) := hcell 1 (by simp) 1 (by omega)
        have f2 : wr.cell? ⟨g, 8, none⟩ = some (.int .i64 tB.hi) := hcell 1 (by simp) 2 (by omega)
        have f3 : wr.cell? ⟨g, 9, none⟩ = some (.string tB.of_) := hcell 1 (by simp) 3 (by omega)
        have f4 : wr.cell? ⟨g, 10, none⟩ = some (.int .i64 tB.unit) := hcell 1 (by simp) 4 (by omega)
        have f5 : wr.cell? ⟨g, 11, none⟩ = some (.slice aB tB.names.length kB) := hcell 1 (by simp) 5 (by omega)
        clear hcell
        cases hcm : cmpB s.units tA tB with
        | false =>
          refine wp_region_grown (by kernel_rfl) (by kernel_rfl) ?_
          repeat (go_big_quiet_step (first | (go_at_call 43; exact calls_grown (cmp_eq s p tA tB aA aB kA kB _ (Hs.out.below (Hbb.out.trans (Below.mono (Hb.out.trans ((grown_below _ _).mono hwl)) Hbb.out.size))) ((HN.out (tA, aA, kA) (by simp)).below RStr.stab (Hbb.out.trans (Below.mono (Hb.out.trans ((grown_below _ _).mono hwl)) Hbb.out.size))) ((HN.out (tB, aB, kB) (by simp)).below RStr.stab (Hbb.out.trans (Below.mono (Hb.out.trans ((grown_below _ _).mono hwl)) Hbb.out.size))) hlA HuA.out HuB.out false hcm))))
          refine wpQuiet_nil ?_
          intro w5 hw0
          have hb1 : Below wr.heap.size wr w5 := by obtain ⟨n, rfl⟩ := hw0; exact grown_below _ n
          clear hw0
          replace x0 := cell_kept hb1 x0 hl_x
          replace x1 := cell_kept hb1 x1 hl_x
          replace x2 := cell_kept hb1 x2 hl_x
          replace x3 := cell_kept hb1 x3 hl_x
          replace x4 := cell_kept hb1 x4 hl_x
          replace x5 := cell_kept hb1 x5 hl_x
          replace x6 := cell_kept hb1 x6 hl_x
          replace x7 := cell_kept hb1 x7 hl_x
          replace x8 := cell_kept hb1 x8 hl_x
          replace x9 := cell_kept hb1 x9 hl_x
          replace x10 := cell_kept hb1 x10 hl_x
          replace y0 := cell_kept hb1 y0 hl_y
          replace y1 := cell_kept hb1 y1 hl_y
          replace y2 := cell_kept hb1 y2 hl_y
          replace y3 := cell_kept hb1 y3 hl_y
          replace y4 := cell_kept hb1 y4 hl_y
          replace y5 := cell_kept hb1 y5 hl_y
          replace y6 := cell_kept hb1 y6 hl_y
          replace y7 := cell_kept hb1 y7 hl_y
          replace y8 := cell_kept hb1 y8 hl_y
          replace y9 := cell_kept hb1 y9 hl_y
          replace y10 := cell_kept hb1 y10 hl_y
          replace z0 := cell_kept hb1 z0 hl_z
          replace z1 := cell_kept hb1 z1 hl_z
          replace z2 := cell_kept hb1 z2 hl_z
          replace z3 := cell_kept hb1 z3 hl_z
          replace z4 := cell_kept hb1 z4 hl_z
          replace z5 := cell_kept hb1 z5 hl_z
          replace z6 := cell_kept hb1 z6 hl_z
          replace z7 := cell_kept hb1 z7 hl_z
          replace z8 := cell_kept hb1 z8 hl_z
          replace z9 := cell_kept hb1 z9 hl_z
          replace e0 := cell_kept hb1 e0 hl_e
          replace e1 := cell_kept hb1 e1 hl_e
          replace e2 := cell_kept hb1 e2 hl_e
          replace e3 := cell_kept hb1 e3 hl_e
          replace e4 := cell_kept hb1 e4 hl_e
          replace e5 := cell_kept hb1 e5 hl_e
          replace f0 := cell_kept hb1 f0 hl_f
          replace f1 := cell_kept hb1 f1 hl_f
          replace f2 := cell_kept hb1 f2 hl_f
          replace f3 := cell_kept hb1 f3 hl_f
          replace f4 := cell_kept hb1 f4 hl_f
          replace f5 := cell_kept hb1 f5 hl_f
          replace Hb := Lib.hid (Hb.out.trans (hb1.mono hwl))
          replace Hb1 := Lib.hid (Hb1.out.trans (hb1.mono hwl1))
          replace hl_x := Nat.lt_of_lt_of_le hl_x hb1.size
          replace hl_y := Nat.lt_of_lt_of_le hl_y hb1.size
          replace hl_z := Nat.lt_of_lt_of_le hl_z hb1.size
          replace hl_e := Nat.lt_of_lt_of_le hl_e hb1.size
          replace hl_f := Nat.lt_of_lt_of_le hl_f hb1.size
          replace hwl := Nat.le_trans hwl hb1.size
          replace hwl1 := Nat.le_trans hwl1 hb1.size
          clear hb1
          go_wp2
          go_ret
          exact ⟨ret_bool (by rw [Hv.out]; simp [pairOK, hcm]), Hb.out⟩
        | true =>
          have Hcm := Lib.hid hcm
          refine wp_region_grown (by kernel_rfl) (by kernel_rfl) ?_
          repeat (go_big_quiet_step (first | (go_at_call 43; exact calls_grown (cmp_eq s p tA tB aA aB kA kB _ (Hs.out.below (Hbb.out.trans (Below.mono (Hb.out.trans ((grown_below _ _).mono hwl)) Hbb.out.size))) ((HN.out (tA, aA, kA) (by simp)).below RStr.stab (Hbb.out.trans (Below.mono (Hb.out.trans ((grown_below _ _).mono hwl)) Hbb.out.size))) ((HN.out (tB, aB, kB) (by simp)).below RStr.stab (Hbb.out.trans (Below.mono (Hb.out.trans ((grown_below _ _).mono hwl)) Hbb.out.size))) hlA HuA.out HuB.out true hcm))))
          refine wpQuiet_nil ?_
          intro w5 hw0
          have hb1 : Below wr.heap.size wr w5 := by obtain ⟨n, rfl⟩ := hw0; exact grown_below _ n
          clear hw0
          replace x0 := cell_kept hb1 x0 hl_x
          replace x1 := cell_kept hb1 x1 hl_x
          replace x2 := cell_kept hb1 x2 hl_x
          replace x3 := cell_kept hb1 x3 hl_x
          replace x4 := cell_kept hb1 x4 hl_x
          replace x5 := cell_kept hb1 x5 hl_x
          replace x6 := cell_kept hb1 x6 hl_x
          replace x7 := cell_kept hb1 x7 hl_x
          replace x8 := cell_kept hb1 x8 hl_x
          replace x9 := cell_kept hb1 x9 hl_x
          replace x10 := cell_kept hb1 x10 hl_x
          replace y0 := cell_kept hb1 y0 hl_y
          replace y1 := cell_kept hb1 y1 hl_y
          replace y2 := cell_kept hb1 y2 hl_y
          replace y3 := cell_kept hb1 y3 hl_y
          replace y4 := cell_kept hb1 y4 hl_y
          replace y5 := cell_kept hb1 y5 hl_y
          replace y6 := cell_kept hb1 y6 hl_y
          replace y7 := cell_kept hb1 y7 hl_y
          replace y8 := cell_kept hb1 y8 hl_y
          replace y9 := cell_kept hb1 y9 hl_y
          replace y10 := cell_kept hb1 y10 hl_y
          replace z0 := cell_kept hb1 z0 hl_z
          replace z1 := cell_kept hb1 z1 hl_z
          replace z2 := cell_kept hb1 z2 hl_z
          replace z3 := cell_kept hb1 z3 hl_z
          replace z4 := cell_kept hb1 z4 hl_z
          replace z5 := cell_kept hb1 z5 hl_z
          replace z6 := cell_kept hb1 z6 hl_z
          replace z7 := cell_kept hb1 z7 hl_z
          replace z8 := cell_kept hb1 z8 hl_z
          replace z9 := cell_kept hb1 z9 hl_z
          replace e0 := cell_kept hb1 e0 hl_e
          replace e1 := cell_kept hb1 e1 hl_e
          replace e2 := cell_kept hb1 e2 hl_e
          replace e3 := cell_kept hb1 e3 hl_e
          replace e4 := cell_kept hb1 e4 hl_e
          replace e5 := cell_kept hb1 e5 hl_e
          replace f0 := cell_kept hb1 f0 hl_f
          replace f1 := cell_kept hb1 f1 hl_f
          replace f2 := cell_kept hb1 f2 hl_f
          replace f3 := cell_kept hb1 f3 hl_f
          replace f4 := cell_kept hb1 f4 hl_f
          replace f5 := cell_kept hb1 f5 hl_f
          replace Hb := Lib.hid (Hb.out.trans (hb1.mono hwl))
          replace Hb1 := Lib.hid (Hb1.out.trans (hb1.mono hwl1))
          replace hl_x := Nat.lt_of_lt_of_le hl_x hb1.size
          replace hl_y := Nat.lt_of_lt_of_le hl_y hb1.size
          replace hl_z := Nat.lt_of_lt_of_le hl_z hb1.size
          replace hl_e := Nat.lt_of_lt_of_le hl_e hb1.size
          replace hl_f := Nat.lt_of_lt_of_le hl_f hb1.size
          replace hwl := Nat.le_trans hwl hb1.size
          replace hwl1 := Nat.le_trans hwl1 hb1.size
          clear hb1
          go_wp2_with fail
          go_loopw [76] (fun i wr => ∃ j : Nat, j ≤ 2 ∧ i = .int .i64 j ∧ Hid (([tA, tB].take j).all (ordOK m.op) = true) ∧ Below w5.heap.size w5 wr) (fun i _ => 2 - (intOf i).toNat)
          case atStart => exact ⟨0, Nat.zero_le _, rfl, Lib.hid rfl, Below.refl _ _⟩
          case round =>
            obtain ⟨j, hj, rfl, HQ, hb1⟩ := hrel
            have Hb2 := Lib.hid hb1
            have hwl2 := hb1.size
            replace x0 := cell_kept hb1 x0 hl_x
            replace x1 := cell_kept hb1 x1 hl_x
            replace x2 := cell_kept hb1 x2 hl_x
            replace x3 := cell_kept hb1 x3 hl_x
            replace x4 := cell_kept hb1 x4 hl_x
            replace x5 := cell_kept hb1 x5 hl_x
            replace x6 := cell_kept hb1 x6 hl_x
            replace x7 := cell_kept hb1 x7 hl_x
            replace x8 := cell_kept hb1 x8 hl_x
            replace x9 := cell_kept hb1 x9 hl_x
            replace x10 := cell_kept hb1 x10 hl_x
            replace y0 := cell_kept hb1 y0 hl_y
            replace y1 := cell_kept hb1 y1 hl_y
            replace y2 := cell_kept hb1 y2 hl_y
            replace y3 := cell_kept hb1 y3 hl_y
            replace y4 := cell_kept hb1 y4 hl_y
            replace y5 := cell_kept hb1 y5 hl_y
            replace y6 := cell_kept hb1 y6 hl_y
            replace y7 := cell_kept hb1 y7 hl_y
            replace y8 := cell_kept hb1 y8 hl_y
            replace y9 := cell_kept hb1 y9 hl_y
            replace y10 := cell_kept hb1 y10 hl_y
            replace z0 := cell_kept hb1 z0 hl_z
            replace z1 := cell_kept hb1 z1 hl_z
            replace z2 := cell_kept hb1 z2 hl_z
            replace z3 := cell_kept hb1 z3 hl_z
            replace z4 := cell_kept hb1 z4 hl_z
            replace z5 := cell_kept hb1 z5 hl_z
            replace z6 := cell_kept hb1 z6 hl_z
            replace z7 := cell_kept hb1 z7 hl_z
            replace z8 := cell_kept hb1 z8 hl_z
            replace z9 := cell_kept hb1 z9 hl_z
            replace e0 := cell_kept hb1 e0 hl_e
            replace e1 := cell_kept hb1 e1 hl_e
            replace e2 := cell_kept hb1 e2 hl_e
            replace e3 := cell_kept hb1 e3 hl_e
            replace e4 := cell_kept hb1 e4 hl_e
            replace e5 := cell_kept hb1 e5 hl_e
            replace f0 := cell_kept hb1 f0 hl_f
            replace f1 := cell_kept hb1 f1 hl_f
            replace f2 := cell_kept hb1 f2 hl_f
            replace f3 := cell_kept hb1 f3 hl_f
            replace f4 := cell_kept hb1 f4 hl_f
            replace f5 := cell_kept hb1 f5 hl_f
            replace Hb := Lib.hid (Hb.out.trans (hb1.mono hwl))
            replace Hb1 := Lib.hid (Hb1.out.trans (hb1.mono hwl1))
            replace hl_x := Nat.lt_of_lt_of_le hl_x hb1.size
            replace hl_y := Nat.lt_of_lt_of_le hl_y hb1.size
            replace hl_z := Nat.lt_of_lt_of_le hl_z hb1.size
            replace hl_e := Nat.lt_of_lt_of_le hl_e hb1.size
            replace hl_f := Nat.lt_of_lt_of_le hl_f hb1.size
            replace hwl := Nat.le_trans hwl hb1.size
            replace hwl1 := Nat.le_trans hwl1 hb1.size
            clear hb1
            by_cases hjn : j < 2
            case neg =>
              go_wp2
              go_ret
              obtain rfl : j = 2 := by omega
              have hq : [tA, tB].all (ordOK m.op) = true := HQ.out
              exact ⟨ret_bool (by rw [Hv.out]; simp only [List.map_cons, List.map_nil]; rw [hq]; simp [pairOK, Hcm.out]), Hb.out⟩
            obtain ⟨ty, tn, tk, hty, d0, d1, d2, d3, d4, d5⟩ : ∃ (ty : TyD) (tn : Option Addr) (tk : Nat), [tA, tB][j]? = some ty ∧ wr.cell? ⟨g, j * 6, none⟩ = some (.int .i64 ty.kind) ∧ wr.cell? ⟨g, j * 6 + 1, none⟩ = some (.int .i64 ty.lo) ∧ wr.cell? ⟨g, j * 6 + 2, none⟩ = some (.int .i64 ty.hi) ∧ wr.cell? ⟨g, j * 6 + 3, none⟩ = some (.string ty.of_) ∧ wr.cell? ⟨g, j * 6 + 4, none⟩ = some (.int .i64 ty.unit) ∧ wr.cell? ⟨g, j * 6 + 5, none⟩ = some (.slice tn ty.names.length tk) := by
              rcases (show j = 0 ∨ j = 1 by omega) with rfl | rfl
              · exact ⟨tA, aA, kA, rfl, e0, e1, e2, e3, e4, e5⟩
              · exact ⟨tB, aB, kB, rfl, f0, f1, f2, f3, f4, f5⟩
            have htake : [tA, tB].take (j + 1) = [tA, tB].take j ++ [ty] := by rw [List.take_add_one, hty]; rfl
            have Htake2 := Lib.hid htake
            have Hty := Lib.hid hty
            clear htake hty
            have hjn' : (j : Int) < 2 := by omega
            have hK : ((ty.kind == 1) = true) ∨ ((ty.kind == 1) = false ∧ (ty.kind == 2) = true) ∨ ((ty.kind == 1) = false ∧ (ty.kind == 2) = false) := by cases (ty.kind == 1) <;> cases (ty.kind == 2) <;> simp
            have hO : ((m.op == 2) = true) ∨ ((m.op == 2) = false ∧ (m.op == 3) = true) ∨ ((m.op == 2) = false ∧ (m.op == 3) = false) := by cases (m.op == 2) <;> cases (m.op == 3) <;> simp
            rcases hK with k1 | ⟨k1, k2⟩ | ⟨k1, k2⟩
            · rcases hO with o2 | ⟨o2, o3⟩ | ⟨o2, o3⟩
              · have Ho := Lib.hid (show ordOK m.op ty = true by simp at k1 o2; simp [ordOK, ordB, *])
                go_wp2_with fail
                go_roundw
                case rel => exact ⟨j + 1, by omega, by go_num, Lib.hid (by rw [Htake2.out, List.all_append, HQ.out]; simp [Ho.out]), Hb2.out.alloc hwl2 _⟩
                case measure => simp [intOf]; omega
              · have Ho := Lib.hid (show ordOK m.op ty = true by simp at k1 o2 o3; simp [ordOK, ordB, *])
                go_wp2_with fail
                go_roundw
                case rel => exact ⟨j + 1, by omega, by go_num, Lib.hid (by rw [Htake2.out, List.all_append, HQ.out]; simp [Ho.out]), Hb2.out.alloc hwl2 _⟩
                case measure => simp [intOf]; omega
              · have Ho := Lib.hid (show ordOK m.op ty = true by simp at k1 o2 o3; simp [ordOK, ordB, *])
                go_wp2_with fail
                go_roundw
                case rel => exact ⟨j + 1, by omega, by go_num, Lib.hid (by rw [Htake2.out, List.all_append, HQ.out]; simp [Ho.out]), Hb2.out.alloc hwl2 _⟩
                case measure => simp [intOf]; omega
            · rcases hO with o2 | ⟨o2, o3⟩ | ⟨o2, o3⟩
              · have Ho := Lib.hid (show ordOK m.op ty = true by simp at k1 k2 o2; simp [ordOK, ordB, *])
                go_wp2_with fail
                go_roundw
                case rel => exact ⟨j + 1, by omega, by go_num, Lib.hid (by rw [Htake2.out, List.all_append, HQ.out]; simp [Ho.out]), Hb2.out.alloc hwl2 _⟩
                case measure => simp [intOf]; omega
              · have Ho := Lib.hid (show ordOK m.op ty = true by simp at k1 k2 o2 o3; simp [ordOK, ordB, *])
                go_wp2_with fail
                go_roundw
                case rel => exact ⟨j + 1, by omega, by go_num, Lib.hid (by rw [Htake2.out, List.all_append, HQ.out]; simp [Ho.out]), Hb2.out.alloc hwl2 _⟩
                case measure => simp [intOf]; omega
              · have Ho := Lib.hid (show ordOK m.op ty = true by simp at k1 k2 o2 o3; simp [ordOK, ordB, *])
                go_wp2_with fail
                go_roundw
                case rel => exact ⟨j + 1, by omega, by go_num, Lib.hid (by rw [Htake2.out, List.all_append, HQ.out]; simp [Ho.out]), Hb2.out.alloc hwl2 _⟩
                case measure => simp [intOf]; omega
            · rcases hO with o2 | ⟨o2, o3⟩ | ⟨o2, o3⟩
              · have Ho := Lib.hid (show ordOK m.op ty = false by simp at k1 k2 o2; simp [ordOK, ordB, *])
                go_wp2_with fail
                go_ret
                refine ⟨ret_bool ?_, Hb.out.alloc hwl _⟩
                have hno : [tA, tB].all (ordOK m.op) = false := List.all_eq_false.2 ⟨ty, List.mem_of_getElem? Hty.out, by simp [Ho.out]⟩
                rw [Hv.out]; simp only [List.map_cons, List.map_nil]; rw [hno]; simp
              · have Ho := Lib.hid (show ordOK m.op ty = false by simp at k1 k2 o2 o3; simp [ordOK, ordB, *])
                go_wp2_with fail
                go_ret
                refine ⟨ret_bool ?_, Hb.out.alloc hwl _⟩
                have hno : [tA, tB].all (ordOK m.op) = false := List.all_eq_false.2 ⟨ty, List.mem_of_getElem? Hty.out, by simp [Ho.out]⟩
                rw [Hv.out]; simp only [List.map_cons, List.map_nil]; rw [hno]; simp
              · have Ho := Lib.hid (show ordOK m.op ty = true by simp at k1 k2 o2 o3; simp [ordOK, ordB, *])
                go_wp2_with fail
                go_roundw
                case rel => exact ⟨j + 1, by omega, by go_num, Lib.hid (by rw [Htake2.out, List.all_append, HQ.out]; simp [Ho.out]), Hb2.out.alloc hwl2 _⟩
                case measure => simp [intOf]; omega
end Go.Proofs.Ytogenjbabgibbaa
