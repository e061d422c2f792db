import Derived.Test.YtogenjbabgibbaaKO
namespace Go.Proofs.Ytogenjbabgibbaa
open Go.RowKit
def refIn (s : SourceD) (r : RefD) : Bool := (typeOf? s r.schema r.field).isSome
def purpB (s : SourceD) (pu : PurposeD) : Bool := pu.may.all (refIn s) && (decide (0 ≤ pu.most) && decide (pu.most ≤ 64))
abbrev PurposeD.val (pu : PurposeD) (pa : Option Addr) (pk : Nat) : Value := .agg #[.string pu.name, .slice pa pu.may.length pk, .int .i64 pu.most]
set_option maxRecDepth 20000 in
set_option maxHeartbeats 4000000 in
theorem purposeOK_any (s : SourceD) (p : SrcAt) (pu : PurposeD) (pa : Option Addr) (pk : Nat) (wb : World) (hs : Src wb s p) (hp : Sl 4 RRefD wb pa pu.may) (w : World) (hbb : Below wb.heap.size wb w) (hl : pu.may.length ≤ 100000) :
    Calls Try.prog 32 #[s.val p, pu.val pa pk] w fun e w' => e = .returned (.bool (purpB s pu)) ∧ Below w.heap.size w w' := by
  have Hs := Lib.hid hs
  have Hp := Lib.hid (hp.below RRefD.stab hbb)
  have Hbb := Lib.hid hbb
  clear hs hp hbb
  go_enter Try.func32, Try.ntmps32
  go_wp2_with fail
  generalize hw0 : World.alloc _ _ = w0
  obtain ⟨X0, X1, hsz, hb0⟩ := blk2 hw0
  have x0 : w0.cell? ⟨w.heap.size, 0, none⟩ = some (.slice p.a0 s.issuers.length p.k0) := X0.cell 0
  have x1 : w0.cell? ⟨w.heap.size, 1, none⟩ = some (.slice p.a1 s.units.length p.k1) := X0.cell 1
  have x2 : w0.cell? ⟨w.heap.size, 2, none⟩ = some (.slice p.a2 s.schemas.length p.k2) := X0.cell 2
  have x3 : w0.cell? ⟨w.heap.size, 3, none⟩ = some (.slice p.a3 s.rules.length p.k3) := X0.cell 3
  have x4 : w0.cell? ⟨w.heap.size, 4, none⟩ = some (.slice p.a4 s.converts p.k4) := X0.cell 4
  have x5 : w0.cell? ⟨w.heap.size, 5, none⟩ = some (.slice p.a5 s.purposes.length p.k5) := X0.cell 5
  have hl_x : w.heap.size < w0.heap.size := by omega
  have y0 : w0.cell? ⟨w.heap.size + 1, 0, none⟩ = some (.string pu.name) := X1.cell 0
  have y1 : w0.cell? ⟨w.heap.size + 1, 1, none⟩ = some (.slice pa pu.may.length pk) := X1.cell 1
  have y2 : w0.cell? ⟨w.heap.size + 1, 2, none⟩ = some (.int .i64 pu.most) := X1.cell 2
  have hl_y : w.heap.size + 1 < w0.heap.size := by omega
  have hwl : w.heap.size ≤ w0.heap.size := hb0.size
  have Hb := Lib.hid hb0
  clear hw0 hb0 hsz X0 X1
  go_loopw [12] (fun i wr => ∃ k : Nat, k ≤ pu.may.length ∧ i = .int .i64 k ∧ Hid (PreP (refIn s) pu.may k) ∧ Below w0.heap.size w0 wr) (fun i _ => pu.may.length - (intOf i).toNat)
  case atStart => exact ⟨0, Nat.zero_le _, rfl, Lib.hid PreP.zero, Below.refl _ _⟩
  case round =>
    obtain ⟨k, hk, rfl, Hn, hb1⟩ := hrel
    have Hb1 := Lib.hid hb1
    have hwl1 := hb1.size
    replace x0 := cell_kept hb1 x0 hl_x
    replace x1 := cell_kept hb1 x1 hl_x
    replace x2 := cell_kept hb1 x2 hl_x
    replace x3 := cell_kept hb1 x3 hl_x
    replace x4 := cell_kept hb1 x4 hl_x
    replace x5 := cell_kept hb1 x5 hl_x
    replace y0 := cell_kept hb1 y0 hl_y
    replace y1 := cell_kept hb1 y1 hl_y
    replace y2 := cell_kept hb1 y2 hl_y
    replace Hb := Lib.hid (Hb.out.trans (hb1.mono hwl))
    replace hl_x := Nat.lt_of_lt_of_le hl_x hb1.size
    replace hl_y := Nat.lt_of_lt_of_le hl_y hb1.size
    replace hwl := Nat.le_trans hwl hb1.size
    clear hb1
    by_cases hlt : k < pu.may.length
    case neg =>
      have Hall := Lib.hid (Hn.out.all (by omega))
      go_wp2
      all_goals go_ret
      all_goals exact ⟨ret_bool (by unfold purpB; rw [Hall.out]; symm; simp; omega), Hb.out⟩
    have hlt' : (k : Int) < (pu.may.length : Int) := by omega
    obtain ⟨b, off, e1, hl_c, _, c0, c1, c2, c3⟩ := RefD.out (Hp.out.below RRefD.stab Hb.out) k hlt
    subst e1
    have hsuc := fun h => Hn.out.succ hlt h
    have hno := fun h => not_all (p := refIn s) hlt h
    generalize pu.may[k] = r at *
    have Hsuc := Lib.hid hsuc
    have Hno := Lib.hid hno
    clear hsuc hno
    go_wp2_with fail
    generalize hw0 : World.alloc _ _ = w2
    obtain ⟨X0, hsz, hb1⟩ := blk1 hw0
    have v0 : w2.cell? ⟨wr.heap.size, 0, none⟩ = some (.string r.name) := X0.cell 0
    have v1 : w2.cell? ⟨wr.heap.size, 1, none⟩ = some (.string r.path) := X0.cell 1
    have v2 : w2.cell? ⟨wr.heap.size, 2, none⟩ = some (.int .i64 r.schema) := X0.cell 2
    have v3 : w2.cell? ⟨wr.heap.size, 3, none⟩ = some (.int .i64 r.field) := X0.cell 3
    have hl_v : wr.heap.size < w2.heap.size := by omega
    replace x0 := cell_kept hb1 x0 hl_x
    replace x1 := cell_kept hb1 x1 hl_x
    replace x2 := cell_kept hb1 x2 hl_x
    replace x3 := cell_kept hb1 x3 hl_x
    replace x4 := cell_kept hb1 x4 hl_x
    replace x5 := cell_kept hb1 x5 hl_x
    replace y0 := cell_kept hb1 y0 hl_y
    replace y1 := cell_kept hb1 y1 hl_y
    replace y2 := cell_kept hb1 y2 hl_y
    replace c0 := cell_kept hb1 c0 hl_c
    replace c1 := cell_kept hb1 c1 hl_c
    replace c2 := cell_kept hb1 c2 hl_c
    replace c3 := cell_kept hb1 c3 hl_c
    replace Hb := Lib.hid (Hb.out.trans (hb1.mono hwl))
    replace Hb1 := Lib.hid (Hb1.out.trans (hb1.mono hwl1))
    replace hl_x := Nat.lt_of_lt_of_le hl_x hb1.size
    replace hl_y := Nat.lt_of_lt_of_le hl_y hb1.size
    replace hl_c := Nat.lt_of_lt_of_le hl_c hb1.size
    replace hwl := Nat.le_trans hwl hb1.size
    replace hwl1 := Nat.le_trans hwl1 hb1.size
    clear hb1
    clear hw0 hsz X0
    cases ht : typeOf? s r.schema r.field with
    | none =>
      refine (typeOf_no s p r.schema r.field ht _ (Hs.out.below (Hbb.out.trans (Hb.out.mono Hbb.out.size)))).mono ?_
      rintro e w3 ⟨rfl, hb1⟩
      replace x0 := cell_kept hb1 x0 hl_x
      replace x1 := cell_kept hb1 x1 hl_x
      replace x2 := cell_kept hb1 x2 hl_x
      replace x3 := cell_kept hb1 x3 hl_x
      replace x4 := cell_kept hb1 x4 hl_x
      replace x5 := cell_kept hb1 x5 hl_x
      replace y0 := cell_kept hb1 y0 hl_y
      replace y1 := cell_kept hb1 y1 hl_y
      replace y2 := cell_kept hb1 y2 hl_y
      replace v0 := cell_kept hb1 v0 hl_v
      replace v1 := cell_kept hb1 v1 hl_v
      replace v2 := cell_kept hb1 v2 hl_v
      replace v3 := cell_kept hb1 v3 hl_v
      replace Hb := Lib.hid (Hb.out.trans (hb1.mono hwl))
      replace Hb1 := Lib.hid (Hb1.out.trans (hb1.mono hwl1))
      replace hl_x := Nat.lt_of_lt_of_le hl_x hb1.size
      replace hl_y := Nat.lt_of_lt_of_le hl_y hb1.size
      replace hl_v := Nat.lt_of_lt_of_le hl_v hb1.size
      replace hwl := Nat.le_trans hwl hb1.size
      replace hwl1 := Nat.le_trans hwl1 hb1.size
      clear hb1
      go_wp2_with fail
      go_ret
      exact ⟨ret_bool (by unfold purpB; rw [Hno.out (by simp [refIn, ht])]; rfl), Hb.out.alloc hwl _⟩
    | some t =>
      refine (typeOf_at s p r.schema r.field t ht wb Hs.out _ (Hbb.out.trans (Hb.out.mono Hbb.out.size))).mono ?_
      rintro e w3 ⟨⟨an, kn, rfl, hn⟩, hb1⟩
      replace x0 := cell_kept hb1 x0 hl_x
      replace x1 := cell_kept hb1 x1 hl_x
      replace x2 := cell_kept hb1 x2 hl_x
      replace x3 := cell_kept hb1 x3 hl_x
      replace x4 := cell_kept hb1 x4 hl_x
      replace x5 := cell_kept hb1 x5 hl_x
      replace y0 := cell_kept hb1 y0 hl_y
      replace y1 := cell_kept hb1 y1 hl_y
      replace y2 := cell_kept hb1 y2 hl_y
      replace v0 := cell_kept hb1 v0 hl_v
      replace v1 := cell_kept hb1 v1 hl_v
      replace v2 := cell_kept hb1 v2 hl_v
      replace v3 := cell_kept hb1 v3 hl_v
      replace Hb := Lib.hid (Hb.out.trans (hb1.mono hwl))
      replace Hb1 := Lib.hid (Hb1.out.trans (hb1.mono hwl1))
      replace hl_x := Nat.lt_of_lt_of_le hl_x hb1.size
      replace hl_y := Nat.lt_of_lt_of_le hl_y hb1.size
      replace hl_v := Nat.lt_of_lt_of_le hl_v hb1.size
      replace hwl := Nat.le_trans hwl hb1.size
      replace hwl1 := Nat.le_trans hwl1 hb1.size
      clear hb1
      clear hn
      go_wp2_with fail
      go_roundw
      case rel => exact ⟨k + 1, by omega, by go_num, Lib.hid (Hsuc.out (by simp [refIn, ht])), Hb1.out.alloc hwl1 _⟩
      case measure => simp [intOf]; omega
end Go.Proofs.Ytogenjbabgibbaa
