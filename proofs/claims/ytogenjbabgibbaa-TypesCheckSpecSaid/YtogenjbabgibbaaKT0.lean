import Derived.Test.YtogenjbabgibbaaKS
namespace Go.Proofs.Ytogenjbabgibbaa
open Go.RowKit
def rpairOK (us : List UnitD) : List TyD → Bool
  | [] => false
  | [y, z] => rcmpB us y z
  | _ => true
def ratomB (s : SourceD) (fs : List FromD) (m : AtomD) : Bool :=
  decide (1 ≤ m.op) && decide (m.op ≤ 4) && ([m.a, m.b].all (rtermB s fs) && (rpairOK s.units (atomTys s fs m) && (atomTys s fs m).all (ordOK m.op)))
theorem ord_eq (t : TyD) (an : Option Addr) (kn : Nat) (w : World) (r : Bool) (hr : ordB t = r) : Calls Try.prog 78 #[t.val an kn] w fun e w' => e = .returned (.bool r) ∧ Below w.heap.size w w' := by
  subst hr
  exact ord_any t an kn w
theorem rcmp_eq (s : SourceD) (p : SrcAt) (a b : TyD) (aa ab : Option Addr) (ka kb : Nat) (w : World) (hs : Src w s p) (ha : Sl 1 RStr w aa a.names) (hb : Sl 1 RStr w ab b.names) (hl : a.names.length ≤ 100000)
    (ua : unitIn s.units a) (ub : unitIn s.units b) (r : Bool) (hr : rcmpB s.units a b = r) :
    Calls Try.prog 44 #[s.val p, a.val aa ka, b.val ab kb] w fun e w' => e = .returned (.bool r) ∧ Below w.heap.size w w' := by
  subst hr
  exact rcmp_any s p a b aa ab ka kb w hs ha hb hl ua ub
theorem term_in {s : SourceD} {p : SrcAt} {fs : List FromD} {fa : Option Addr} {t : TermD} {w : World} (hs : Src w s p) (hf : Sl 8 RFromD w fa fs) (h : rtermB s fs t = true) (hm : ¬ t.var = -1) :
    ∃ (b off : Nat) (sc : Int) (y : TyD) (an : Option Addr) (kn : Nat), fa = some ⟨b, off, none⟩ ∧ b < w.heap.size ∧ 0 ≤ t.var ∧ t.var < (fs.length : Int) ∧ w.cell? ⟨b, off + t.var.toNat * 8 + 2, none⟩ = some (.int .i64 sc) ∧
      termTy? s fs t fs.length = some y ∧ Sl 1 RStr w an y.names ∧ ∀ w', Below w.heap.size w w' → Calls Try.prog 39 #[s.val p, .int .i64 sc, .int .i64 t.field] w' fun e w'' => e = .returned (y.val an kn) ∧ Below w'.heap.size w' w'' := by
  unfold rtermB at h
  rw [if_neg hm] at h
  obtain ⟨y, hy⟩ := Option.isSome_iff_exists.1 h
  by_cases h01 : 0 ≤ t.var ∧ t.var < fs.length
  case neg => unfold termTy? at hy; rw [if_neg h01] at hy; cases hy
  have hlt : t.var.toNat < fs.length := by omega
  obtain ⟨b, off, e1, hl_c, _, c0, c1, c2, c3, c4, c5, c6, c7⟩ := FromD.out hf t.var.toNat hlt
  have hty : typeOf? s fs[t.var.toNat].schema t.field = some y := by
    have hy2 := hy
    unfold termTy? at hy2; rw [if_pos h01, List.getElem?_eq_getElem hlt] at hy2; exact hy2
  obtain ⟨an, kn, hn, hc⟩ := rtypeOf_fix s p fs[t.var.toNat].schema t.field y hty w hs
  exact ⟨b, off, fs[t.var.toNat].schema, y, an, kn, e1, hl_c, h01.1, h01.2, c2, hy, hn, hc⟩
theorem term_no {s : SourceD} {fs : List FromD} {t : TermD} {n : Int} (h : t.var = -1) : termTy? s fs t n = none := by unfold termTy?; rw [if_neg (by omega)]
end Go.Proofs.Ytogenjbabgibbaa
