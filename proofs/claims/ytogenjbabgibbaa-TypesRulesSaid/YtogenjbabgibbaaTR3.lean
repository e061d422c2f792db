import Derived.Test.YtogenjbabgibbaaTR2
import Derived.WideMake
namespace Go.Proofs.Ytogenjbabgibbaa
open Go.RowKit
theorem headLen_le {s : SourceD} (h : Few s) (n : Int) : headLen s n ≤ 100000 := by
  unfold headLen
  split
  · next x hx =>
    have := h.fields x (List.mem_of_getElem? hx)
    omega
  · omega
theorem nodup_notin {α : Type} {f : α → Int} {l : List α} {k : Nat} (hk : k < l.length) (h : (l.map f).Nodup) : f l[k] ∉ (l.take k).map f := fun hm => by
  obtain ⟨i, hi, he⟩ := List.getElem_of_mem hm
  simp only [List.length_map, List.length_take] at hi
  simp only [List.getElem_map, List.getElem_take] at he
  have := (List.getElem_inj h (i := i) (j := k) (h₀ := by simp; omega) (h₁ := by simpa using hk)).1 (by simpa using he)
  omega
theorem rule_facts {s : SourceD} {r : RuleD} (h : ruleB s r = true) : (∀ k, k < r.froms.length → fromB s r.froms k = true) ∧ (∀ m ∈ r.where_, atomB s r.froms m = true) ∧ (r.sets.length : Int) = headLen s r.schema - 1 ∧
    (∀ x ∈ r.sets, setIn s r x = true) ∧ (r.sets.map (·.field)).Nodup ∧ 0 ≤ r.schema ∧ r.schema < s.schemas.length ∧ r.froms.length ≤ 3 ∧ r.where_.length ≤ 8 := by
  unfold ruleB fromsB schIn at h
  simp only [Bool.and_eq_true, decide_eq_true_eq] at h
  obtain ⟨⟨⟨h1, h2⟩, h3⟩, h4, h5, ⟨h6, h7⟩, h8, h9, h10⟩ := h
  exact ⟨fun k hk => List.all_eq_true.1 h3 k (List.mem_range.2 hk), fun m hm => List.all_eq_true.1 h5 m hm, h8, fun x hx => List.all_eq_true.1 h9 x hx, h10, h6, h7, h2, h4⟩
set_option maxRecDepth 20000 in
set_option maxHeartbeats 8000000 in
theorem rules_main (s : SourceD) (p : SrcAt) (z : Int) (L : List (List Int)) (va : Option Addr) (vk : Nat) (w : World) (hs : Src w s p) (hn : Lens s) (hz0 : 0 ≤ z) (hz1 : z < 256) (hfew : fewB s = true) (hc : checkB s = 0)
    (hne : 0 < s.rules.length) (hL : Sl 1 (RSl 1 RInt) w va L) :
    Calls Try.prog 5 #[s.val p, .int .u8 z, .slice va L.length vk] w fun e w' => e = .returned (.bool true) ∧ Below w.heap.size w w' := by
  have hsh := (few_of hfew).short
  have hlim := limB_facts (check_zero hc).2.2.2.2
  obtain ⟨ix, hix⟩ : ∃ ix : Nat, ix = z.toNat % s.rules.length := ⟨_, rfl⟩
  have hixl : ix < s.rules.length := by rw [hix]; exact Nat.mod_lt _ hne
  obtain ⟨br, off, e1, hl_d, _, f2, l2, f3, l3, f4, l4, d0, d1, d2, d3, d4, g2, g3, g4⟩ := RuleD.out hs.h3 ix hixl
  have hrule : ruleB s s.rules[ix] = true := List.all_eq_true.1 (check_zero hc).2.2.1 _ (List.getElem_mem hixl)
  have hrem : Int.tmod z (s.rules.length : Int) = (ix : Int) := by
    rw [hix, Int.tmod_eq_emod_of_nonneg hz0, Int.natCast_emod, Int.toNat_of_nonneg hz0]
  generalize s.rules[ix] = r at *
  obtain ⟨a0, k0, a1, k1, a2, k2, a3, k3, a4, k4, a5, k5⟩ := p
  simp only at e1
  subst e1
  have Hs := Lib.hid hs
  have HL := Lib.hid hL
  have Hg2 := Lib.hid g2
  have Hg3 := Lib.hid g3
  have Hg4 := Lib.hid g4
  have hrf := rule_facts hrule
  have Hrf := Lib.hid hrf.1
  have Hrest := Lib.hid hrf.2
  have hfl3 := hrf.2.2.2.2.2.2.2.1
  have hle8 := hrf.2.2.2.2.2.2.2.2
  have Hgood := Lib.hid (good_of (check_zero hc).2.1)
  have Hc := Lib.hid hc
  have hwr : IntKind.i64.wrap (Int.tmod z (s.rules.length : Int)) = (ix : Int) := by rw [hrem]; exact IntWalk.i64_in _ (by have := hlim.2.2.1; omega)
  have Hlim := Lib.hid hlim
  have Hrem := Lib.hid hrem
  have hrl16 : s.rules.length ≤ 16 := hlim.2.2.1
  clear hs hL g2 g3 g4 hrule hrf hc hix hlim hrem
  go_enter Try.func5, Try.ntmps5
  go_wp2_with fail
  generalize hw0 : World.alloc _ _ = w0
  obtain ⟨X0, X1, hsz, hb0⟩ := blk2 hw0
  replace d0 := cell_kept hb0 d0 hl_d
  replace d1 := cell_kept hb0 d1 hl_d
  replace d2 := cell_kept hb0 d2 hl_d
  replace d3 := cell_kept hb0 d3 hl_d
  replace d4 := cell_kept hb0 d4 hl_d
  have hw_d := hl_d
  replace hl_d := Nat.lt_of_lt_of_le hl_d hb0.size
  have x0 : w0.cell? ⟨w.heap.size, 0, none⟩ = some (.slice a0 s.issuers.length k0) := X0.cell 0
  have x1 : w0.cell? ⟨w.heap.size, 1, none⟩ = some (.slice a1 s.units.length k1) := X0.cell 1
  have x2 : w0.cell? ⟨w.heap.size, 2, none⟩ = some (.slice a2 s.schemas.length k2) := X0.cell 2
  have x3 : w0.cell? ⟨w.heap.size, 3, none⟩ = some (.slice (some ⟨br, off, none⟩) s.rules.length k3) := X0.cell 3
  have x4 : w0.cell? ⟨w.heap.size, 4, none⟩ = some (.slice a4 s.converts k4) := X0.cell 4
  have x5 : w0.cell? ⟨w.heap.size, 5, none⟩ = some (.slice a5 s.purposes.length k5) := X0.cell 5
  have hl_x : w.heap.size < w0.heap.size := by omega
  have b0 : w0.cell? ⟨w.heap.size + 1, 0, none⟩ = some (.slice va L.length vk) := X1.cell 0
  have hl_b : w.heap.size + 1 < w0.heap.size := by omega
  have hwl : w.heap.size ≤ w0.heap.size := hb0.size
  have Hb := Lib.hid hb0
  clear hw0 hb0 hsz X0 X1
  refine (sane_any _).mono ?_
  rintro e w1 ⟨rfl, hb1⟩
  replace x0 := cell_kept hb1 x0 hl_x
  replace x1 := cell_kept hb1 x1 hl_x
  replace x2 := cell_kept hb1 x2 hl_x
  replace x3 := cell_kept hb1 x3 hl_x
  replace x4 := cell_kept hb1 x4 hl_x
  replace x5 := cell_kept hb1 x5 hl_x
  replace b0 := cell_kept hb1 b0 hl_b
  replace d0 := cell_kept hb1 d0 hl_d
  replace d1 := cell_kept hb1 d1 hl_d
  replace d2 := cell_kept hb1 d2 hl_d
  replace d3 := cell_kept hb1 d3 hl_d
  replace d4 := cell_kept hb1 d4 hl_d
  replace Hb := Lib.hid (Hb.out.trans (hb1.mono hwl))
  replace hl_x := Nat.lt_of_lt_of_le hl_x hb1.size
  replace hl_b := Nat.lt_of_lt_of_le hl_b hb1.size
  replace hl_d := Nat.lt_of_lt_of_le hl_d hb1.size
  replace hwl := Nat.le_trans hwl hb1.size
  clear hb1
  go_wp2_with fail
  refine (few_q s ⟨a0, k0, a1, k1, a2, k2, some ⟨br, off, none⟩, k3, a4, k4, a5, k5⟩ _ (Hs.out.below Hb.out) hn true hfew).mono ?_
  rintro e w2 ⟨rfl, hb1⟩
  replace x0 := cell_kept hb1 x0 hl_x
  replace x1 := cell_kept hb1 x1 hl_x
  replace x2 := cell_kept hb1 x2 hl_x
  replace x3 := cell_kept hb1 x3 hl_x
  replace x4 := cell_kept hb1 x4 hl_x
  replace x5 := cell_kept hb1 x5 hl_x
  replace b0 := cell_kept hb1 b0 hl_b
  replace d0 := cell_kept hb1 d0 hl_d
  replace d1 := cell_kept hb1 d1 hl_d
  replace d2 := cell_kept hb1 d2 hl_d
  replace d3 := cell_kept hb1 d3 hl_d
  replace d4 := cell_kept hb1 d4 hl_d
  replace Hb := Lib.hid (Hb.out.trans (hb1.mono hwl))
  replace hl_x := Nat.lt_of_lt_of_le hl_x hb1.size
  replace hl_b := Nat.lt_of_lt_of_le hl_b hb1.size
  replace hl_d := Nat.lt_of_lt_of_le hl_d hb1.size
  replace hwl := Nat.le_trans hwl hb1.size
  clear hb1
  have q0 : ((s.rules.length : Int) == 0) = false := beq_eq_false_iff_ne.2 (by omega)
  go_wp2_with fail
  refine (check_q s ⟨a0, k0, a1, k1, a2, k2, some ⟨br, off, none⟩, k3, a4, k4, a5, k5⟩ _ (Hs.out.below Hb.out) hfew 0 Hc.out).mono ?_
  rintro e w3 ⟨rfl, hb1⟩
  replace x0 := cell_kept hb1 x0 hl_x
  replace x1 := cell_kept hb1 x1 hl_x
  replace x2 := cell_kept hb1 x2 hl_x
  replace x3 := cell_kept hb1 x3 hl_x
  replace x4 := cell_kept hb1 x4 hl_x
  replace x5 := cell_kept hb1 x5 hl_x
  replace b0 := cell_kept hb1 b0 hl_b
  replace d0 := cell_kept hb1 d0 hl_d
  replace d1 := cell_kept hb1 d1 hl_d
  replace d2 := cell_kept hb1 d2 hl_d
  replace d3 := cell_kept hb1 d3 hl_d
  replace d4 := cell_kept hb1 d4 hl_d
  replace Hb := Lib.hid (Hb.out.trans (hb1.mono hwl))
  replace hl_x := Nat.lt_of_lt_of_le hl_x hb1.size
  replace hl_b := Nat.lt_of_lt_of_le hl_b hb1.size
  replace hl_d := Nat.lt_of_lt_of_le hl_d hb1.size
  replace hwl := Nat.le_trans hwl hb1.size
  clear hb1
  go_wp2_with fail
  refine wp_region_reps [42, 43, 44, 45, 46, 47, 48, 49, 50, 51, 7] (CPhi [.pointer (some ⟨w.heap.size, 3, none⟩), .slice (some ⟨br, off, none⟩) s.rules.length k3, .int .u8 z, .int .i64 z, .pointer (some ⟨w.heap.size, 3, none⟩), .slice (some ⟨br, off, none⟩) s.rules.length k3, .int .i64 s.rules.length, .int .i64 ix, .pointer (some ⟨br, off + ix * 5, none⟩), .agg #[.string r.head, .int .i64 r.schema, .slice f2 r.froms.length l2, .slice f3 r.where_.length l3, .slice f4 r.sets.length l4]] 10 w3.heap.size #[.string ⟨#[]⟩, .int .i64 0, .slice none 0 0, .slice none 0 0, .slice none 0 0] 47) (by kernel_rfl) (by kernel_rfl) (by kernel_rfl) (CPhi.stab _ _ _ _ _) ?_ ?_
  · intro i o hi ho a' w' hb hoth hd
    have hc : ∀ v, a'.eval (.const v) = v := fun _ => rfl
    have o3 : a'.eval (.tmp 3) = .pointer (some ⟨w.heap.size, 0, none⟩) := hoth 3 (by decide)
    have o1 : a'.eval (.tmp 1) = .int .u8 z := hoth 1 (by decide)
    replace x3 := cell_kept hb x3 hl_x
    replace d0 := cell_kept hb d0 hl_d
    replace d1 := cell_kept hb d1 hl_d
    replace d2 := cell_kept hb d2 hl_d
    replace d3 := cell_kept hb d3 hl_d
    replace d4 := cell_kept hb d4 hl_d
    have hB := hb.size
    have hz : IntKind.i64.wrap z = z := IntWalk.i64_in _ (by omega)
    have hne' : ¬ s.rules = [] := fun e => by rw [e] at hne; simp at hne
    have hixl' : (ix : Int) < (s.rules.length : Int) := by omega
    generalize a'.eval = E at *
    match i, hi with
    | 0, _ =>
      have ho' := Option.some.inj ho
      subst ho'
      simp [go_sem, repUpon, o3]
      exact ⟨Below.refl _ _, rfl⟩
    | 1, _ =>
      have ho' := Option.some.inj ho
      subst ho'
      have e0 : E (.tmp 42) = .pointer (some ⟨w.heap.size, 3, none⟩) := hd ⟨0, .data⟩ (by simp) rfl
      simp [go_sem, repUpon, e0, x3]
      exact ⟨Below.refl _ _, rfl⟩
    | 2, _ =>
      have ho' := Option.some.inj ho
      subst ho'
      simp [go_sem, repUpon, o1]
      exact ⟨Below.refl _ _, rfl⟩
    | 3, _ =>
      have ho' := Option.some.inj ho
      subst ho'
      have e2 : E (.tmp 44) = .int .u8 z := hd ⟨2, .data⟩ (by simp) rfl
      simp [go_sem, repUpon, e2, hz]
      exact ⟨Below.refl _ _, rfl⟩
    | 4, _ =>
      have ho' := Option.some.inj ho
      subst ho'
      simp [go_sem, repUpon, o3]
      exact ⟨Below.refl _ _, rfl⟩
    | 5, _ =>
      have ho' := Option.some.inj ho
      subst ho'
      have e4 : E (.tmp 46) = .pointer (some ⟨w.heap.size, 3, none⟩) := hd ⟨4, .data⟩ (by simp) rfl
      simp [go_sem, repUpon, e4, x3]
      exact ⟨Below.refl _ _, rfl⟩
    | 6, _ =>
      have ho' := Option.some.inj ho
      subst ho'
      have e5 : E (.tmp 47) = .slice (some ⟨br, off, none⟩) s.rules.length k3 := hd ⟨5, .data⟩ (by simp) rfl
      simp [go_sem, repUpon, e5]
      exact ⟨Below.refl _ _, rfl⟩
    | 7, _ =>
      have ho' := Option.some.inj ho
      subst ho'
      have e3 : E (.tmp 45) = .int .i64 z := hd ⟨3, .data⟩ (by simp) rfl
      have e6 : E (.tmp 48) = .int .i64 s.rules.length := hd ⟨6, .data⟩ (by simp) rfl
      simp [go_sem, repUpon, e3, e6, Hrem.out, hne']
      exact ⟨Below.refl _ _, rfl⟩
    | 8, _ =>
      have ho' := Option.some.inj ho
      subst ho'
      have e1 : E (.tmp 43) = .slice (some ⟨br, off, none⟩) s.rules.length k3 := hd ⟨1, .data⟩ (by simp) rfl
      have e7 : E (.tmp 49) = .int .i64 ix := hd ⟨7, .data⟩ (by simp) rfl
      simp [go_sem, repUpon, e1, e7, hixl']
      exact ⟨Below.refl _ _, rfl⟩
    | 9, _ =>
      have ho' := Option.some.inj ho
      subst ho'
      have e8 : E (.tmp 50) = .pointer (some ⟨br, off + ix * 5, none⟩) := hd ⟨8, .data⟩ (by simp) rfl
      simp [go_sem, repUpon, e8, d0, d1, d2, d3, d4]
      exact ⟨Below.refl _ _, rfl⟩
    | 10, _ =>
      have ho' := Option.some.inj ho
      subst ho'
      simp [go_sem, repUpon]
      exact ⟨(Below.refl _ _).alloc (Nat.le_refl _) _, ⟨_, hB, rfl, Blk.new _ _ _⟩⟩

    | i + 11, hi => exact absurd hi (by simp)
  · intro f w' hb1 hp
    obtain ⟨gr, hgr, hv10, Bg⟩ : ∃ g, w3.heap.size ≤ g ∧ f 7 = .pointer (some ⟨g, 0, none⟩) ∧ Blk w' g #[.string ⟨#[]⟩, .int .i64 0, .slice none 0 0, .slice none 0 0, .slice none 0 0] 47 := hp 10 (by decide)
    have hv9 : f 51 = .agg #[.string r.head, .int .i64 r.schema, .slice f2 r.froms.length l2, .slice f3 r.where_.length l3, .slice f4 r.sets.length l4] := hp 9 (by decide)
    clear hp
    have hne1 : gr ≠ w.heap.size := by omega
    have hne2 : gr ≠ w.heap.size + 1 := by omega
    have hge : w.heap.size + 1 < gr := by omega
    replace x0 := cell_kept hb1 x0 hl_x
    replace x1 := cell_kept hb1 x1 hl_x
    replace x2 := cell_kept hb1 x2 hl_x
    replace x3 := cell_kept hb1 x3 hl_x
    replace x4 := cell_kept hb1 x4 hl_x
    replace x5 := cell_kept hb1 x5 hl_x
    replace b0 := cell_kept hb1 b0 hl_b
    replace Hb := Lib.hid (Hb.out.trans (hb1.mono hwl))
    replace hl_x := Nat.lt_of_lt_of_le hl_x hb1.size
    replace hl_b := Nat.lt_of_lt_of_le hl_b hb1.size
    replace hwl := Nat.le_trans hwl hb1.size
    clear hb1
    have HBu := Lib.hid Bg
    have hl_u := Bg.lt
    clear Bg d0 d1 d2 d3 d4 hl_d
    simp [puts, Act.put]
    rw [hv9, hv10]
    have u0 : w'.cell? ⟨gr, 0, none⟩ = some (.string ⟨#[]⟩) := HBu.out.cell 0
    have u1 : w'.cell? ⟨gr, 1, none⟩ = some (.int .i64 0) := HBu.out.cell 1
    have u2 : w'.cell? ⟨gr, 2, none⟩ = some (.slice none 0 0) := HBu.out.cell 2
    have u3 : w'.cell? ⟨gr, 3, none⟩ = some (.slice none 0 0) := HBu.out.cell 3
    have u4 : w'.cell? ⟨gr, 4, none⟩ = some (.slice none 0 0) := HBu.out.cell 4
    have u_0 := HBu.out.frozen 0
    have u_1 := HBu.out.frozen 1
    have u_2 := HBu.out.frozen 2
    have u_3 := HBu.out.frozen 3
    have u_4 := HBu.out.frozen 4
    go_wp2_with fail
    generalize hw0 : World.setCell _ _ _ = w4
    obtain ⟨X0, hoth, hsz, hbel, hblk⟩ := stored (vs := [.string r.head, .int .i64 r.schema, .slice f2 r.froms.length l2, .slice f3 r.where_.length l3, .slice f4 r.sets.length l4]) HBu.out rfl hw0
    replace x0 := hoth x0 (by omega)
    replace x1 := hoth x1 (by omega)
    replace x2 := hoth x2 (by omega)
    replace x3 := hoth x3 (by omega)
    replace x4 := hoth x4 (by omega)
    replace x5 := hoth x5 (by omega)
    replace b0 := hoth b0 (by omega)
    replace u0 : w4.cell? ⟨gr, 0, none⟩ = some (.string r.head) := X0.cell 0
    replace u1 : w4.cell? ⟨gr, 1, none⟩ = some (.int .i64 r.schema) := X0.cell 1
    replace u2 : w4.cell? ⟨gr, 2, none⟩ = some (.slice f2 r.froms.length l2) := X0.cell 2
    replace u3 : w4.cell? ⟨gr, 3, none⟩ = some (.slice f3 r.where_.length l3) := X0.cell 3
    replace u4 : w4.cell? ⟨gr, 4, none⟩ = some (.slice f4 r.sets.length l4) := X0.cell 4
    replace HBu := Lib.hid X0
    replace Hb := Lib.hid (Hb.out.trans (hbel w.heap.size (by omega)))
    replace hl_x : w.heap.size < w4.heap.size := by omega
    replace hl_b : w.heap.size + 1 < w4.heap.size := by omega
    replace hl_u : gr < w4.heap.size := by omega
    replace hwl : w.heap.size ≤ w4.heap.size := by omega
    clear hw0 hoth hsz hbel hblk X0
    clear u_0 u_1 u_2 u_3 u_4
    go_loopw [56] (fun i wr => ∃ k : Nat, k ≤ r.froms.length ∧ i = .int .i64 k ∧ Hid (VL s r.froms L k) ∧ Below w4.heap.size w4 wr) (fun i _ => r.froms.length - (intOf i).toNat)
    case atStart => exact ⟨0, Nat.zero_le _, rfl, Lib.hid VL.zero, Below.refl _ _⟩
    case round =>
      obtain ⟨k, hk, rfl, Hn, hb1⟩ := hrel
      have Hb1 := Lib.hid hb1
      have hwl1 := hb1.size
      replace x0 := cell_kept hb1 x0 hl_x
      replace x1 := cell_kept hb1 x1 hl_x
      replace x2 := cell_kept hb1 x2 hl_x
      replace x3 := cell_kept hb1 x3 hl_x
      replace x4 := cell_kept hb1 x4 hl_x
      replace x5 := cell_kept hb1 x5 hl_x
      replace b0 := cell_kept hb1 b0 hl_b
      replace u0 := cell_kept hb1 u0 hl_u
      replace u1 := cell_kept hb1 u1 hl_u
      replace u2 := cell_kept hb1 u2 hl_u
      replace u3 := cell_kept hb1 u3 hl_u
      replace u4 := cell_kept hb1 u4 hl_u
      replace Hb := Lib.hid (Hb.out.trans (hb1.mono hwl))
      replace hl_x := Nat.lt_of_lt_of_le hl_x hb1.size
      replace hl_b := Nat.lt_of_lt_of_le hl_b hb1.size
      replace hl_u := Nat.lt_of_lt_of_le hl_u hb1.size
      replace hwl := Nat.le_trans hwl hb1.size
      clear hb1
      by_cases hlt : k < r.froms.length
      case neg =>
        have hkn : k = r.froms.length := by omega
        subst hkn
        have HVL := Hn
        clear Hn hk hlt
        have hsetb : r.sets.length ≤ 100000 := by have h1 := Hrest.out.2.1; have h2 := headLen_le (few_of hfew) r.schema; omega
        have hmk : ∀ W : World, (Instr.makeMap 59 none).run Try.prog W = .ok (.map (some W.heap.size)) (W.alloc (.map #[] 0)) := fun W => run_makeMap_plain W 59
        go_wp2_with fail
        clear hmk
        obtain ⟨wo, rfl⟩ : ∃ wo : World, wo = wr := ⟨_, rfl⟩
        go_loopw [138] (fun i wr => ∃ k : Nat, k ≤ r.sets.length ∧ i = .int .i64 k ∧ Hid (GZ Try.prog 3 4 wr wo.heap.size k k (intSet ((r.sets.take k).map (·.field)))) ∧ Below wo.heap.size wo wr) (fun i _ => r.sets.length - (intOf i).toNat)
        case atStart => exact ⟨0, Nat.zero_le _, rfl, Lib.hid ((GZ.made ..).ext (fun l => by unfold intSet; split <;> simp)), (Below.refl _ _).alloc (Nat.le_refl _) _⟩
        case round =>
          obtain ⟨k, hk, rfl, HZ, hb1⟩ := hrel
          have Hb2 := Lib.hid hb1
          have hwl2 := hb1.size
          replace x0 := cell_kept hb1 x0 hl_x
          replace x1 := cell_kept hb1 x1 hl_x
          replace x2 := cell_kept hb1 x2 hl_x
          replace x3 := cell_kept hb1 x3 hl_x
          replace x4 := cell_kept hb1 x4 hl_x
          replace x5 := cell_kept hb1 x5 hl_x
          replace b0 := cell_kept hb1 b0 hl_b
          replace u0 := cell_kept hb1 u0 hl_u
          replace u1 := cell_kept hb1 u1 hl_u
          replace u2 := cell_kept hb1 u2 hl_u
          replace u3 := cell_kept hb1 u3 hl_u
          replace u4 := cell_kept hb1 u4 hl_u
          replace Hb := Lib.hid (Hb.out.trans (hb1.mono hwl))
          replace Hb1 := Lib.hid (Hb1.out.trans (hb1.mono hwl1))
          replace hl_x := Nat.lt_of_lt_of_le hl_x hb1.size
          replace hl_b := Nat.lt_of_lt_of_le hl_b hb1.size
          replace hl_u := Nat.lt_of_lt_of_le hl_u hb1.size
          replace hwl := Nat.le_trans hwl hb1.size
          replace hwl1 := Nat.le_trans hwl1 hb1.size
          clear hb1
          have hmb := HZ.out.lt
          by_cases hlt : k < r.sets.length
          case neg =>
            have hkn : k = r.sets.length := by omega
            subst hkn
            have hsc0 := Hrest.out.2.2.2.2.1
            have hsc1 := Hrest.out.2.2.2.2.2.1
            have hsl : r.schema.toNat < s.schemas.length := by omega
            obtain ⟨bs, os, e3, hl_d, _, fa, fk, da, dk, d0, d1, d2, d3, d4, d5, -⟩ := SchemaD.out ((Hs.out.below Hb.out).h2) r.schema.toNat hsl
            simp only at e3
            subst e3
            have hfl : (r.sets.length : Int) = ((s.schemas[r.schema.toNat]).fields.length : Int) - 1 := by have h := Hrest.out.2.1; unfold headLen at h; rw [List.getElem?_eq_getElem hsl] at h; exact h
            generalize (s.schemas[r.schema.toNat]).fields.length = fl at *
            have hw1 : IntKind.i64.wrap ((fl : Int) - 1) = (fl : Int) - 1 := IntWalk.i64_in _ (by omega)
            have e5 : ((r.sets.length : Int) != (fl : Int) - 1) = false := by rw [hfl]; simp
            have hrl : ∀ n : GW wr, (Builtin.len_ #[59] 3 #[.map (some wo.heap.size)]).run Try.prog (grown wr n) = .ok (.int .i64 r.sets.length) (grown wr n) := fun n => run_len_gz Try.underlying59 (HZ.out.below (grown_below _ n) hmb) 3
            have Hfl := Lib.hid hfl
            clear hfl d0 d1 d2 d3 d5 hlt hk
            go_wp2_with fail
            refine wp_region_grown (by kernel_rfl) (by kernel_rfl) ?_
            repeat (go_big_quiet_step (fail))
            refine wpQuiet_nil ?_
            intro w5 hw0
            have hb1 : Below wr.heap.size wr w5 := by obtain ⟨n, rfl⟩ := hw0; exact grown_below _ n
            clear hw0
            replace x0 := cell_kept hb1 x0 hl_x
            replace x1 := cell_kept hb1 x1 hl_x
            replace x2 := cell_kept hb1 x2 hl_x
            replace x3 := cell_kept hb1 x3 hl_x
            replace x4 := cell_kept hb1 x4 hl_x
            replace x5 := cell_kept hb1 x5 hl_x
            replace b0 := cell_kept hb1 b0 hl_b
            replace u0 := cell_kept hb1 u0 hl_u
            replace u1 := cell_kept hb1 u1 hl_u
            replace u2 := cell_kept hb1 u2 hl_u
            replace u3 := cell_kept hb1 u3 hl_u
            replace u4 := cell_kept hb1 u4 hl_u
            replace d4 := cell_kept hb1 d4 hl_d
            replace Hb := Lib.hid (Hb.out.trans (hb1.mono hwl))
            replace Hb1 := Lib.hid (Hb1.out.trans (hb1.mono hwl1))
            replace Hb2 := Lib.hid (Hb2.out.trans (hb1.mono hwl2))
            replace hl_x := Nat.lt_of_lt_of_le hl_x hb1.size
            replace hl_b := Nat.lt_of_lt_of_le hl_b hb1.size
            replace hl_u := Nat.lt_of_lt_of_le hl_u hb1.size
            replace hl_d := Nat.lt_of_lt_of_le hl_d hb1.size
            replace hwl := Nat.le_trans hwl hb1.size
            replace hwl1 := Nat.le_trans hwl1 hb1.size
            replace hwl2 := Nat.le_trans hwl2 hb1.size
            clear hb1
            clear hrl d4 hl_d
            go_wp2_with fail
            go_loopw [191] (fun i wr => ∃ k : Nat, k ≤ r.where_.length ∧ i = .int .i64 k ∧ Below w5.heap.size w5 wr) (fun i _ => r.where_.length - (intOf i).toNat)
            case atStart => exact ⟨0, Nat.zero_le _, rfl, Below.refl _ _⟩
            case round =>
              obtain ⟨k, hk, rfl, hb1⟩ := hrel
              have Hb3 := Lib.hid hb1
              have hwl3 := hb1.size
              replace x0 := cell_kept hb1 x0 hl_x
              replace x1 := cell_kept hb1 x1 hl_x
              replace x2 := cell_kept hb1 x2 hl_x
              replace x3 := cell_kept hb1 x3 hl_x
              replace x4 := cell_kept hb1 x4 hl_x
              replace x5 := cell_kept hb1 x5 hl_x
              replace b0 := cell_kept hb1 b0 hl_b
              replace u0 := cell_kept hb1 u0 hl_u
              replace u1 := cell_kept hb1 u1 hl_u
              replace u2 := cell_kept hb1 u2 hl_u
              replace u3 := cell_kept hb1 u3 hl_u
              replace u4 := cell_kept hb1 u4 hl_u
              replace Hb := Lib.hid (Hb.out.trans (hb1.mono hwl))
              replace Hb1 := Lib.hid (Hb1.out.trans (hb1.mono hwl1))
              replace Hb2 := Lib.hid (Hb2.out.trans (hb1.mono hwl2))
              replace hl_x := Nat.lt_of_lt_of_le hl_x hb1.size
              replace hl_b := Nat.lt_of_lt_of_le hl_b hb1.size
              replace hl_u := Nat.lt_of_lt_of_le hl_u hb1.size
              replace hwl := Nat.le_trans hwl hb1.size
              replace hwl1 := Nat.le_trans hwl1 hb1.size
              replace hwl2 := Nat.le_trans hwl2 hb1.size
              clear hb1
              by_cases hlt : k < r.where_.length
              case neg =>
                go_wp2_with fail
                go_ret
                exact ⟨rfl, Hb.out⟩
              have hlt' : (k : Int) < (r.where_.length : Int) := by omega
              obtain ⟨ba, oa, e1, hl_c, _, c0, c1, c2, c3, c4, c5, c6, c7, c8, c9, c10⟩ := AtomD.out (Hg3.out.below RAtomD.stab Hb.out) k hlt
              subst e1
              have hat := atom_val Hc.out HVL.out (Hrest.out.1 r.where_[k] (List.getElem_mem hlt))
              generalize r.where_[k] = m at *
              obtain ⟨⟨va', hva⟩, ⟨vb', hvb⟩, hcase⟩ := hat
              have Hva := Lib.hid hva
              have Hvb := Lib.hid hvb
              have Hcase := Lib.hid hcase
              clear hva hvb hcase
              go_wp2_with fail
              generalize hw0 : World.alloc _ _ = w6
              obtain ⟨X0, hsz, hb1⟩ := blk1 hw0
              have z0 : w6.cell? ⟨wr.heap.size, 0, none⟩ = some (.int .i64 m.op) := X0.cell 0
              have z1 : w6.cell? ⟨wr.heap.size, 1, none⟩ = some (.string m.a.name) := X0.cell 1
              have z2 : w6.cell? ⟨wr.heap.size, 2, none⟩ = some (.string m.a.path) := X0.cell 2
              have z3 : w6.cell? ⟨wr.heap.size, 3, none⟩ = some (.int .i64 m.a.var) := X0.cell 3
              have z4 : w6.cell? ⟨wr.heap.size, 4, none⟩ = some (.int .i64 m.a.field) := X0.cell 4
              have z5 : w6.cell? ⟨wr.heap.size, 5, none⟩ = some (.int .i64 m.a.n) := X0.cell 5
              have z6 : w6.cell? ⟨wr.heap.size, 6, none⟩ = some (.string m.b.name) := X0.cell 6
              have z7 : w6.cell? ⟨wr.heap.size, 7, none⟩ = some (.string m.b.path) := X0.cell 7
              have z8 : w6.cell? ⟨wr.heap.size, 8, none⟩ = some (.int .i64 m.b.var) := X0.cell 8
              have z9 : w6.cell? ⟨wr.heap.size, 9, none⟩ = some (.int .i64 m.b.field) := X0.cell 9
              have z10 : w6.cell? ⟨wr.heap.size, 10, none⟩ = some (.int .i64 m.b.n) := X0.cell 10
              have hl_z : wr.heap.size < w6.heap.size := by omega
              replace x0 := cell_kept hb1 x0 hl_x
              replace x1 := cell_kept hb1 x1 hl_x
              replace x2 := cell_kept hb1 x2 hl_x
              replace x3 := cell_kept hb1 x3 hl_x
              replace x4 := cell_kept hb1 x4 hl_x
              replace x5 := cell_kept hb1 x5 hl_x
              replace b0 := cell_kept hb1 b0 hl_b
              replace u0 := cell_kept hb1 u0 hl_u
              replace u1 := cell_kept hb1 u1 hl_u
              replace u2 := cell_kept hb1 u2 hl_u
              replace u3 := cell_kept hb1 u3 hl_u
              replace u4 := cell_kept hb1 u4 hl_u
              replace c0 := cell_kept hb1 c0 hl_c
              replace c1 := cell_kept hb1 c1 hl_c
              replace c2 := cell_kept hb1 c2 hl_c
              replace c3 := cell_kept hb1 c3 hl_c
              replace c4 := cell_kept hb1 c4 hl_c
              replace c5 := cell_kept hb1 c5 hl_c
              replace c6 := cell_kept hb1 c6 hl_c
              replace c7 := cell_kept hb1 c7 hl_c
              replace c8 := cell_kept hb1 c8 hl_c
              replace c9 := cell_kept hb1 c9 hl_c
              replace c10 := cell_kept hb1 c10 hl_c
              replace Hb := Lib.hid (Hb.out.trans (hb1.mono hwl))
              replace Hb1 := Lib.hid (Hb1.out.trans (hb1.mono hwl1))
              replace Hb2 := Lib.hid (Hb2.out.trans (hb1.mono hwl2))
              replace Hb3 := Lib.hid (Hb3.out.trans (hb1.mono hwl3))
              replace hl_x := Nat.lt_of_lt_of_le hl_x hb1.size
              replace hl_b := Nat.lt_of_lt_of_le hl_b hb1.size
              replace hl_u := Nat.lt_of_lt_of_le hl_u hb1.size
              replace hl_c := Nat.lt_of_lt_of_le hl_c hb1.size
              replace hwl := Nat.le_trans hwl hb1.size
              replace hwl1 := Nat.le_trans hwl1 hb1.size
              replace hwl2 := Nat.le_trans hwl2 hb1.size
              replace hwl3 := Nat.le_trans hwl3 hb1.size
              clear hb1
              clear hw0 hsz X0
              clear c0 c1 c2 c3 c4 c5 c6 c7 c8 c9 c10 hl_c
              go_wp2_with fail
              refine (value_cl r.froms.length _ _ L _ _ gr (w.heap.size + 1) m.a va' Hva.out _ (HL.out.below (RSl.stab RInt.stab) Hb.out) hl_u u2 hl_b b0).mono ?_
              rintro e w7 ⟨rfl, hb1⟩
              replace x0 := cell_kept hb1 x0 hl_x
              replace x1 := cell_kept hb1 x1 hl_x
              replace x2 := cell_kept hb1 x2 hl_x
              replace x3 := cell_kept hb1 x3 hl_x
              replace x4 := cell_kept hb1 x4 hl_x
              replace x5 := cell_kept hb1 x5 hl_x
              replace b0 := cell_kept hb1 b0 hl_b
              replace u0 := cell_kept hb1 u0 hl_u
              replace u1 := cell_kept hb1 u1 hl_u
              replace u2 := cell_kept hb1 u2 hl_u
              replace u3 := cell_kept hb1 u3 hl_u
              replace u4 := cell_kept hb1 u4 hl_u
              replace z0 := cell_kept hb1 z0 hl_z
              replace z1 := cell_kept hb1 z1 hl_z
              replace z2 := cell_kept hb1 z2 hl_z
              replace z3 := cell_kept hb1 z3 hl_z
              replace z4 := cell_kept hb1 z4 hl_z
              replace z5 := cell_kept hb1 z5 hl_z
              replace z6 := cell_kept hb1 z6 hl_z
              replace z7 := cell_kept hb1 z7 hl_z
              replace z8 := cell_kept hb1 z8 hl_z
              replace z9 := cell_kept hb1 z9 hl_z
              replace z10 := cell_kept hb1 z10 hl_z
              replace Hb := Lib.hid (Hb.out.trans (hb1.mono hwl))
              replace Hb1 := Lib.hid (Hb1.out.trans (hb1.mono hwl1))
              replace Hb2 := Lib.hid (Hb2.out.trans (hb1.mono hwl2))
              replace Hb3 := Lib.hid (Hb3.out.trans (hb1.mono hwl3))
              replace hl_x := Nat.lt_of_lt_of_le hl_x hb1.size
              replace hl_b := Nat.lt_of_lt_of_le hl_b hb1.size
              replace hl_u := Nat.lt_of_lt_of_le hl_u hb1.size
              replace hl_z := Nat.lt_of_lt_of_le hl_z hb1.size
              replace hwl := Nat.le_trans hwl hb1.size
              replace hwl1 := Nat.le_trans hwl1 hb1.size
              replace hwl2 := Nat.le_trans hwl2 hb1.size
              replace hwl3 := Nat.le_trans hwl3 hb1.size
              clear hb1
              go_wp2_with fail
              refine (value_cl r.froms.length _ _ L _ _ gr (w.heap.size + 1) m.b vb' Hvb.out _ (HL.out.below (RSl.stab RInt.stab) Hb.out) hl_u u2 hl_b b0).mono ?_
              rintro e w8 ⟨rfl, hb1⟩
              replace x0 := cell_kept hb1 x0 hl_x
              replace x1 := cell_kept hb1 x1 hl_x
              replace x2 := cell_kept hb1 x2 hl_x
              replace x3 := cell_kept hb1 x3 hl_x
              replace x4 := cell_kept hb1 x4 hl_x
              replace x5 := cell_kept hb1 x5 hl_x
              replace b0 := cell_kept hb1 b0 hl_b
              replace u0 := cell_kept hb1 u0 hl_u
              replace u1 := cell_kept hb1 u1 hl_u
              replace u2 := cell_kept hb1 u2 hl_u
              replace u3 := cell_kept hb1 u3 hl_u
              replace u4 := cell_kept hb1 u4 hl_u
              replace z0 := cell_kept hb1 z0 hl_z
              replace z1 := cell_kept hb1 z1 hl_z
              replace z2 := cell_kept hb1 z2 hl_z
              replace z3 := cell_kept hb1 z3 hl_z
              replace z4 := cell_kept hb1 z4 hl_z
              replace z5 := cell_kept hb1 z5 hl_z
              replace z6 := cell_kept hb1 z6 hl_z
              replace z7 := cell_kept hb1 z7 hl_z
              replace z8 := cell_kept hb1 z8 hl_z
              replace z9 := cell_kept hb1 z9 hl_z
              replace z10 := cell_kept hb1 z10 hl_z
              replace Hb := Lib.hid (Hb.out.trans (hb1.mono hwl))
              replace Hb1 := Lib.hid (Hb1.out.trans (hb1.mono hwl1))
              replace Hb2 := Lib.hid (Hb2.out.trans (hb1.mono hwl2))
              replace Hb3 := Lib.hid (Hb3.out.trans (hb1.mono hwl3))
              replace hl_x := Nat.lt_of_lt_of_le hl_x hb1.size
              replace hl_b := Nat.lt_of_lt_of_le hl_b hb1.size
              replace hl_u := Nat.lt_of_lt_of_le hl_u hb1.size
              replace hl_z := Nat.lt_of_lt_of_le hl_z hb1.size
              replace hwl := Nat.le_trans hwl hb1.size
              replace hwl1 := Nat.le_trans hwl1 hb1.size
              replace hwl2 := Nat.le_trans hwl2 hb1.size
              replace hwl3 := Nat.le_trans hwl3 hb1.size
              clear hb1
              rcases Hcase.out with ⟨p1, p2⟩ | ⟨p1, p2⟩ | ⟨p1, p2, h1, h2, hal⟩
              · clear Hcase
                have e0 : decide (m.a.var < 0) = true := decide_eq_true p1
                have e1 : decide (m.b.var < 0) = false := decide_eq_false (by omega)
                have e2 : decide ((0 : Int) ≤ m.a.var) = false := decide_eq_false (by omega)
                go_wp2_with fail
                refine wp_region_grown (by kernel_rfl) (by kernel_rfl) ?_
                repeat (go_big_quiet_step (fail))
                refine wpQuiet_nil ?_
                intro w9 hw0
                have hb1 : Below w8.heap.size w8 w9 := by obtain ⟨n, rfl⟩ := hw0; exact grown_below _ n
                clear hw0
                replace x0 := cell_kept hb1 x0 hl_x
                replace x1 := cell_kept hb1 x1 hl_x
                replace x2 := cell_kept hb1 x2 hl_x
                replace x3 := cell_kept hb1 x3 hl_x
                replace x4 := cell_kept hb1 x4 hl_x
                replace x5 := cell_kept hb1 x5 hl_x
                replace b0 := cell_kept hb1 b0 hl_b
                replace u0 := cell_kept hb1 u0 hl_u
                replace u1 := cell_kept hb1 u1 hl_u
                replace u2 := cell_kept hb1 u2 hl_u
                replace u3 := cell_kept hb1 u3 hl_u
                replace u4 := cell_kept hb1 u4 hl_u
                replace z0 := cell_kept hb1 z0 hl_z
                replace z1 := cell_kept hb1 z1 hl_z
                replace z2 := cell_kept hb1 z2 hl_z
                replace z3 := cell_kept hb1 z3 hl_z
                replace z4 := cell_kept hb1 z4 hl_z
                replace z5 := cell_kept hb1 z5 hl_z
                replace z6 := cell_kept hb1 z6 hl_z
                replace z7 := cell_kept hb1 z7 hl_z
                replace z8 := cell_kept hb1 z8 hl_z
                replace z9 := cell_kept hb1 z9 hl_z
                replace z10 := cell_kept hb1 z10 hl_z
                replace Hb := Lib.hid (Hb.out.trans (hb1.mono hwl))
                replace Hb1 := Lib.hid (Hb1.out.trans (hb1.mono hwl1))
                replace Hb2 := Lib.hid (Hb2.out.trans (hb1.mono hwl2))
                replace Hb3 := Lib.hid (Hb3.out.trans (hb1.mono hwl3))
                replace hl_x := Nat.lt_of_lt_of_le hl_x hb1.size
                replace hl_b := Nat.lt_of_lt_of_le hl_b hb1.size
                replace hl_u := Nat.lt_of_lt_of_le hl_u hb1.size
                replace hl_z := Nat.lt_of_lt_of_le hl_z hb1.size
                replace hwl := Nat.le_trans hwl hb1.size
                replace hwl1 := Nat.le_trans hwl1 hb1.size
                replace hwl2 := Nat.le_trans hwl2 hb1.size
                replace hwl3 := Nat.le_trans hwl3 hb1.size
                clear hb1
                go_wp2_with fail
                go_roundw
                case rel => exact ⟨k + 1, by omega, by go_num, Hb3.out⟩
                case measure => simp [intOf]; omega

              · clear Hcase
                have e0 : decide (m.a.var < 0) = false := decide_eq_false (by omega)
                have e2 : decide ((0 : Int) ≤ m.a.var) = true := decide_eq_true p1
                have e3 : decide ((0 : Int) ≤ m.b.var) = false := decide_eq_false (by omega)
                go_wp2_with fail
                refine wp_region_grown (by kernel_rfl) (by kernel_rfl) ?_
                repeat (go_big_quiet_step (fail))
                refine wpQuiet_nil ?_
                intro w9 hw0
                have hb1 : Below w8.heap.size w8 w9 := by obtain ⟨n, rfl⟩ := hw0; exact grown_below _ n
                clear hw0
                replace x0 := cell_kept hb1 x0 hl_x
                replace x1 := cell_kept hb1 x1 hl_x
                replace x2 := cell_kept hb1 x2 hl_x
                replace x3 := cell_kept hb1 x3 hl_x
                replace x4 := cell_kept hb1 x4 hl_x
                replace x5 := cell_kept hb1 x5 hl_x
                replace b0 := cell_kept hb1 b0 hl_b
                replace u0 := cell_kept hb1 u0 hl_u
                replace u1 := cell_kept hb1 u1 hl_u
                replace u2 := cell_kept hb1 u2 hl_u
                replace u3 := cell_kept hb1 u3 hl_u
                replace u4 := cell_kept hb1 u4 hl_u
                replace z0 := cell_kept hb1 z0 hl_z
                replace z1 := cell_kept hb1 z1 hl_z
                replace z2 := cell_kept hb1 z2 hl_z
                replace z3 := cell_kept hb1 z3 hl_z
                replace z4 := cell_kept hb1 z4 hl_z
                replace z5 := cell_kept hb1 z5 hl_z
                replace z6 := cell_kept hb1 z6 hl_z
                replace z7 := cell_kept hb1 z7 hl_z
                replace z8 := cell_kept hb1 z8 hl_z
                replace z9 := cell_kept hb1 z9 hl_z
                replace z10 := cell_kept hb1 z10 hl_z
                replace Hb := Lib.hid (Hb.out.trans (hb1.mono hwl))
                replace Hb1 := Lib.hid (Hb1.out.trans (hb1.mono hwl1))
                replace Hb2 := Lib.hid (Hb2.out.trans (hb1.mono hwl2))
                replace Hb3 := Lib.hid (Hb3.out.trans (hb1.mono hwl3))
                replace hl_x := Nat.lt_of_lt_of_le hl_x hb1.size
                replace hl_b := Nat.lt_of_lt_of_le hl_b hb1.size
                replace hl_u := Nat.lt_of_lt_of_le hl_u hb1.size
                replace hl_z := Nat.lt_of_lt_of_le hl_z hb1.size
                replace hwl := Nat.le_trans hwl hb1.size
                replace hwl1 := Nat.le_trans hwl1 hb1.size
                replace hwl2 := Nat.le_trans hwl2 hb1.size
                replace hwl3 := Nat.le_trans hwl3 hb1.size
                clear hb1
                go_wp2_with fail
                go_roundw
                case rel => exact ⟨k + 1, by omega, by go_num, Hb3.out⟩
                case measure => simp [intOf]; omega

              · clear Hcase
                obtain ⟨bf, of, e1, hl_i, _, _, _, i0, _, _, _, _, _⟩ := FromD.out (Hg2.out.below RFromD.stab Hb.out) m.a.var.toNat h1
                subst e1
                obtain ⟨bf', of', e1, hl_j, _, _, _, j0, _, _, _, _, _⟩ := FromD.out (Hg2.out.below RFromD.stab Hb.out) m.b.var.toNat h2
                cases e1
                generalize (r.froms[m.a.var.toNat]).schema = sa at *
                generalize (r.froms[m.b.var.toNat]).schema = sb at *
                have Hal := Lib.hid hal
                clear hal
                have e0 : decide (m.a.var < 0) = false := decide_eq_false (by omega)
                have e2 : decide ((0 : Int) ≤ m.a.var) = true := decide_eq_true p1
                have e3 : decide ((0 : Int) ≤ m.b.var) = true := decide_eq_true p2
                have h1' : m.a.var < (r.froms.length : Int) := by omega
                have h2' : m.b.var < (r.froms.length : Int) := by omega
                go_wp2_with fail
                refine wp_region_grown (by kernel_rfl) (by kernel_rfl) ?_
                repeat (go_big_quiet_step (first | (go_at_call 17; exact calls_grown (alike_eq s ⟨a0, k0, a1, k1, some ⟨bs, os, none⟩, k2, some ⟨br, off, none⟩, k3, a4, k4, a5, k5⟩ (refAt sa m.a.field) (refAt sb m.b.field) _ (Hs.out.below (Hb.out.trans ((grown_below _ _).mono hwl))) hsh true Hal.out))))
                refine wpQuiet_nil ?_
                intro w9 hw0
                have hb1 : Below w8.heap.size w8 w9 := by obtain ⟨n, rfl⟩ := hw0; exact grown_below _ n
                clear hw0
                replace x0 := cell_kept hb1 x0 hl_x
                replace x1 := cell_kept hb1 x1 hl_x
                replace x2 := cell_kept hb1 x2 hl_x
                replace x3 := cell_kept hb1 x3 hl_x
                replace x4 := cell_kept hb1 x4 hl_x
                replace x5 := cell_kept hb1 x5 hl_x
                replace b0 := cell_kept hb1 b0 hl_b
                replace u0 := cell_kept hb1 u0 hl_u
                replace u1 := cell_kept hb1 u1 hl_u
                replace u2 := cell_kept hb1 u2 hl_u
                replace u3 := cell_kept hb1 u3 hl_u
                replace u4 := cell_kept hb1 u4 hl_u
                replace z0 := cell_kept hb1 z0 hl_z
                replace z1 := cell_kept hb1 z1 hl_z
                replace z2 := cell_kept hb1 z2 hl_z
                replace z3 := cell_kept hb1 z3 hl_z
                replace z4 := cell_kept hb1 z4 hl_z
                replace z5 := cell_kept hb1 z5 hl_z
                replace z6 := cell_kept hb1 z6 hl_z
                replace z7 := cell_kept hb1 z7 hl_z
                replace z8 := cell_kept hb1 z8 hl_z
                replace z9 := cell_kept hb1 z9 hl_z
                replace z10 := cell_kept hb1 z10 hl_z
                replace i0 := cell_kept hb1 i0 hl_i
                replace j0 := cell_kept hb1 j0 hl_j
                replace Hb := Lib.hid (Hb.out.trans (hb1.mono hwl))
                replace Hb1 := Lib.hid (Hb1.out.trans (hb1.mono hwl1))
                replace Hb2 := Lib.hid (Hb2.out.trans (hb1.mono hwl2))
                replace Hb3 := Lib.hid (Hb3.out.trans (hb1.mono hwl3))
                replace hl_x := Nat.lt_of_lt_of_le hl_x hb1.size
                replace hl_b := Nat.lt_of_lt_of_le hl_b hb1.size
                replace hl_u := Nat.lt_of_lt_of_le hl_u hb1.size
                replace hl_z := Nat.lt_of_lt_of_le hl_z hb1.size
                replace hl_i := Nat.lt_of_lt_of_le hl_i hb1.size
                replace hl_j := Nat.lt_of_lt_of_le hl_j hb1.size
                replace hwl := Nat.le_trans hwl hb1.size
                replace hwl1 := Nat.le_trans hwl1 hb1.size
                replace hwl2 := Nat.le_trans hwl2 hb1.size
                replace hwl3 := Nat.le_trans hwl3 hb1.size
                clear hb1
                go_wp2_with fail
                go_roundw
                case rel => exact ⟨k + 1, by omega, by go_num, Hb3.out⟩
                case measure => simp [intOf]; omega


          have hlt' : (k : Int) < (r.sets.length : Int) := by omega
          obtain ⟨bs, os, e1, hl_c, hxw, c0, c1, c2, c3, c4, c5, c6⟩ := SetD.out (Hg4.out.below RSetD.stab Hb.out) k hlt
          subst e1
          have hset := Hrest.out.2.2.1 r.sets[k] (List.getElem_mem hlt)
          have hnin := nodup_notin (f := fun x : SetD => x.field) hlt Hrest.out.2.2.2.1
          have htk : (r.sets.take (k + 1)).map (·.field) = (r.sets.take k).map (·.field) ++ [r.sets[k].field] := by rw [take_succ' hlt, List.map_append]; rfl
          have hfw : (Lit.int .i64 r.sets[k].field).wf = true := hxw.2.1
          generalize r.sets[k] = x at *
          obtain ⟨v, hval, hf1, hvb⟩ := set_val Hgood.out HVL.out hset
          have Hval := Lib.hid hval
          have Hvb := Lib.hid hvb
          have Hnin := Lib.hid hnin
          have Htk := Lib.hid htk
          have Hkey := Lib.hid (Maps.keyOf_int_mk Try.underlying3 hfw)
          clear hset hnin htk hfw hxw hval hvb
          go_wp2_with fail
          generalize hw0 : World.alloc _ _ = w5
          obtain ⟨X0, hsz, hb1⟩ := blk1 hw0
          have y0 : w5.cell? ⟨wr.heap.size, 0, none⟩ = some (.string x.path) := X0.cell 0
          have y1 : w5.cell? ⟨wr.heap.size, 1, none⟩ = some (.int .i64 x.field) := X0.cell 1
          have y2 : w5.cell? ⟨wr.heap.size, 2, none⟩ = some (.string x.term.name) := X0.cell 2
          have y3 : w5.cell? ⟨wr.heap.size, 3, none⟩ = some (.string x.term.path) := X0.cell 3
          have y4 : w5.cell? ⟨wr.heap.size, 4, none⟩ = some (.int .i64 x.term.var) := X0.cell 4
          have y5 : w5.cell? ⟨wr.heap.size, 5, none⟩ = some (.int .i64 x.term.field) := X0.cell 5
          have y6 : w5.cell? ⟨wr.heap.size, 6, none⟩ = some (.int .i64 x.term.n) := X0.cell 6
          have hl_y : wr.heap.size < w5.heap.size := by omega
          replace x0 := cell_kept hb1 x0 hl_x
          replace x1 := cell_kept hb1 x1 hl_x
          replace x2 := cell_kept hb1 x2 hl_x
          replace x3 := cell_kept hb1 x3 hl_x
          replace x4 := cell_kept hb1 x4 hl_x
          replace x5 := cell_kept hb1 x5 hl_x
          replace b0 := cell_kept hb1 b0 hl_b
          replace u0 := cell_kept hb1 u0 hl_u
          replace u1 := cell_kept hb1 u1 hl_u
          replace u2 := cell_kept hb1 u2 hl_u
          replace u3 := cell_kept hb1 u3 hl_u
          replace u4 := cell_kept hb1 u4 hl_u
          replace c0 := cell_kept hb1 c0 hl_c
          replace c1 := cell_kept hb1 c1 hl_c
          replace c2 := cell_kept hb1 c2 hl_c
          replace c3 := cell_kept hb1 c3 hl_c
          replace c4 := cell_kept hb1 c4 hl_c
          replace c5 := cell_kept hb1 c5 hl_c
          replace c6 := cell_kept hb1 c6 hl_c
          replace Hb := Lib.hid (Hb.out.trans (hb1.mono hwl))
          replace Hb1 := Lib.hid (Hb1.out.trans (hb1.mono hwl1))
          replace Hb2 := Lib.hid (Hb2.out.trans (hb1.mono hwl2))
          replace hl_x := Nat.lt_of_lt_of_le hl_x hb1.size
          replace hl_b := Nat.lt_of_lt_of_le hl_b hb1.size
          replace hl_u := Nat.lt_of_lt_of_le hl_u hb1.size
          replace hl_c := Nat.lt_of_lt_of_le hl_c hb1.size
          replace hwl := Nat.le_trans hwl hb1.size
          replace hwl1 := Nat.le_trans hwl1 hb1.size
          replace hwl2 := Nat.le_trans hwl2 hb1.size
          replace HZ := Lib.hid (HZ.out.below hb1 hmb)
          replace hmb := Nat.lt_of_lt_of_le hmb hb1.size
          clear hb1
          clear hw0 hsz X0
          clear c0 c1 c2 c3 c4 c5 c6 hl_c
          go_wp2_with fail
          refine (value_cl r.froms.length _ _ L _ _ gr (w.heap.size + 1) x.term v Hval.out _ (HL.out.below (RSl.stab RInt.stab) Hb.out) hl_u u2 hl_b b0).mono ?_
          rintro e w7 ⟨rfl, hb1⟩
          replace x0 := cell_kept hb1 x0 hl_x
          replace x1 := cell_kept hb1 x1 hl_x
          replace x2 := cell_kept hb1 x2 hl_x
          replace x3 := cell_kept hb1 x3 hl_x
          replace x4 := cell_kept hb1 x4 hl_x
          replace x5 := cell_kept hb1 x5 hl_x
          replace b0 := cell_kept hb1 b0 hl_b
          replace u0 := cell_kept hb1 u0 hl_u
          replace u1 := cell_kept hb1 u1 hl_u
          replace u2 := cell_kept hb1 u2 hl_u
          replace u3 := cell_kept hb1 u3 hl_u
          replace u4 := cell_kept hb1 u4 hl_u
          replace y0 := cell_kept hb1 y0 hl_y
          replace y1 := cell_kept hb1 y1 hl_y
          replace y2 := cell_kept hb1 y2 hl_y
          replace y3 := cell_kept hb1 y3 hl_y
          replace y4 := cell_kept hb1 y4 hl_y
          replace y5 := cell_kept hb1 y5 hl_y
          replace y6 := cell_kept hb1 y6 hl_y
          replace Hb := Lib.hid (Hb.out.trans (hb1.mono hwl))
          replace Hb1 := Lib.hid (Hb1.out.trans (hb1.mono hwl1))
          replace Hb2 := Lib.hid (Hb2.out.trans (hb1.mono hwl2))
          replace hl_x := Nat.lt_of_lt_of_le hl_x hb1.size
          replace hl_b := Nat.lt_of_lt_of_le hl_b hb1.size
          replace hl_u := Nat.lt_of_lt_of_le hl_u hb1.size
          replace hl_y := Nat.lt_of_lt_of_le hl_y hb1.size
          replace hwl := Nat.le_trans hwl hb1.size
          replace hwl1 := Nat.le_trans hwl1 hb1.size
          replace hwl2 := Nat.le_trans hwl2 hb1.size
          replace HZ := Lib.hid (HZ.out.below hb1 hmb)
          replace hmb := Nat.lt_of_lt_of_le hmb hb1.size
          clear hb1
          have hlook := run_look_gz keyI Try.underlying59 Try.underlying4 (zero4 w7) HZ.out Hkey.out (c := false) (by rw [intSet_at, if_neg Hnin.out])
          go_wp2_with fail
          all_goals (try (exfalso; omega))
          clear hlook
          refine (value_r s ⟨a0, k0, a1, k1, a2, k2, some ⟨br, off, none⟩, k3, a4, k4, a5, k5⟩ r.schema x.field v _ (Hs.out.below Hb.out) hsh true Hvb.out).mono ?_
          rintro e w8 ⟨rfl, hb1⟩
          replace x0 := cell_kept hb1 x0 hl_x
          replace x1 := cell_kept hb1 x1 hl_x
          replace x2 := cell_kept hb1 x2 hl_x
          replace x3 := cell_kept hb1 x3 hl_x
          replace x4 := cell_kept hb1 x4 hl_x
          replace x5 := cell_kept hb1 x5 hl_x
          replace b0 := cell_kept hb1 b0 hl_b
          replace u0 := cell_kept hb1 u0 hl_u
          replace u1 := cell_kept hb1 u1 hl_u
          replace u2 := cell_kept hb1 u2 hl_u
          replace u3 := cell_kept hb1 u3 hl_u
          replace u4 := cell_kept hb1 u4 hl_u
          replace y0 := cell_kept hb1 y0 hl_y
          replace y1 := cell_kept hb1 y1 hl_y
          replace y2 := cell_kept hb1 y2 hl_y
          replace y3 := cell_kept hb1 y3 hl_y
          replace y4 := cell_kept hb1 y4 hl_y
          replace y5 := cell_kept hb1 y5 hl_y
          replace y6 := cell_kept hb1 y6 hl_y
          replace Hb := Lib.hid (Hb.out.trans (hb1.mono hwl))
          replace Hb1 := Lib.hid (Hb1.out.trans (hb1.mono hwl1))
          replace Hb2 := Lib.hid (Hb2.out.trans (hb1.mono hwl2))
          replace hl_x := Nat.lt_of_lt_of_le hl_x hb1.size
          replace hl_b := Nat.lt_of_lt_of_le hl_b hb1.size
          replace hl_u := Nat.lt_of_lt_of_le hl_u hb1.size
          replace hl_y := Nat.lt_of_lt_of_le hl_y hb1.size
          replace hwl := Nat.le_trans hwl hb1.size
          replace hwl1 := Nat.le_trans hwl1 hb1.size
          replace hwl2 := Nat.le_trans hwl2 hb1.size
          replace HZ := Lib.hid (HZ.out.below hb1 hmb)
          replace hmb := Nat.lt_of_lt_of_le hmb hb1.size
          clear hb1
          go_wp2_with (first | (at_mapUpdate; refine wpList_mapUpdate_gz _ rfl _ _ _ 59 rfl 3 4 keyI Try.underlying59 _ k k _ rfl HZ.out (by unfold maxLen; omega) _ _ _ rfl rfl Hkey.out trivial (.bool true) [] (plainElem_bool Try.underlying4 true) ?_; intro w9 hz1 hg1) | go_in)
          go_roundw
          case rel => exact ⟨k + 1, by omega, by go_num, Lib.hid (by
            rw [Htk.out]
            have := hz1.ext (intSet_put _ _)
            rwa [intSet_at, if_neg Hnin.out] at this), Hb2.out.grown hg1 (by omega) (fun j hj => by cases hj; exact Nat.le_refl _)⟩
          case measure => simp [intOf]; omega

      have hlt' : (k : Int) < (r.froms.length : Int) := by omega
      obtain ⟨bf, of, e1, hl_c, _, c0, c1, c2, c3, c4, c5, c6, c7⟩ := FromD.out (Hg2.out.below RFromD.stab Hb.out) k hlt
      subst e1
      have hfk : r.froms[k]? = some r.froms[k] := List.getElem?_eq_getElem hlt
      have hfr := from_val Hn.out hfk (Hrf.out k hlt) Hgood.out
      generalize r.froms[k] = f at *
      obtain ⟨hsc0, hsc1, v, hval, hvr⟩ := hfr
      have Hval := Lib.hid hval
      have Hfk := Lib.hid hfk
      clear hval hfk
      go_wp2_with fail
      generalize hw0 : World.alloc _ _ = w5
      obtain ⟨X0, hsz, hb1⟩ := blk1 hw0
      have y0 : w5.cell? ⟨wr.heap.size, 0, none⟩ = some (.string f.name) := X0.cell 0
      have y1 : w5.cell? ⟨wr.heap.size, 1, none⟩ = some (.string f.kind) := X0.cell 1
      have y2 : w5.cell? ⟨wr.heap.size, 2, none⟩ = some (.int .i64 f.schema) := X0.cell 2
      have y3 : w5.cell? ⟨wr.heap.size, 3, none⟩ = some (.string f.of_.name) := X0.cell 3
      have y4 : w5.cell? ⟨wr.heap.size, 4, none⟩ = some (.string f.of_.path) := X0.cell 4
      have y5 : w5.cell? ⟨wr.heap.size, 5, none⟩ = some (.int .i64 f.of_.var) := X0.cell 5
      have y6 : w5.cell? ⟨wr.heap.size, 6, none⟩ = some (.int .i64 f.of_.field) := X0.cell 6
      have y7 : w5.cell? ⟨wr.heap.size, 7, none⟩ = some (.int .i64 f.of_.n) := X0.cell 7
      have hl_y : wr.heap.size < w5.heap.size := by omega
      replace x0 := cell_kept hb1 x0 hl_x
      replace x1 := cell_kept hb1 x1 hl_x
      replace x2 := cell_kept hb1 x2 hl_x
      replace x3 := cell_kept hb1 x3 hl_x
      replace x4 := cell_kept hb1 x4 hl_x
      replace x5 := cell_kept hb1 x5 hl_x
      replace b0 := cell_kept hb1 b0 hl_b
      replace u0 := cell_kept hb1 u0 hl_u
      replace u1 := cell_kept hb1 u1 hl_u
      replace u2 := cell_kept hb1 u2 hl_u
      replace u3 := cell_kept hb1 u3 hl_u
      replace u4 := cell_kept hb1 u4 hl_u
      replace c0 := cell_kept hb1 c0 hl_c
      replace c1 := cell_kept hb1 c1 hl_c
      replace c2 := cell_kept hb1 c2 hl_c
      replace c3 := cell_kept hb1 c3 hl_c
      replace c4 := cell_kept hb1 c4 hl_c
      replace c5 := cell_kept hb1 c5 hl_c
      replace c6 := cell_kept hb1 c6 hl_c
      replace c7 := cell_kept hb1 c7 hl_c
      replace Hb := Lib.hid (Hb.out.trans (hb1.mono hwl))
      replace Hb1 := Lib.hid (Hb1.out.trans (hb1.mono hwl1))
      replace hl_x := Nat.lt_of_lt_of_le hl_x hb1.size
      replace hl_b := Nat.lt_of_lt_of_le hl_b hb1.size
      replace hl_u := Nat.lt_of_lt_of_le hl_u hb1.size
      replace hl_c := Nat.lt_of_lt_of_le hl_c hb1.size
      replace hwl := Nat.le_trans hwl hb1.size
      replace hwl1 := Nat.le_trans hwl1 hb1.size
      clear hb1
      clear hw0 hsz X0
      clear c0 c1 c2 c3 c4 c5 c6 c7 hl_c
      go_wp2_with fail
      all_goals (try (exfalso; omega))
      have hsl : f.schema.toNat < s.schemas.length := by omega
      by_cases hkL : k < L.length
      case neg =>
        have e0 : decide (L.length ≤ k) = true := decide_eq_true (by omega)
        clear hkL
        refine wp_region_grown (by kernel_rfl) (by kernel_rfl) ?_
        repeat (go_big_quiet_step (fail))
        refine wpQuiet_nil ?_
        intro w6 hw0
        have hb1 : Below w5.heap.size w5 w6 := by obtain ⟨n, rfl⟩ := hw0; exact grown_below _ n
        clear hw0
        replace x0 := cell_kept hb1 x0 hl_x
        replace x1 := cell_kept hb1 x1 hl_x
        replace x2 := cell_kept hb1 x2 hl_x
        replace x3 := cell_kept hb1 x3 hl_x
        replace x4 := cell_kept hb1 x4 hl_x
        replace x5 := cell_kept hb1 x5 hl_x
        replace b0 := cell_kept hb1 b0 hl_b
        replace u0 := cell_kept hb1 u0 hl_u
        replace u1 := cell_kept hb1 u1 hl_u
        replace u2 := cell_kept hb1 u2 hl_u
        replace u3 := cell_kept hb1 u3 hl_u
        replace u4 := cell_kept hb1 u4 hl_u
        replace y0 := cell_kept hb1 y0 hl_y
        replace y1 := cell_kept hb1 y1 hl_y
        replace y2 := cell_kept hb1 y2 hl_y
        replace y3 := cell_kept hb1 y3 hl_y
        replace y4 := cell_kept hb1 y4 hl_y
        replace y5 := cell_kept hb1 y5 hl_y
        replace y6 := cell_kept hb1 y6 hl_y
        replace y7 := cell_kept hb1 y7 hl_y
        replace Hb := Lib.hid (Hb.out.trans (hb1.mono hwl))
        replace Hb1 := Lib.hid (Hb1.out.trans (hb1.mono hwl1))
        replace hl_x := Nat.lt_of_lt_of_le hl_x hb1.size
        replace hl_b := Nat.lt_of_lt_of_le hl_b hb1.size
        replace hl_u := Nat.lt_of_lt_of_le hl_u hb1.size
        replace hl_y := Nat.lt_of_lt_of_le hl_y hb1.size
        replace hwl := Nat.le_trans hwl hb1.size
        replace hwl1 := Nat.le_trans hwl1 hb1.size
        clear hb1
        go_wp2
        go_ret
        exact ⟨rfl, Hb.out⟩
      have e0 : decide (L.length ≤ k) = false := decide_eq_false (by omega)
      obtain ⟨bl, ol, la, lk, e2, hl_l, l0, hll⟩ := ints2_out HL.out k hkL
      have hLk : L[k]? = some L[k] := List.getElem?_eq_getElem hkL
      generalize L[k] = l at *
      subst e2
      replace l0 := (Hb.out.cell (p := ⟨bl, ol + k, none⟩) hl_l).trans l0
      replace hl_l := Nat.lt_of_lt_of_le hl_l hwl
      obtain ⟨bs, os, e3, hl_d, _, fa, fk, da, dk, d0, d1, d2, d3, d4, d5, -⟩ := SchemaD.out ((Hs.out.below Hb.out).h2) f.schema.toNat hsl
      simp only at e3
      subst e3
      have hhl : headLen s f.schema = ((s.schemas[f.schema.toNat]).fields.length : Int) := by unfold headLen; rw [List.getElem?_eq_getElem hsl]
      have hfl : s.schemas[f.schema.toNat].fields.length ≤ 100000 := (few_of hfew).fields _ (List.getElem_mem hsl)
      generalize (s.schemas[f.schema.toNat]).fields.length = fl at *
      have Hll := Lib.hid hll
      have HLk := Lib.hid hLk
      clear d0 d1 d2 d3 d5 hll hLk
      by_cases hlen : (l.length : Int) = (fl : Int)
      case neg =>
        have e4 : ((l.length : Int) != (fl : Int)) = true := by simpa using hlen
        clear hlen
        refine wp_region_grown (by kernel_rfl) (by kernel_rfl) ?_
        repeat (go_big_quiet_step (fail))
        refine wpQuiet_nil ?_
        intro w6 hw0
        have hb1 : Below w5.heap.size w5 w6 := by obtain ⟨n, rfl⟩ := hw0; exact grown_below _ n
        clear hw0
        replace x0 := cell_kept hb1 x0 hl_x
        replace x1 := cell_kept hb1 x1 hl_x
        replace x2 := cell_kept hb1 x2 hl_x
        replace x3 := cell_kept hb1 x3 hl_x
        replace x4 := cell_kept hb1 x4 hl_x
        replace x5 := cell_kept hb1 x5 hl_x
        replace b0 := cell_kept hb1 b0 hl_b
        replace u0 := cell_kept hb1 u0 hl_u
        replace u1 := cell_kept hb1 u1 hl_u
        replace u2 := cell_kept hb1 u2 hl_u
        replace u3 := cell_kept hb1 u3 hl_u
        replace u4 := cell_kept hb1 u4 hl_u
        replace y0 := cell_kept hb1 y0 hl_y
        replace y1 := cell_kept hb1 y1 hl_y
        replace y2 := cell_kept hb1 y2 hl_y
        replace y3 := cell_kept hb1 y3 hl_y
        replace y4 := cell_kept hb1 y4 hl_y
        replace y5 := cell_kept hb1 y5 hl_y
        replace y6 := cell_kept hb1 y6 hl_y
        replace y7 := cell_kept hb1 y7 hl_y
        replace d4 := cell_kept hb1 d4 hl_d
        replace l0 := cell_kept hb1 l0 hl_l
        replace Hb := Lib.hid (Hb.out.trans (hb1.mono hwl))
        replace Hb1 := Lib.hid (Hb1.out.trans (hb1.mono hwl1))
        replace hl_x := Nat.lt_of_lt_of_le hl_x hb1.size
        replace hl_b := Nat.lt_of_lt_of_le hl_b hb1.size
        replace hl_u := Nat.lt_of_lt_of_le hl_u hb1.size
        replace hl_y := Nat.lt_of_lt_of_le hl_y hb1.size
        replace hl_d := Nat.lt_of_lt_of_le hl_d hb1.size
        replace hl_l := Nat.lt_of_lt_of_le hl_l hb1.size
        replace hwl := Nat.le_trans hwl hb1.size
        replace hwl1 := Nat.le_trans hwl1 hb1.size
        clear hb1
        go_wp2
        go_ret
        exact ⟨rfl, Hb.out⟩
      have e4 : ((l.length : Int) != (fl : Int)) = false := by simpa using hlen
      have Hlen := Lib.hid (show (l.length : Int) = headLen s f.schema by rw [hhl]; exact hlen)
      have hlb : l.length ≤ 100000 := by omega
      clear hlen hhl
      refine wp_region_grown (by kernel_rfl) (by kernel_rfl) ?_
      repeat (go_big_quiet_step (fail))
      refine wpQuiet_nil ?_
      intro w6 hw0
      have hb1 : Below w5.heap.size w5 w6 := by obtain ⟨n, rfl⟩ := hw0; exact grown_below _ n
      clear hw0
      replace x0 := cell_kept hb1 x0 hl_x
      replace x1 := cell_kept hb1 x1 hl_x
      replace x2 := cell_kept hb1 x2 hl_x
      replace x3 := cell_kept hb1 x3 hl_x
      replace x4 := cell_kept hb1 x4 hl_x
      replace x5 := cell_kept hb1 x5 hl_x
      replace b0 := cell_kept hb1 b0 hl_b
      replace u0 := cell_kept hb1 u0 hl_u
      replace u1 := cell_kept hb1 u1 hl_u
      replace u2 := cell_kept hb1 u2 hl_u
      replace u3 := cell_kept hb1 u3 hl_u
      replace u4 := cell_kept hb1 u4 hl_u
      replace y0 := cell_kept hb1 y0 hl_y
      replace y1 := cell_kept hb1 y1 hl_y
      replace y2 := cell_kept hb1 y2 hl_y
      replace y3 := cell_kept hb1 y3 hl_y
      replace y4 := cell_kept hb1 y4 hl_y
      replace y5 := cell_kept hb1 y5 hl_y
      replace y6 := cell_kept hb1 y6 hl_y
      replace y7 := cell_kept hb1 y7 hl_y
      replace d4 := cell_kept hb1 d4 hl_d
      replace l0 := cell_kept hb1 l0 hl_l
      replace Hb := Lib.hid (Hb.out.trans (hb1.mono hwl))
      replace Hb1 := Lib.hid (Hb1.out.trans (hb1.mono hwl1))
      replace hl_x := Nat.lt_of_lt_of_le hl_x hb1.size
      replace hl_b := Nat.lt_of_lt_of_le hl_b hb1.size
      replace hl_u := Nat.lt_of_lt_of_le hl_u hb1.size
      replace hl_y := Nat.lt_of_lt_of_le hl_y hb1.size
      replace hl_d := Nat.lt_of_lt_of_le hl_d hb1.size
      replace hl_l := Nat.lt_of_lt_of_le hl_l hb1.size
      replace hwl := Nat.le_trans hwl hb1.size
      replace hwl1 := Nat.le_trans hwl1 hb1.size
      clear hb1
      clear d4 hl_d e4
      go_wp2_with fail
      clear l0 hl_l
      go_loopw [97] (fun i wr => ∃ m : Nat, m ≤ l.length ∧ i = .int .i64 m ∧ Hid (∀ (j : Nat) v, j < m → l[j]? = some v → valueB s f.schema j v = true) ∧ Below w6.heap.size w6 wr) (fun i _ => l.length - (intOf i).toNat)
      case atStart => exact ⟨0, Nat.zero_le _, rfl, Lib.hid (fun j v hj => absurd hj (Nat.not_lt_zero j)), Below.refl _ _⟩
      case round =>
        obtain ⟨m, hm, rfl, HM, hb1⟩ := hrel
        have Hb2 := Lib.hid hb1
        have hwl2 := hb1.size
        replace x0 := cell_kept hb1 x0 hl_x
        replace x1 := cell_kept hb1 x1 hl_x
        replace x2 := cell_kept hb1 x2 hl_x
        replace x3 := cell_kept hb1 x3 hl_x
        replace x4 := cell_kept hb1 x4 hl_x
        replace x5 := cell_kept hb1 x5 hl_x
        replace b0 := cell_kept hb1 b0 hl_b
        replace u0 := cell_kept hb1 u0 hl_u
        replace u1 := cell_kept hb1 u1 hl_u
        replace u2 := cell_kept hb1 u2 hl_u
        replace u3 := cell_kept hb1 u3 hl_u
        replace u4 := cell_kept hb1 u4 hl_u
        replace y0 := cell_kept hb1 y0 hl_y
        replace y1 := cell_kept hb1 y1 hl_y
        replace y2 := cell_kept hb1 y2 hl_y
        replace y3 := cell_kept hb1 y3 hl_y
        replace y4 := cell_kept hb1 y4 hl_y
        replace y5 := cell_kept hb1 y5 hl_y
        replace y6 := cell_kept hb1 y6 hl_y
        replace y7 := cell_kept hb1 y7 hl_y
        replace Hb := Lib.hid (Hb.out.trans (hb1.mono hwl))
        replace Hb1 := Lib.hid (Hb1.out.trans (hb1.mono hwl1))
        replace hl_x := Nat.lt_of_lt_of_le hl_x hb1.size
        replace hl_b := Nat.lt_of_lt_of_le hl_b hb1.size
        replace hl_u := Nat.lt_of_lt_of_le hl_u hb1.size
        replace hl_y := Nat.lt_of_lt_of_le hl_y hb1.size
        replace hwl := Nat.le_trans hwl hb1.size
        replace hwl1 := Nat.le_trans hwl1 hb1.size
        clear hb1
        by_cases hml : m < l.length
        case pos =>
          have hml' : (m : Int) < (l.length : Int) := by omega
          obtain ⟨bi, oi, e5, hl_i, _, i0⟩ := int_out (Hll.out.below RInt.stab Hb.out) m hml
          subst e5
          have hlm : l[m]? = some l[m] := List.getElem?_eq_getElem hml
          have hsm : valueB s f.schema m l[m] = true → ∀ (j : Nat) v, j < m + 1 → l[j]? = some v → valueB s f.schema j v = true := fun hq j v hj hv => by
            by_cases e : j = m
            · subst e; rw [hlm] at hv; cases hv; exact hq
            · exact HM.out j v (by omega) hv
          generalize l[m] = vm at *
          have Hsm := Lib.hid hsm
          clear hsm hlm
          go_wp2_with fail
          cases hvb : valueB s f.schema m vm with
          | false =>
            refine (value_r s ⟨a0, k0, a1, k1, some ⟨bs, os, none⟩, k2, some ⟨br, off, none⟩, k3, a4, k4, a5, k5⟩ f.schema m vm _ (Hs.out.below Hb.out) hsh false hvb).mono ?_
            rintro e w7 ⟨rfl, hb1⟩
            replace x0 := cell_kept hb1 x0 hl_x
            replace x1 := cell_kept hb1 x1 hl_x
            replace x2 := cell_kept hb1 x2 hl_x
            replace x3 := cell_kept hb1 x3 hl_x
            replace x4 := cell_kept hb1 x4 hl_x
            replace x5 := cell_kept hb1 x5 hl_x
            replace b0 := cell_kept hb1 b0 hl_b
            replace u0 := cell_kept hb1 u0 hl_u
            replace u1 := cell_kept hb1 u1 hl_u
            replace u2 := cell_kept hb1 u2 hl_u
            replace u3 := cell_kept hb1 u3 hl_u
            replace u4 := cell_kept hb1 u4 hl_u
            replace y0 := cell_kept hb1 y0 hl_y
            replace y1 := cell_kept hb1 y1 hl_y
            replace y2 := cell_kept hb1 y2 hl_y
            replace y3 := cell_kept hb1 y3 hl_y
            replace y4 := cell_kept hb1 y4 hl_y
            replace y5 := cell_kept hb1 y5 hl_y
            replace y6 := cell_kept hb1 y6 hl_y
            replace y7 := cell_kept hb1 y7 hl_y
            replace Hb := Lib.hid (Hb.out.trans (hb1.mono hwl))
            replace Hb1 := Lib.hid (Hb1.out.trans (hb1.mono hwl1))
            replace Hb2 := Lib.hid (Hb2.out.trans (hb1.mono hwl2))
            replace hl_x := Nat.lt_of_lt_of_le hl_x hb1.size
            replace hl_b := Nat.lt_of_lt_of_le hl_b hb1.size
            replace hl_u := Nat.lt_of_lt_of_le hl_u hb1.size
            replace hl_y := Nat.lt_of_lt_of_le hl_y hb1.size
            replace hwl := Nat.le_trans hwl hb1.size
            replace hwl1 := Nat.le_trans hwl1 hb1.size
            replace hwl2 := Nat.le_trans hwl2 hb1.size
            clear hb1
            go_wp2
            go_ret
            exact ⟨rfl, Hb.out⟩
          | true =>
            refine (value_r s ⟨a0, k0, a1, k1, some ⟨bs, os, none⟩, k2, some ⟨br, off, none⟩, k3, a4, k4, a5, k5⟩ f.schema m vm _ (Hs.out.below Hb.out) hsh true hvb).mono ?_
            rintro e w7 ⟨rfl, hb1⟩
            replace x0 := cell_kept hb1 x0 hl_x
            replace x1 := cell_kept hb1 x1 hl_x
            replace x2 := cell_kept hb1 x2 hl_x
            replace x3 := cell_kept hb1 x3 hl_x
            replace x4 := cell_kept hb1 x4 hl_x
            replace x5 := cell_kept hb1 x5 hl_x
            replace b0 := cell_kept hb1 b0 hl_b
            replace u0 := cell_kept hb1 u0 hl_u
            replace u1 := cell_kept hb1 u1 hl_u
            replace u2 := cell_kept hb1 u2 hl_u
            replace u3 := cell_kept hb1 u3 hl_u
            replace u4 := cell_kept hb1 u4 hl_u
            replace y0 := cell_kept hb1 y0 hl_y
            replace y1 := cell_kept hb1 y1 hl_y
            replace y2 := cell_kept hb1 y2 hl_y
            replace y3 := cell_kept hb1 y3 hl_y
            replace y4 := cell_kept hb1 y4 hl_y
            replace y5 := cell_kept hb1 y5 hl_y
            replace y6 := cell_kept hb1 y6 hl_y
            replace y7 := cell_kept hb1 y7 hl_y
            replace Hb := Lib.hid (Hb.out.trans (hb1.mono hwl))
            replace Hb1 := Lib.hid (Hb1.out.trans (hb1.mono hwl1))
            replace Hb2 := Lib.hid (Hb2.out.trans (hb1.mono hwl2))
            replace hl_x := Nat.lt_of_lt_of_le hl_x hb1.size
            replace hl_b := Nat.lt_of_lt_of_le hl_b hb1.size
            replace hl_u := Nat.lt_of_lt_of_le hl_u hb1.size
            replace hl_y := Nat.lt_of_lt_of_le hl_y hb1.size
            replace hwl := Nat.le_trans hwl hb1.size
            replace hwl1 := Nat.le_trans hwl1 hb1.size
            replace hwl2 := Nat.le_trans hwl2 hb1.size
            clear hb1
            go_wp2_with fail
            go_roundw
            case rel => exact ⟨m + 1, by omega, by go_num, Lib.hid (Hsm.out hvb), Hb2.out⟩
            case measure => simp [intOf]; omega
        case neg =>
          have Hsu := Lib.hid (Hn.out.succ Hfk.out HLk.out Hlen.out (fun j v hv => HM.out j v (by have := (List.getElem?_eq_some_iff.1 hv).1; omega) hv))
          clear Hn HM
          go_wp2_with fail
          refine (value_cl r.froms.length _ _ L _ _ gr (w.heap.size + 1) f.of_ v Hval.out _ (HL.out.below (RSl.stab RInt.stab) Hb.out) hl_u u2 hl_b b0).mono ?_
          rintro e w7 ⟨rfl, hb1⟩
          replace x0 := cell_kept hb1 x0 hl_x
          replace x1 := cell_kept hb1 x1 hl_x
          replace x2 := cell_kept hb1 x2 hl_x
          replace x3 := cell_kept hb1 x3 hl_x
          replace x4 := cell_kept hb1 x4 hl_x
          replace x5 := cell_kept hb1 x5 hl_x
          replace b0 := cell_kept hb1 b0 hl_b
          replace u0 := cell_kept hb1 u0 hl_u
          replace u1 := cell_kept hb1 u1 hl_u
          replace u2 := cell_kept hb1 u2 hl_u
          replace u3 := cell_kept hb1 u3 hl_u
          replace u4 := cell_kept hb1 u4 hl_u
          replace y0 := cell_kept hb1 y0 hl_y
          replace y1 := cell_kept hb1 y1 hl_y
          replace y2 := cell_kept hb1 y2 hl_y
          replace y3 := cell_kept hb1 y3 hl_y
          replace y4 := cell_kept hb1 y4 hl_y
          replace y5 := cell_kept hb1 y5 hl_y
          replace y6 := cell_kept hb1 y6 hl_y
          replace y7 := cell_kept hb1 y7 hl_y
          replace Hb := Lib.hid (Hb.out.trans (hb1.mono hwl))
          replace Hb1 := Lib.hid (Hb1.out.trans (hb1.mono hwl1))
          replace Hb2 := Lib.hid (Hb2.out.trans (hb1.mono hwl2))
          replace hl_x := Nat.lt_of_lt_of_le hl_x hb1.size
          replace hl_b := Nat.lt_of_lt_of_le hl_b hb1.size
          replace hl_u := Nat.lt_of_lt_of_le hl_u hb1.size
          replace hl_y := Nat.lt_of_lt_of_le hl_y hb1.size
          replace hwl := Nat.le_trans hwl hb1.size
          replace hwl1 := Nat.le_trans hwl1 hb1.size
          replace hwl2 := Nat.le_trans hwl2 hb1.size
          clear hb1
          have hvr' : f.of_.var < 0 ∨ 0 ≤ f.of_.var ∧ 0 ≤ v ∧ v ≤ 4095 := hvr
          go_wp2_with fail
          all_goals (try (exfalso; omega))
          all_goals go_roundw
          all_goals first | exact ⟨k + 1, by omega, by go_num, Hsu, Hb1.out⟩ | (simp [intOf]; omega)
end Go.Proofs.Ytogenjbabgibbaa
