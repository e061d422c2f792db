import Derived.Test.YtinkifhbpbkhpaaCombA
namespace Go.Proofs.Ytinkifhbpbkhpaa
open Go.RowKit Go.Shelf
attribute [local go_sem] Oper.semAt_some

set_option maxRecDepth 100000 in
set_option maxHeartbeats 2000000 in
theorem comb33 (a a' : Option Addr) (cap cap' : Nat) (L M : SL) (w : World) (hsp : Sp w a L) (hsp' : Sp w a' M) (hl : L.length ≤ 100000) (hl' : M.length ≤ 100000) :
    Calls Try.prog 28 #[.slice a L.length cap, .slice a' M.length cap', .func (.func 33) #[] #[]] w fun e w' => SpanR (runsL fun d => dayF L d && dayF M d) e w' ∧ Below w.heap.size w w' := by
  have hz := zero48
  have hspA := hsp.below ((Below.refl _ w).alloc (Nat.le_refl _) (.cells #[.slice none 0 0] 22))
  have hspB := hsp'.below ((Below.refl _ w).alloc (Nat.le_refl _) (.cells #[.slice none 0 0] 22))
  have HA := Lib.hid hspA
  have HB := Lib.hid hspB
  clear hsp hsp' hspA hspB
  refine (callsIn_wide (n := 3)).1 ?_
  refine callsIn_of_wp_marks Try.func28 rfl trivial ?_ rfl
  simp only [Try.ntmps28, List.size_toArray, List.length_cons, List.length_nil, Nat.reduceAdd, Nat.reduceSub, Array.replicate_succ, Array.replicate_zero, List.push_toArray, List.append_toArray, List.nil_append, List.cons_append]
  refine wpIn_wide.2 ?_
  go_wp2_with fail
  refine (mark_any a cap L _ HA.out hl).mono ?_
  rintro e w1 ⟨rfl, hb1⟩
  have hspB := HB.out.below hb1
  have X1 := (Blk.new w #[.slice none 0 0] 22).below hb1 (by simp)
  have hb1' : Below w.heap.size w w1 := ((Below.refl _ _).alloc (Nat.le_refl _) _).trans (hb1.mono (by simp))
  have HB1 := Lib.hid hspB
  have X1 := Lib.hid X1
  have BL1 := Lib.hid hb1'
  have hs1 := hb1'.size
  clear hspB hb1 hb1' HB HA
  go_wp2_with fail
  refine (mark_any a' cap' M _ HB1.out hl').mono ?_
  rintro e w2 ⟨rfl, hb2⟩
  have X2 := Lib.hid (X1.out.below hb2 X1.out.lt)
  have BL2 := Lib.hid (BL1.out.trans (hb2.mono hs1))
  have hs2 := BL2.out.size
  have hX := X2.out.lt
  clear hb2 X1 BL1 HB1 hs1
  generalize hfa : dayF L = fa at *
  generalize hfb : dayF M = fb at *
  have HFA := Lib.hid hfa
  have HFB := Lib.hid hfb
  clear hfa hfb
  go_wp2_with (refine wpList_store_row rfl 48 _ _ rfl _ _ rfl rfl 48 _ (heap_alloc2_old w2 _ _) (size48 _) (by rw [dz_size]; exact dz_size _) (dz_one _) ?_; refine wpList_store_row rfl 48 _ _ rfl _ _ rfl rfl 48 _ two_store (size48 _) (by rw [dz_size]; exact dz_size _) (dz_one _) ?_; generalize hW3 : World.setRow (World.setRow _ _ _) _ _ = W3; obtain ⟨P3, Q3, BL3, SZ3⟩ := two_arrays hW3; clear hW3; have P3 := Lib.hid P3; have Q3 := Lib.hid Q3; have BL3 := Lib.hid BL3; have SZ3 := Lib.hid SZ3)
  clear hz
  generalize w2.heap.size = P at *
  have hXP : w.heap.size ≠ P := by omega
  go_loopw [15] (fun i wr => ∃ k : Nat, k ≤ 1024 ∧ i = .int .i64 k ∧ Hid (Blk wr P (dz (mixF (fun x y => x && y) fa fb k)) 48) ∧ Hid (Blk wr (P + 1) (dz fb) 48) ∧ Hid (Blk wr w.heap.size #[.slice none 0 0] 22) ∧ Hid (Below w.heap.size w wr)) (fun i _ => 1024 - (intOf i).toNat)
  case atStart => exact ⟨0, by omega, rfl, P3.out, Q3.out, X2.out.below BL3.out hX, BL2.out.trans (BL3.out.mono hs2)⟩
  case round =>
    obtain ⟨k, hk, rfl, Hp, Hq, Hx, Hb⟩ := hrel
    by_cases hlt : k < 1024
    · have c0 := Hp.out.cell k
      have c1 := Hq.out.cell k
      have fz := Hp.out.frozen k
      rw [dz_get _ _ hlt] at c0 c1
      simp only [mixF, Nat.lt_irrefl, if_false] at c0
      generalize hx : fa k = x at *
      generalize hy : fb k = y at *
      have HX := Lib.hid hx
      have HY := Lib.hid hy
      clear hx hy
      have hlt' : (k : Int) < 1024 := by omega
      go_wp2_with fail
      refine wp_region_still_tail 10 mixed (by kernel_rfl) ?_
      simp only [List.take_succ_cons, List.take_zero, List.drop_succ_cons, List.drop_zero]
      repeat still_step
      still_call (cl33 x y _)
      repeat still_step
      refine wpStill_nil ?_
      change wpList _ _ _ _ _ wr.drew
      go_wp2
      go_roundw
      case rel => exact ⟨k + 1, by omega, by go_num, mix_set (by rw [HX.out, HY.out]) Hp.out.drew, Hq.out.drew.keep (by simp) _, Hx.out.drew.keep hXP _, Hb.out.drew.setCell (by simp; omega) _⟩
      case measure => simp [intOf]; omega
    · obtain rfl : k = 1024 := by omega
      go_wp2_with (go_at_call 36; refine (runs_any _ _).mono ?_; rintro e w' ⟨rfl, rfl⟩)
      obtain ⟨i0, hi, hz0, hz1, hz2⟩ := info_parts info31
      have bN := Blk.new wr #[.pointer (some ⟨P, 0, none⟩)] 53
      have bP := Hp.out.alloc (.cells #[.pointer (some ⟨P, 0, none⟩)] 53)
      have bX : Boxed (wr.alloc (.cells #[.pointer (some ⟨P, 0, none⟩)] 53)) w.heap.size 22 (.slice none 0 0) := Hx.out.alloc (.cells #[.pointer (some ⟨P, 0, none⟩)] 53)
      have hB0 := Hb.out.alloc Hb.out.size (.cells #[.pointer (some ⟨P, 0, none⟩)] 53)
      have hsz : (wr.alloc (.cells #[.pointer (some ⟨P, 0, none⟩)] 53)).heap.size = wr.heap.size + 1 := by simp
      have hPl := Hp.out.lt
      have hwl := Hb.out.size
      have Fin := Lib.hid (runsL_cal (f := mixF (fun x y => x && y) fa fb 1024) (g := fun d => dayF L d && dayF M d) (fun i hi => by simp only [mixF, hi, if_true, HFA.out, HFB.out]))
      generalize mixF (fun x y => x && y) fa fb 1024 = fm at *
      generalize wr.heap.size = Bn at *
      generalize wr.alloc (.cells #[.pointer (some ⟨P, 0, none⟩)] 53) = W0 at *
      clear Hp Hq Hx Hb X2 BL2 P3 Q3 BL3 SZ3 HFA HFB
      refine (wpIn_wide (n := 3)).1 ?_
      refine wpIn_rangeFunc_ownH rfl (by omega) (n := 3) (gf := 37) (lb := #[.pointer (some ⟨Bn, 0, none⟩)]) rfl trivial (enters_of Try.func37 (by kernel_rfl) rfl)
        (runs_stops P Bn fm W0 bN bP) (fun h k => h.trans k) (KpB.put (by omega) (by omega)) (Below.refl _ _) (fun _ => rfl)
        (Iv w.heap.size P Bn w.heap.size fm w) (fun _ _ _ => False)
        (iv_own (Nat.le_refl _) (by omega))
        (fun _ _ _ _ _ hs _ _ => hs)
        ⟨⟨⟨⟨_, bX, World.ownsRow_nil _ _ _ _, trivial⟩, bP⟩, bN⟩, hB0⟩
        (fun x a'' W => ∃ Bx, Blk W Bx #[.int .i64 x.1, .int .i64 x.2] 31 ∧ a'' = { tmps := #[.slice a L.length cap, .slice a' M.length cap', .func (.func 33) #[] #[], undef, undef, undef, .pointer (some ⟨w.heap.size, 0, none⟩), .pointer (some ⟨P, 0, none⟩), .pointer (some ⟨P + 1, 0, none⟩), u9, .pointer (some ⟨Bx, 0, none⟩), .slice a L.length cap, .agg (dz fa), .slice a' M.length cap', .agg (dz fb), .int .i64 1024, .bool false, u17, u18, u19, u20, u21, u22, u23, u24, u25, u26, u27, u28, .func (.func 37) #[] #[.pointer (some ⟨Bn, 0, none⟩)], .agg #[.int .i64 x.1, .int .i64 x.2], undef, undef, undef, undef, undef], defers := [] })
        (fun x a'' _ X Y row hs hg hr => by obtain ⟨Bx, h1, h3⟩ := hs; exact ⟨Bx, blk_own Bx _ 31 () X Y row h1 hg (fun r e => (hr r e).2), h3⟩)
        ?assign ?body ?done ?stop
      case assign =>
        rintro l pre ⟨x1, x2⟩ W K hi hK
        obtain ⟨⟨⟨⟨v, hv, hr, _⟩, hp⟩, hn⟩, hB⟩ := hi
        have hi0 : Iv w.heap.size P Bn w.heap.size fm w pre (W.alloc (.cells #[.int .i64 x1, .int .i64 x2] 31)) := ⟨⟨⟨⟨v, hv.alloc _, hr.alloc _, trivial⟩, hp.alloc _⟩, hn.alloc _⟩, hB.alloc hB.size _⟩
        have hkp : KpB P Bn W (W.alloc (.cells #[.int .i64 x1, .int .i64 x2] 31)) := ⟨Below.heap_alloc _ _ _ hp.lt, Below.heap_alloc _ _ _ hn.lt⟩
        have HI := Lib.hid hi0
        have HK := Lib.hid hkp
        clear hi0 hkp hv hr hp hn hB
        simp only [encs2]
        gi_wp2
        exact hK _ _ ((KeepsOthers.alloc _ _).from _) HK.out HI.out ⟨W.heap.size, Blk.new W _ _, rfl⟩
      case body =>
        rintro l pre ⟨x1, x2⟩ a'' W hl ⟨r, hr0⟩ ⟨⟨⟨⟨v, hv, hrow, _⟩, hp⟩, hn⟩, hB⟩ ⟨Bx, bX1, rfl⟩ hlt1
        have cX := hv.cell
        have cY := bX1.cell 0
        have cZ := bX1.cell 1
        simp at cY cZ
        have hBs := hB.size
        have hmax : pre.length + 1 ≤ maxLen := by unfold maxLen; omega
        have Hp := Lib.hid hp
        have Hn := Lib.hid hn
        have HB := Lib.hid hB
        clear hp hn hB bX1 bX hB0 bP bN
        gi_wp2_with (gi_at_builtin; refine wpListIn_append_own _ rfl _ _ 22 rfl w.heap.size 31 i0 (.agg #[.int .i64 0, .int .i64 0]) 2 16 Try.underlying22 hi hz0 hz1 hz2 rfl (by decide) _ _ _ rfl (hrow.alloc _) ⟨W.heap.size, 0, none⟩ 1 1 [.int .i64 x1, .int .i64 x2] rfl rfl (cell_two_new _ _ _ _) (by simp [Value.oneCell']) hmax (by omega) (by simp; omega) ?_; intro v' w9 hown' hgrow _; obtain ⟨g', cap9, rfl⟩ := ownsRow_succ hown'; obtain ⟨hv1, hv2, hr2, hk2, hb2⟩ := hv.appended (by decide) hrow hBs (Nat.le_refl _) hown' hgrow; have hc1 := hv1.cell; have hf1 := hv1.frozen)
        have p1 : Blk (w9.setCell ⟨w.heap.size, 0, none⟩ (.slice (some ⟨g', 0, none⟩) (pre.length + 1) cap9)) P (dz fm) 48 := ((Hp.out.alloc _).grown hgrow (Hp.out.not_row (by decide) hrow)).keep hXP.symm _
        have n1 : Blk (w9.setCell ⟨w.heap.size, 0, none⟩ (.slice (some ⟨g', 0, none⟩) (pre.length + 1) cap9)) Bn #[.pointer (some ⟨P, 0, none⟩)] 53 := ((Hn.out.alloc _).grown hgrow (Hn.out.not_row (by decide) hrow)).keep (by simp; omega) _
        exact ⟨hk2.from _, ⟨p1.trans Hp.out.symm, n1.trans Hn.out.symm⟩, ⟨⟨⟨⟨_, hv2, by rw [encS_snoc]; simpa using hr2, trivial⟩, p1⟩, n1⟩, HB.out.trans hb2⟩⟩
      case done =>
        rintro D ys W hD rfl ⟨⟨⟨⟨v, hv, hrow, _⟩, hp⟩, hn⟩, hB⟩ hK
        rw [Fin.out] at hrow
        obtain ⟨a9, c9, rfl, _⟩ := sp_of_row hrow
        have cX := hv.cell
        have fX := hv.frozen
        have Hp := Lib.hid hp
        have Hrow := Lib.hid hrow
        have HB := Lib.hid hB
        have HK := Lib.hid hK
        clear hp hn hB hrow hK bX hB0 bP bN
        go_wp2
        have hv3 := hv.set (.slice a9 (List.length (runsL fun d => dayF L d && dayF M d)) c9)
        have hK3 := (KeepsOthers.setCell W ⟨w.heap.size, 0, none⟩ (.slice a9 (List.length (runsL fun d => dayF L d && dayF M d)) c9)).same D _ HK.out rfl
        have hr3 := Hrow.out.kept (grownBy_setCell' W w.heap.size (.slice a9 (List.length (runsL fun d => dayF L d && dayF M d)) c9)) (.inr (hv.not_row (by decide) Hrow.out).symm)
        have hr4 := ownsRow_putObj hr3 (.deferred none) hK3 rfl
        have hv4 := hv3.kept (grownBy_putObj' _ D (.deferred none)) (fun e => by cases e; rw [show _ = _ from hv3] at hK3; cases hK3)
        have hb4 := (HB.out.setCell (p := ⟨w.heap.size, 0, none⟩) (Nat.le_refl _) (.slice a9 (List.length (runsL fun d => dayF L d && dayF M d)) c9)).trans (belowK_b (w := w) (Nat.le_refl _) _ D _ (.deferred none) (by omega) hK3 rfl rfl)
        obtain ⟨a8, c8, e8, s8⟩ := sp_of_row hr4
        refine ⟨by simp, .inl ⟨_, _, rfl, run_takeDeferred hK3, ?_⟩⟩
        have c4 := hv4.cell
        clear hv hv3 hv4 hr3 hr4 cX fX Hrow Hp HB
        refine ⟨.slice a9 (List.length (runsL fun d => dayF L d && dayF M d)) c9, ?_, ⟨a8, c8, by rw [e8], s8⟩, hb4⟩
        clear s8 e8 hb4 hK3
        simp [results, Try.results28, go_sem, c4]
      case stop =>
        rintro D c pre W _ _ h _
        exact h.elim

end Go.Proofs.Ytinkifhbpbkhpaa
