/- Part 11 of the walks and laws that these claims rest on. No condition. -/
import Derived.Scope
import Derived.Test.YtdhfakajlnidiaaGreatPart10
set_option linter.all false
set_option linter.unusedSimpArgs false
set_option linter.unusedVariables false
set_option linter.unnecessarySimpa false
namespace Go.Proofs.YtdhfakajlnidiaaGreat
open Go.RowKit Go.Shelf
attribute [local go_sem] Oper.semAt_some

theorem inr_nat14 {n : Nat} (h : n ≤ 9223372036854775807) : InR .i64 (n : Int) := by
  show IntKind.i64.min ≤ (n : Int) ∧ (n : Int) ≤ IntKind.i64.max
  simp [IntKind.min, IntKind.max, IntKind.signed, IntKind.bits]
  omega
theorem u3' : Tryz.prog.underlying 3 = some (.int .i64) := by kernel_rfl
theorem cons_of_len {n : Nat} {l : List Value} (h : l.length = n + 1) : ∃ x t, l = x :: t ∧ t.length = n := by
  cases l with
  | nil => cases h
  | cons x t => exact ⟨x, t, rfl, by simpa using h⟩
theorem it50_raw {W : World} {G : Nat → Prop} {E : Env} {a : Act} {w : World} {fr : Fr} {l : Nat} {g : GraphD} {us : Nat → List Int} (f0 : fr.get 0 = .fn (.yield l) [] []) (f1 : fr.get 1 = .dp g.c 0)
    (f3 : fr.get 3 = .slm 1 (some (.var false)) UserD.c (usersL g.many us)) (f4 : fr.get 4 = .osl 1 0 1 (.lit false) (.lit 0) (.nat g.many)) (hr : Rel (itB W G) ⟨fr, [.row 3 1 1 (.rep (.nat g.many) [.int .i64 (.lit 0)])]⟩ E a w) :
    a.tmps.size = 89 ∧ a.defers = [] ∧ a.tmps.getD 0 undef = .func (.yield l) #[] #[] ∧ (∃ b1 o1 c0 es0 cl0, a.tmps.getD 1 undef = .pointer (some ⟨b1, o1, none⟩) ∧ GraphAt w E.G g b1 o1 c0 es0 cl0) ∧ UsersAt w E.G (a.tmps.getD 3 undef) g.many us ∧
      (∃ bo cap cs, a.tmps.getD 4 undef = .slice (some ⟨bo, 0, none⟩) g.many cap ∧ Blk w bo cs 3 ∧ cs.size = cap ∧ (∀ x, x < g.many → cs[x]? = some (.int .i64 0)) ∧ ¬ E.G bo ∧ W.heap.size ≤ bo) ∧
      (∀ b, E.G b → b < w.heap.size) ∧ (∀ b, E.G b → G b ∨ W.heap.size ≤ b) ∧ Below W.heap.size W w := by
  have d0 := hr.fr 0
  have d1 := hr.fr 1
  have d3 := hr.fr 3
  have d4 := hr.fr 4
  simp only at d0 d1 d3 d4
  rw [f0] at d0
  rw [f1] at d1
  rw [f3] at d3
  rw [f4] at d4
  refine ⟨hr.sz, hr.df, ?_, graphAt d1, usersAt_of d3, ?_, hr.wr.good, hr.wr.gn, hr.wr.bel⟩
  · generalize a.tmps.getD 0 undef = v at d0
    cases d0 with
    | fn s0 s1 _ _ =>
      rw [Array.eq_empty_of_size_eq_zero s0.symm, Array.eq_empty_of_size_eq_zero s1.symm]
  · have hh := hr.wr.heap 0 _ rfl
    have hown := hr.wr.own 0
    generalize a.tmps.getD 4 undef = v at d4
    generalize hd : D.osl 1 0 1 (.lit false) (.lit 0) (.nat g.many) = d at d4
    cases d4 with
    | @oslc _ n b vr nb' lo len c m cap hk hσ1 hnb hl hn hcc hm hsz =>
      cases hd
      obtain rfl : m = g.many := by
        have : (g.many : Int) = (m : Int) := hn
        omega
      rcases hh with ⟨q, _⟩ | ⟨_, q, _⟩
      · omega
      obtain ⟨cs, t, ht, h1, h2, _, h4⟩ := q c hσ1
      obtain rfl : t = 3 := by
        rcases ht with q | q
        · exact absurd q (by decide)
        · exact q
      obtain ⟨o1, o2, o3⟩ := hown c hσ1
      have hsz' : (0 + cap) * 1 = E.ζ 0 := hsz
      refine ⟨c, cap, cs, rfl, h1, by omega, fun x hx => ?_, o3, o1⟩
      obtain ⟨_, h5⟩ := h4 x [.int .i64 (.lit 0)] (by
        have : (RE.rep (.nat g.many) [D.int .i64 (.lit 0)]).den = List.replicate g.many [.int .i64 (.lit 0)] := by simp [RE.den, IE.den]
        rw [this, List.getElem?_replicate, if_pos hx])
      obtain ⟨u, hu, hru⟩ := h5 0 _ rfl
      cases hru
      simpa [IE.den] using hu
    | osln hk hs hnb hl hn =>
      cases hd
      cases hnb
    | osls hk =>
      cases hd
      rcases hh with ⟨q, _⟩ | ⟨q, _⟩
      · omega
      · have : E.κ 0 = 1 := q
        omega
    | _ => cases hd
theorem usesK_mem {hd : Int → Bool} {nd : Int → Int → Bool} {k x : Nat} {z : Int} : z ∈ usesK hd nd k x ↔ ∃ i : Nat, i < k ∧ z = i ∧ hd i = true ∧ nd i x = true := by
  unfold usesK
  rw [List.mem_filterMap]
  constructor
  · rintro ⟨i, h1, h2⟩
    split at h2
    · next q =>
      rw [Bool.and_eq_true] at q
      exact ⟨i, List.mem_range.1 h1, (Option.some.inj h2).symm, q.1, q.2⟩
    · cases h2
  · rintro ⟨i, h1, rfl, h2, h3⟩
    exact ⟨i, List.mem_range.2 h1, by simp [h2, h3]⟩
theorem usesK_nodup {hd : Int → Bool} {nd : Int → Int → Bool} {x : Nat} : ∀ k, (usesK hd nd k x).Nodup
  | 0 => List.nodup_nil
  | k + 1 => by
    rw [usesK_succ]
    split
    · rw [List.nodup_append]
      refine ⟨usesK_nodup k, by simp, fun a ha b hb => ?_⟩
      simp at hb
      obtain ⟨i, q1, q2, _⟩ := usesK_mem.1 ha
      omega
    · exact usesK_nodup k
set_option maxRecDepth 100000 in
set_option maxHeartbeats 4000000 in
theorem it50 (g : GraphD) (hm : g.many ≤ 10000) (hnd : ∀ h y, g.nd h y = true → g.hd h = true ∧ 0 ≤ y ∧ y < (g.many : Int)) (hcn : ∀ y, g.hd y = true → g.cn y = cnt g.many (g.nd y)) (w : World) (G : Nat → Prop) (hG : ∀ b, G b → b < w.heap.size) (v1 : Value) (h1 : DRep w (Env.of G) (.dp g.c 0) v1) :
    SeqE Fence.wide 2 Tryz.prog 30 #[v1] (ordR g.many g.nd).length (fun k => .int .i64 (atL (ordR g.many g.nd) k)) w := by
  intro l J C0 W hW hC0 hY hJ0
  have hus := (users_pure g (by omega) fun h y _ q => (hnd h y q).2).pure
  refine callsIn_of_wp Tryz.func30 rfl trivial ?_ rfl
  simp only [Tryz.ntmps30, List.size_toArray, List.length_cons, List.length_nil, Nat.reduceAdd, Nat.reduceSub, Array.replicate_succ, Array.replicate_zero, List.push_toArray, List.append_toArray, List.nil_append, List.cons_append]
  refine wpIn_wide.2 ?_
  have hGW : ∀ b, G b → b < W.heap.size := fun b hb => Nat.lt_of_lt_of_le (hG b hb) hW.size
  have h1W := h1.still fun b hb => hW.block b (hG b hb)
  refine wp_eng (itB W G) (Env.of G) ⟨rfl, Nat.le_refl _⟩ (it50_r0 l g.many g.m hm (graphF g) _ hus) ?_ ?_
  · refine ⟨rfl, rfl, fun t => ?_, fun x y c h => by simp [Env.of] at h, fun x c h => by simp [Env.of] at h, fun _ _ => rfl, fun x b h => by simp at h, fun _ _ => ⟨rfl, rfl⟩, hGW, fun _ h => h, fun _ h => .inl h, Below.refl _ _, fun p hp => by cases hp⟩
    match t with
    | 0 => exact .fn rfl rfl (fun i d v q => by simp at q) (fun i d v q => by simp at q)
    | 1 => exact h1W
    | t + 2 => exact .junk
  rintro fr' H' E' a' w' ⟨f0, f1, f3, f4, rfl⟩ hr
  obtain ⟨s1, s2, s3, ⟨b1, o1, c0, es0, cl0, s4, gr⟩, hu, ⟨bo, cap, cs0, s5, hB0, hcs, hz0, hbo, hboW⟩, hEl, hEG, hbel⟩ := it50_raw f0 f1 f3 f4 hr
  clear hr f0 f1 f3 f4 hus
  obtain ⟨tm, df⟩ := a'
  obtain ⟨tl⟩ := tm
  simp only [List.size_toArray] at s1 s2 s3 s4 s5 hu
  subst s2
  iterate 89 (have s9 := cons_of_len s1; clear s1; obtain ⟨_, _, rfl, s1⟩ := s9)
  obtain rfl := List.eq_nil_of_length_eq_zero s1
  simp at s3 s4 s5 hu
  subst s3 s4 s5
  clear s1
  have gr0 := gr.still (w' := w'.alloc (.cells #[.slice none 0 0] 91)) (fun b hb => Below.heap_alloc _ _ b (hEl b hb))
  have hc1 := gr0.c1
  go_wp2
  clear hc1
  obtain ⟨bq, hbq⟩ : ∃ x, x = w'.heap.size := ⟨_, rfl⟩
  obtain ⟨W0, hW0⟩ : ∃ x, x = w'.alloc (.cells #[.slice none 0 0] 91) := ⟨_, rfl⟩
  have hI0 : ItS W.heap.size W0 E'.G bo bq cap g.many (fun _ => 0) [] (.slice none 0 0) C0 W W0 := by
    have hbol := hB0.lt
    have hs := hbel.size
    refine ⟨?_, ⟨cs0, ?_, hcs, hz0⟩, ⟨⟨91, ?_⟩, (fun x hx => by cases hx), .inl ⟨rfl, rfl⟩⟩, (fun k _ hk => by simp at hk), fun b hb => ⟨?_, rfl⟩, fun b hb => ?_, fun b hb => ⟨?_, ?_, ?_⟩, (fun b hb => by cases hb), ?_, hboW, ?_⟩
    · have h5 : Below W.heap.size W W0 := by rw [hW0]; exact hbel.alloc hs _
      exact ⟨h5.os, h5.tape, h5.output, fun b hb _ => h5.block b hb⟩
    · rw [hW0]
      exact hB0.alloc _
    · rw [hW0, hbq]
      exact heap_alloc_new _ _
    · rw [hW0]
      have := hEl b hb
      simp; omega
    · have h6 := hC0 b hb
      refine ⟨h6.2, by omega, by omega, (fun e => by cases e), fun q => ?_⟩
      rcases hEG b q with q2 | q2
      · have := hG b q2; omega
      · omega
    · exact fun e => hbo (e ▸ hb)
    · have := hEl b hb; omega
    · intro e; cases e
    · omega
    · omega
  have hu0 := hu.still (w' := W0) (fun b hb => by rw [hW0]; exact Below.heap_alloc _ _ b (hEl b hb))
  rw [← hW0] at gr0
  simp only [← hbq, ← hW0]
  have HI := Lib.hid hI0
  have HU := Lib.hid hu0
  have HG := Lib.hid gr0
  have HY := Lib.hid hY
  have HJ := Lib.hid hJ0
  clear hI0 hu0 gr0 hbq hW0 hboW hbo hEl hEG hbel hz0 hcs hB0 hu gr hY hJ0 hC0 hG hW h1W hGW h1
  have HN := Lib.hid hnd
  have HC := Lib.hid hcn
  clear hnd hcn
  go_loopw [20] (fun i wr => ∃ (k : Nat), k ≤ g.many ∧ i = .int .i64 k ∧ Hid (∃ op L v, ItS W.heap.size W0 E'.G bo bq cap g.many op L v C0 W wr ∧ (∀ x, x < k → op x = cnt g.many (g.nd x)) ∧ L.Nodup ∧ ∀ z, z ∈ L ↔ ∃ i : Nat, i < k ∧ z = i ∧ op i = 0)) (fun i _ => g.many - (intOf i).toNat)
  case atStart => exact ⟨0, Nat.zero_le _, rfl, _, _, _, HI.out, fun x hx => by omega, List.nodup_nil, fun z => by simp⟩
  case round =>
    obtain ⟨k, hk, rfl, HK⟩ := hrel
    obtain ⟨wo, rfl⟩ : ∃ wo, wo = wr := ⟨_, rfl⟩
    obtain ⟨op, L, v, hI, ho, hLn, hLm⟩ := HK.out
    by_cases hlt : k < g.many
    · have hlt' : (k : Int) < g.many := by omega
      have gr := HG.out.still fun b hb => (hI.fr b hb).2
      have cG := gr.c2
      obtain ⟨mv, n, hn, hlk, hlen⟩ : ∃ mv n, n = cnt g.many (g.nd k) ∧ (Instr.lookup 63 (.map (some c0)) (.int .i64 (k : Int)) false).run Tryz.prog wo = .ok mv wo ∧ ∀ ty, (Builtin.len_ #[84] ty #[mv]).run Tryz.prog wo = .ok (.int .i64 (n : Int)) wo := by
        rcases gr.at_ (k : Int) with ⟨hd0, hfind⟩ | ⟨j, c, es, cl, hd1, hfind, hGc, hb, hs⟩
        · refine ⟨.map none, 0, ?_, lookup_runM (T_ok 63 _ rfl) (T_ok 3 _ rfl) (T_ok 84 _ rfl) gr.blk hfind, fun ty => run_len_nilMap _ _ _ (by kernel_rfl)⟩
          · refine (List.length_eq_zero_iff.2 (List.filter_eq_nil_iff.2 fun y _ hq => ?_)).symm
            have := (HN.out _ _ hq).1
            rw [hd0] at this
            cases this
        · refine ⟨.map (some c), es.size, by rw [hs, HC.out _ hd1], lookup_runM (T_ok 63 _ rfl) (T_ok 3 _ rfl) (T_ok 84 _ rfl) gr.blk hfind, fun ty => run_len_map _ _ _ _ _ _ (by kernel_rfl) hb⟩
      obtain ⟨cs, hB, hcs, hcz⟩ := hI.opn
      have hcx := (hB.cell k).trans (hcz k hlt)
      have hfx := hB.frozen k
      have hI1 := hI.store (z := (n : Int)) (op' := fun y => if y = k then (n : Int) else op y) hlt (fun y => rfl)
      have HI1 := Lib.hid hI1
      have HNn := Lib.hid hn
      clear hB hcs hcz hI1 hI gr hn
      by_cases hz : n = 0
      · have hq : ((n : Int) == 0) = true := by simp [hz]
        have hl1 := HI1.out.q
        have hLlen : L.length ≤ 10000 := Nat.le_trans (nodup_len hLn fun z hz => by obtain ⟨i, q1, q2, _⟩ := (hLm z).1 hz; exact ⟨i, by omega, q2⟩) hm
        have hph := Lib.hid (hpush_raw HI1.out.q (k : Int) (inr_nat14 (by omega)) hLlen HI1.out.heap)
        have HZ := Lib.hid hz
        clear hl1 hz
        go_wp2_with (go_at_call 31; refine hph.out.mono ?_; rintro e W2 ⟨L', v', rfl, hp, hh, hq', hkq⟩)
        have h2 := HI1.out.queue hkq hq' hh
        have hNK := Lib.hid (show ∃ op L v, ItS W.heap.size W0 E'.G bo bq cap g.many op L v C0 W W2 ∧ (∀ x, x < k + 1 → op x = cnt g.many (g.nd x)) ∧ L.Nodup ∧ ∀ z, z ∈ L ↔ ∃ i : Nat, i < k + 1 ∧ z = i ∧ op i = 0 from by
          refine ⟨_, _, _, h2, fun x hx => ?_, ?_, fun z => ?_⟩
          · by_cases q : x = k
            · simp only [q, if_true]
              rw [HNn.out]
            · simp only [q, if_false]
              exact ho x (by omega)
          · rw [hp.nodup_iff, List.nodup_append]
            refine ⟨hLn, by simp, fun a ha b hb => ?_⟩
            simp at hb
            obtain ⟨i, q1, q2, _⟩ := (hLm a).1 ha
            omega
          · rw [hp.mem_iff, List.mem_append, hLm]
            constructor
            · rintro (⟨i, q1, q2, q3⟩ | q)
              · exact ⟨i, by omega, q2, by simp only [show ¬ i = k by omega, if_false]; exact q3⟩
              · simp at q
                exact ⟨k, by omega, q, by simp only [if_true, HZ.out]; rfl⟩
            · rintro ⟨i, q1, q2, q3⟩
              by_cases q : i = k
              · right; subst q; simp [q2]
              · left
                simp only [q, if_false] at q3
                exact ⟨i, by omega, q2, q3⟩)
        clear hkq hq' hh hp h2 hph ho hLn hLm hlk hlen hcx hfx cG
        go_wp2
        go_roundw
        case rel => exact ⟨k + 1, by omega, by go_num, hNK⟩
        case measure => simp [intOf]; omega
      · have hq : ((n : Int) == 0) = false := by simp [hz]
        have hNK := Lib.hid (show ∃ op L v, ItS W.heap.size W0 E'.G bo bq cap g.many op L v C0 W (wo.setCell ⟨bo, k, none⟩ (.int .i64 (n : Int))) ∧ (∀ x, x < k + 1 → op x = cnt g.many (g.nd x)) ∧ L.Nodup ∧ ∀ z, z ∈ L ↔ ∃ i : Nat, i < k + 1 ∧ z = i ∧ op i = 0 from by
          refine ⟨_, _, _, HI1.out, fun x hx => ?_, hLn, fun z => ?_⟩
          · by_cases q : x = k
            · simp only [q, if_true]
              rw [HNn.out]
            · simp only [q, if_false]
              exact ho x (by omega)
          · rw [hLm]
            constructor
            · rintro ⟨i, q1, q2, q3⟩
              exact ⟨i, by omega, q2, by simp only [show ¬ i = k by omega, if_false]; exact q3⟩
            · rintro ⟨i, q1, q2, q3⟩
              by_cases q : i = k
              · simp only [q, if_true] at q3
                omega
              · simp only [q, if_false] at q3
                exact ⟨i, by omega, q2, q3⟩)
        clear ho hLn hLm
        go_wp2
        go_roundw
        case rel => exact ⟨k + 1, by omega, by go_num, hNK⟩
        case measure => simp [intOf]; omega
    · obtain rfl : k = g.many := by omega
      have hNK := Lib.hid (show KInv g.many g.nd [] op L from ⟨fun x hx => by rw [ho x hx]; unfold needC; simp, hLn, fun z => by
        rw [hLm]
        constructor
        · rintro ⟨i, q1, q2, q3⟩
          exact ⟨i, q1, q2, by unfold readyB; simp; rw [ho i q1] at q3; unfold needC; simpa using q3⟩
        · rintro ⟨i, q1, q2, q3⟩
          refine ⟨i, q1, q2, ?_⟩
          rw [ho i q1]
          unfold readyB needC at q3
          simpa using q3⟩)
      have HIt := Lib.hid hI
      clear hI ho hLn hLm
      have HK0 := Lib.hid (show ∃ k op L v C A, k ≤ (ordR g.many g.nd).length ∧ J k C A ∧ ItS W.heap.size W0 E'.G bo bq cap g.many op L v C A wo ∧ KInv g.many g.nd (seqR g.many g.nd k) op L from ⟨0, op, L, v, C0, W, Nat.zero_le _, HJ.out, HIt.out, hNK.out⟩)
      clear hNK HIt HK HJ HI HG hlt hk
      go_wp2
      refine (wpIn_wide (n := 2)).1 ?_
      gi_loopw [] (fun wr => Hid (∃ k op L v C A, k ≤ (ordR g.many g.nd).length ∧ J k C A ∧ ItS W.heap.size W0 E'.G bo bq cap g.many op L v C A wr ∧ KInv g.many g.nd (seqR g.many g.nd k) op L)) (leftM bo bq g.many)
      case atStart => exact HK0
      case round =>
        clear HK0
        obtain ⟨wo', rfl⟩ : ∃ wo, wo = wr := ⟨_, rfl⟩
        obtain ⟨k, op, L, v, C, A, hk, hj, hI, hKI⟩ := hrel.out
        have hSI := seqR_inv (m := g.many) (nd := g.nd) k
        have hlen := (seq_at hk).1
        have hmeas := hI.left hKI hSI
        obtain ⟨va, vc, rfl⟩ := hI.q.slice
        obtain ⟨tq, htq⟩ := hI.q.1
        have cq : wo'.cell? ⟨bq, 0, none⟩ = some (.slice va L.length vc) := by simp [World.cell?, htq]
        clear htq
        have hql := Lib.hid (qlen_raw va L.length vc wo')
        have f52 : Fence.wide.fn 32 := trivial
        by_cases h0 : L.length = 0
        · have hq : decide ((L.length : Int) > 0) = false := by simp [h0]
          obtain rfl := List.eq_nil_of_length_eq_zero h0
          have hNk := Lib.hid (seq_end hk hKI.empty)
          have HQ := Lib.hid hI.quiet
          have HJ' := Lib.hid hj
          clear hI hKI hSI hj hlen hmeas hq
          gi_wp2_with (gi_at_call 32; refine (callsIn_wide.2 hql.out).mono ?_; rintro e W2 ⟨rfl, rfl⟩)
          go_end0
          refine ⟨⟨_, rfl⟩, C, A, ?_, HQ.out⟩
          rw [← hNk.out]
          exact HJ'.out
        · have hq : decide ((L.length : Int) > 0) = true := by simp; omega
          obtain ⟨x, hx0, hnx⟩ := hKI.pop hI.heap (by omega)
          obtain ⟨hkN, hok, hsq⟩ := seq_next hk hnx
          obtain ⟨hrx, hxm, _⟩ := nextR_some.1 hnx
          have hLlen : L.length ≤ 10000 := Nat.le_trans hKI.len hm
          have hpp := hpop_raw hI.q hLlen (by omega) hI.heap
          rw [hx0] at hpp
          have hov : atL (ordR g.many g.nd) k = (x : Int) := atL_get hok
          have hyy : ∀ W3, QuietC W.heap.size C A W3 → YieldAt Fence.wide 1 Tryz.prog l #[.int .i64 (x : Int)] W3 fun e W' => e = .returned (.bool true) ∧ KeepsBut C W3 W' ∧ ∃ C', J (k + 1) C' W' ∧ ∀ b, C' b → (C b ∨ W3.heap.size ≤ b) ∧ b < W'.heap.size := fun W3 h => by
            have := HY.out k C A W3 hkN hj h
            simp only [hov] at this
            exact this
          have HYY := Lib.hid hyy
          have HPP := Lib.hid hpp
          have f53 : Fence.wide.fn 33 := trivial
          have f51 : Fence.wide.fn 31 := trivial
          have HKI := Lib.hid hKI
          have HSI := Lib.hid hSI
          have HIt := Lib.hid hI
          have HJ' := Lib.hid hj
          have Hsq := Lib.hid hsq
          have Hrx := Lib.hid hrx
          have Hov := Lib.hid hov
          have Hlen := Lib.hid hlen
          have Hme := Lib.hid hmeas
          clear hKI hSI hI hj hsq hrx hov hpp hyy hx0 hnx hok hlen hmeas hrel
          have hta : ∀ W3, (Instr.typeAssert (.iface 3 (.int .i64 (x : Int))) 20 3 true).run Tryz.prog W3 = .ok (.tuple #[.int .i64 (x : Int), .bool true]) W3 := fun W3 => by simp [Instr.typeAssert, run_underlying u3']
          gi_wp2_with (first
            | (gi_at_call 32; refine (callsIn_wide.2 hql.out).mono ?_; rintro e W2 ⟨rfl, rfl⟩)
            | (gi_at_call 33; refine (callsIn_wide.2 HPP.out).mono ?_; rintro e W3 ⟨L', v', rfl, hp, hh, hq', hkq⟩; have hI3 := HIt.out.queue hkq hq' hh; obtain ⟨fn, tmps, assign, body, hy, hR⟩ := HYY.out W3 hI3.quiet; have HI3 := Lib.hid hI3; have HP := Lib.hid hp; clear hI3 hp hh hq' hkq))
          refine hR.mono ?_
          clear hR hy
          rintro e W4 ⟨rfl, hkp, C', hj', hC'⟩
          have hI4 := HI3.out.yield hkp hC'
          obtain ⟨U, hUe⟩ : ∃ U, U = usesL g x := ⟨_, rfl⟩
          have hUl : U.length ≤ 10000 := by rw [hUe]; exact Nat.le_trans (usesK_len _ _ _ _) hm
          obtain ⟨a3, c3, hv3, hux⟩ := HU.out
          obtain ⟨bl, ol, ai, ci, rfl, hgbl, hcl, hel⟩ := hux x hxm
          rw [← hUe] at hcl hel
          rw [← World.cell?_of_block (a := ⟨bl, ol + x, none⟩) (hI4.fr bl hgbl).2] at hcl
          have hM0 : MInv g.many g.nd (seqR g.many g.nd k) x U 0 op L' := MInv.start HKI.out HP.out U
          have HIM := Lib.hid (show ∃ op L v, ItS W.heap.size W0 E'.G bo bq cap g.many op L v C' W4 W4 ∧ MInv g.many g.nd (seqR g.many g.nd k) x U 0 op L from ⟨op, L', v', hI4, hM0⟩)
          have HE := Lib.hid hel
          have HUe := Lib.hid hUe
          have HJ4 := Lib.hid hj'
          clear hI4 hM0 hel hUe hj' hC' hkp hux HI3 HP HKI HIt HYY HPP HJ' cq hql
          subst hv3
          gi_wp2
          have HT := Lib.hid hta
          clear hcl hta
          gi_loopw [68] (fun m wr => ∃ i : Nat, i ≤ U.length ∧ m = .int .i64 i ∧ Hid (∃ op L v, ItS W.heap.size W0 E'.G bo bq cap g.many op L v C' W4 wr ∧ MInv g.many g.nd (seqR g.many g.nd k) x U i op L)) (fun m _ => U.length - (intOf m).toNat)
          case atStart => exact ⟨0, Nat.zero_le _, rfl, HIM⟩
          case round =>
            clear HIM
            obtain ⟨i, hi, rfl, HR⟩ := hrel
            obtain ⟨w5, rfl⟩ : ∃ wo, wo = wr := ⟨_, rfl⟩
            obtain ⟨op2, L2, v2, hI5, hM5⟩ := HR.out
            by_cases hlt2 : i < U.length
            · have hlt2' : (i : Int) < U.length := by omega
              obtain ⟨z, hz⟩ : ∃ z, U[i]? = some z := ⟨_, List.getElem?_eq_getElem hlt2⟩
              obtain ⟨u, hum, rfl, _, hnu⟩ := usesK_mem.1 (show z ∈ usesK g.hd g.nd g.many x from by rw [show usesK g.hd g.nd g.many x = U from HUe.out.symm]; exact List.mem_of_getElem? hz)
              obtain ⟨bi, oi, rfl, hgbi, hce⟩ := HE.out i u hz
              rw [← World.cell?_of_block (a := ⟨bi, oi + i, none⟩) (hI5.fr bi hgbi).2] at hce
              have hUn : U.Nodup := by rw [HUe.out]; exact usesK_nodup _
              have hf := hM5.met HSI.out Hrx.out hxm hUn hum hz hnu
              have hle : op2 u ≤ 10000 := by
                rw [hf.2.1]
                have := cnt_le g.many fun b => g.nd u b && !(seqR g.many g.nd k).contains b
                have h9 : needC g.many g.nd (seqR g.many g.nd k) u = cnt g.many fun b => g.nd u b && !(seqR g.many g.nd k).contains b := rfl
                omega
              obtain ⟨cs, hB, hcs, hcz⟩ := hI5.opn
              have hcx := (hB.cell u).trans (hcz u hum)
              have hfx := hB.frozen u
              obtain ⟨zz, hzz⟩ : ∃ z, z = op2 u := ⟨_, rfl⟩
              rw [← hzz] at hcx
              obtain ⟨w1, hw1⟩ : ∃ y, y = zz - 1 := ⟨_, rfl⟩
              have hge := hf.2.2.1
              have hwr : IntKind.i64.wrap (zz - 1) = w1 := by rw [hw1]; exact w64 (by omega) (by omega)
              have hum' : (u : Int) < g.many := by omega
              have hI6 := hI5.store (z := w1) (op' := fun y => if y = u then w1 else op2 y) hum (fun y => rfl)
              have hLl := Nat.le_trans hM5.len hm
              have HW1 := Lib.hid (show w1 = op2 u - 1 by rw [hw1, hzz])
              have HI6 := Lib.hid hI6
              have HM5 := Lib.hid hM5
              have HF := Lib.hid hf
              have HUn := Lib.hid hUn
              have HZ := Lib.hid hz
              clear hI6 hI5 hM5 hf hUn hB hcs hcz hzz hge hle hw1 HR hz hnu
              by_cases hw0 : w1 = 0
              · subst hw0
                have hph := Lib.hid (hpush_raw HI6.out.q (u : Int) (inr_nat14 (by omega)) hLl HI6.out.heap)
                gi_wp2_with (gi_at_call 31; refine (callsIn_wide.2 hph.out).mono ?_; rintro e W6 ⟨L6, v6, rfl, hp6, hh6, hq6, hkq6⟩)
                have h7 := HI6.out.queue hkq6 hq6 hh6
                have hM7 := HM5.out.step HUn.out hum HZ.out HF.out (op' := fun y => if y = u then 0 else op2 y) (L' := L6) (fun y => by rw [← HW1.out]) (by
                  have h1 := HW1.out
                  rw [if_pos (by omega)]
                  exact hp6)
                have HIM := Lib.hid (show ∃ op L v, ItS W.heap.size W0 E'.G bo bq cap g.many op L v C' W4 W6 ∧ MInv g.many g.nd (seqR g.many g.nd k) x U (i + 1) op L from ⟨_, _, _, h7, hM7⟩)
                clear h7 hM7 hp6 hh6 hq6 hkq6 hph HI6 HM5 HF hcx hfx hce
                gi_wp2
                go_roundw
                case rel => exact ⟨i + 1, by omega, by go_num, HIM⟩
                case measure => simp [intOf]; omega
              · have hq0 : (w1 == 0) = false := by simp [hw0]
                have hM7 := HM5.out.step HUn.out hum HZ.out HF.out (op' := fun y => if y = u then w1 else op2 y) (L' := L2) (fun y => by rw [← HW1.out]) (by
                  have h1 := HW1.out
                  rw [if_neg (by omega)])
                have HIM := Lib.hid (show ∃ op L v, ItS W.heap.size W0 E'.G bo bq cap g.many op L v C' W4 (w5.setCell ⟨bo, u, none⟩ (.int .i64 w1)) ∧ MInv g.many g.nd (seqR g.many g.nd k) x U (i + 1) op L from ⟨_, _, _, HI6.out, hM7⟩)
                clear hM7 HI6 HM5 HF hw0
                gi_wp2
                go_roundw
                case rel => exact ⟨i + 1, by omega, by go_num, HIM⟩
                case measure => simp [intOf]; omega
            · obtain rfl : i = U.length := by omega
              obtain ⟨r1, r2⟩ := readyB_t.1 Hrx.out
              have hK7 := hM5.done hxm r1 fun y hy => by
                rw [show U = usesK g.hd g.nd g.many x from HUe.out, usesK_mem]
                constructor
                · rintro ⟨i, q1, q2, q3, q4⟩
                  rw [q2]
                  exact q4
                · exact fun h => ⟨y, hy, rfl, (HN.out _ _ h).1, h⟩
              rw [← Hsq.out] at hK7
              have hme7 := hI5.left hK7 (seqR_inv (k + 1))
              have hl7 : (seqR g.many g.nd (k + 1)).length = k + 1 := by rw [Hsq.out]; simp [Hlen.out]
              have HK8 := Lib.hid (show ∃ k op L v C A, k ≤ (ordR g.many g.nd).length ∧ J k C A ∧ ItS W.heap.size W0 E'.G bo bq cap g.many op L v C A w5 ∧ KInv g.many g.nd (seqR g.many g.nd k) op L from ⟨k + 1, _, _, _, _, _, hkN, HJ4.out, hI5, hK7⟩)
              have hkm := (seqR_inv (m := g.many) (nd := g.nd) (k + 1)).len
              have HL := Lib.hid (show leftM bo bq g.many w5 < leftM bo bq g.many W2 from by rw [hme7, Hme.out, hl7, Hlen.out]; omega)
              clear hK7 hme7 hl7 hkm hI5 hM5 r1 r2 HR
              gi_wp2
              go_roundw
              case rel => exact HK8
              case measure => exact HL.out
end Go.Proofs.YtdhfakajlnidiaaGreat
namespace Go.Proofs.YtdhfakajlnidiaaGreat
open Go.RowKit

/-! A region, operation by operation. -/
theorem CodeP.ops {P : Program} {cx : Cx} {id : Nat} {ops : Array Oper} {fr : Fr} {H : List Bk} {K : Exit → Fr → List Bk → Prop} (h : OpsP P cx ops ops.toList fr H (K .normal)) : CodeP P cx (.region id ops false) fr H K :=
  ⟨fun B E a w hnt hr => wp_region_list (h.run B E a w hnt.1 hnt.2 hr _ fun fr' H' E' a' w' q1 q2 => ⟨fr', H', E', q1, q2⟩)⟩
theorem OpsP.done {P : Program} {cx : Cx} {ops : Array Oper} {fr : Fr} {H : List Bk} {K : Fr → List Bk → Prop} (h : K fr H) : OpsP P cx ops [] fr H K := ⟨fun B E a w _ _ hr Q hQ => hQ _ _ _ _ _ h hr⟩
theorem OpsP.step {P : Program} {cx : Cx} (hT : cx.T.ok P) {ops : Array Oper} {o : Oper} {os : List Oper} {fr : Fr} {H : List Bk} {K : Fr → List Bk → Prop} (h : vopsH P cx ops o fr H fun fr H => OpsP P cx ops os fr H K) : OpsP P cx ops (o :: os) fr H K :=
  ⟨fun B E a w hnt hh0 hr Q hQ => vopsH_sound hT hnt hh0 h hr fun fr' H' E' a' w' q1 q2 => q1.run B E' a' w' hnt hh0 q2 Q hQ⟩
theorem OpsP.rest {P : Program} {cx : Cx} (hT : cx.T.ok P) {ops : Array Oper} {os : List Oper} {fr : Fr} {H : List Bk} {K : Fr → List Bk → Prop} (h : vops P cx ops os fr H K) : OpsP P cx ops os fr H K :=
  ⟨fun _ _ _ _ hnt hh0 hr _ hQ => vops_sound hT hnt hh0 os h hr hQ⟩
/-- a slice that is built is kept as an own row -/
theorem OpsP.own {P : Program} {cx : Cx} (hT : cx.T.ok P) {ops : Array Oper} {o : Oper} {os : List Oper} {fr : Fr} {H : List Bk} {K : Fr → List Bk → Prop} (hg : o.guard = none) (h : vop P cx true o fr H fun fr H => OpsP P cx ops os fr H K) : OpsP P cx ops (o :: os) fr H K := by
  refine ⟨fun B E a w hnt hh0 hr Q hQ => ?_⟩
  unfold wpList
  rw [if_pos (by unfold Region.wanted; rw [hg])]
  exact .inl (Oper.wp_mono (fun a' w' ⟨fr2, H2, E2, q1, q2⟩ => q1.run B E2 a' w' hnt hh0 q2 Q hQ) (vop_sound hT hnt hh0 h hr (Q := Q)))
end Go.Proofs.YtdhfakajlnidiaaGreat
namespace Go.Proofs.YtdhfakajlnidiaaGreat
open Go.RowKit

/-! Cycle, of the program. -/
theorem osl_step1 {H H' : List Bk} {n b v : Nat} (k : Nat) : SnD H H' (.osl n b v (.lit false) (.lit 0) (.sum (.nat k) (.lit 1))) (.osl n b v (.lit false) (.lit 0) (.nat (k + 1))) := by
  refine .eq (.osl rfl rfl ?_)
  show (k : Int) + 1 = ((k + 1 : Nat) : Int)
  omega
def ungotoK (K : Exit → Fr → List Bk → Prop) (e : Exit) (fr : Fr) (H : List Bk) : Prop := match e with
  | .goto _ => False
  | e => K e fr H
theorem CodeP.scope {P : Program} {cx : Cx} {c : Code} {fr : Fr} {H : List Bk} {K : Exit → Fr → List Bk → Prop} (h : CodeP P cx c fr H (ungotoK K)) : CodeP P cx (.scope c) fr H K := by
  refine ⟨fun B E a w hnt hr => wp_scope_straight (Code.wp_mono (fun e a' w' ⟨fr', H', E', q1, q2⟩ => ?_) (h.run B E a w hnt hr))⟩
  cases e <;> first | exact q1.elim | exact ⟨fr', H', E', q1, q2⟩
/-- the head of the shortest circle, and its length -/
def bestStep (D : Int → FI) (s : Int × Int) (i : Nat) : Int × Int := match D i i with
  | some d => if d < s.1 then (d, (i : Int)) else s
  | none => s
def bestAt (n : Nat) (D : Int → FI) (k : Nat) : Int × Int := (List.range k).foldl (bestStep D) ((n : Int) + 1, 0)
theorem bestAt_succ (n : Nat) (D : Int → FI) (k : Nat) : bestAt n D (k + 1) = bestStep D (bestAt n D k) k := by
  unfold bestAt
  rw [List.range_succ, List.foldl_append]
  rfl
def walkP (ks : Int → List Int) (DA : FI) : Nat → Int → List Int
  | 0, _ => []
  | m + 1, here => match (ks here).find? fun x => decide ((DA x).getD 0 = ((m + 1 : Nat) : Int)) with
    | some x => x :: walkP ks DA m x
    | none => []
def needKs (S : SourceD) (y : Int) : List Int := numsL S.schemas.length (needsB S.rules y)
def bestS (S : SourceD) : Int × Int := bestAt S.schemas.length (distS S) S.schemas.length
def hasCyc (S : SourceD) : Bool := numberedB S.schemas.length S.rules && decide ((bestS S).1 ≤ (S.schemas.length : Int))
def cycL (S : SourceD) : List Int := if hasCyc S then (bestS S).2 :: walkP (needKs S) (distS S (bestS S).2) ((bestS S).1.toNat - 1) (bestS S).2 else []
/-- who has a distance needs somebody -/
theorem fi_head {L : Nat → List Int} {to : Int} {Q : Int → Prop} (hL : ∀ y u, u ∈ L y → Q u) : ∀ t x, fiB (fiAt L to t).1 x = true → Q x
  | 0, x, hx => by cases hx
  | t + 1, x, hx => by
    have hstep : ∀ {n : Int} {s : FI × List Int} {u : Int}, Q u → (∀ x, fiB s.1 x = true → Q x) → ∀ x, fiB (fiStep n s u).1 x = true → Q x := fun {n s u} hu h x hx => by
      unfold fiStep at hx
      split at hx
      · exact h x hx
      · by_cases q : x = u
        · subst q; exact hu
        · refine h x ?_
          unfold fiB at hx ⊢
          simpa [q] using hx
    have hrow : ∀ {n : Int} (us : List Int) (s : FI × List Int), (∀ u, u ∈ us → Q u) → (∀ x, fiB s.1 x = true → Q x) → ∀ x, fiB (fiRow n s us).1 x = true → Q x := fun {n} us => by
      induction us with
      | nil => exact fun s _ h => h
      | cons u us ih => exact fun s hu h => ih (fiStep n s u) (fun v hv => hu v (by simp [hv])) (hstep (hu u (by simp)) h)
    have hrnd : ∀ {n : Int} (layer : List Int) (s : FI × List Int), (∀ x, fiB s.1 x = true → Q x) → ∀ x, fiB (layer.foldl (fun s x => fiRow n s (L x.toNat)) s).1 x = true → Q x := fun {n} layer => by
      induction layer with
      | nil => exact fun s h => h
      | cons y layer ih => exact fun s h => ih _ (hrow (L y.toNat) s (hL y.toNat) h)
    exact hrnd (fiAt L to t).2 ((fiAt L to t).1, []) (fun x hx => fi_head hL t x hx) x hx
theorem fi_pos {L : Nat → List Int} {to : Int} : ∀ t x d, (fiAt L to t).1 x = some d → 1 ≤ d
  | 0, x, d, hx => by cases hx
  | t + 1, x, d, hx => by
    have hstep : ∀ {n : Int} {s : FI × List Int} {u : Int}, 1 ≤ n → (∀ x d, s.1 x = some d → 1 ≤ d) → ∀ x d, (fiStep n s u).1 x = some d → 1 ≤ d := fun {n s u} hu h x d hx => by
      unfold fiStep at hx
      split at hx
      · exact h x d hx
      · by_cases q : x = u
        · simp only [q, if_true, Option.some.injEq] at hx
          omega
        · simp only [q, if_false] at hx
          exact h x d hx
    have hrow : ∀ {n : Int} (us : List Int) (s : FI × List Int), 1 ≤ n → (∀ x d, s.1 x = some d → 1 ≤ d) → ∀ x d, (fiRow n s us).1 x = some d → 1 ≤ d := fun {n} us => by
      induction us with
      | nil => exact fun s _ h => h
      | cons u us ih => exact fun s hu h => ih (fiStep n s u) hu (hstep hu h)
    have hrnd : ∀ {n : Int} (layer : List Int) (s : FI × List Int), 1 ≤ n → (∀ x d, s.1 x = some d → 1 ≤ d) → ∀ x d, (layer.foldl (fun s x => fiRow n s (L x.toNat)) s).1 x = some d → 1 ≤ d := fun {n} layer => by
      induction layer with
      | nil => exact fun s _ h => h
      | cons y layer ih => exact fun s hu h => ih _ hu (hrow (L y.toNat) s hu h)
    exact hrnd (n := ((t + 1 : Nat) : Int)) (fiAt L to t).2 ((fiAt L to t).1, []) (by omega) (fun x d hx => fi_pos t x d hx) x d hx
theorem dist_head {S : SourceD} {to x : Int} (h : fiB (distS S to) x = true) : heads S.rules x = true := by
  refine fi_head (Q := fun x => heads S.rules x = true) (fun y u hu => ?_) _ x h
  unfold usesL usesK at hu
  rw [List.mem_filterMap] at hu
  obtain ⟨i, _, h2⟩ := hu
  split at h2
  · next q =>
    cases h2
    simp only [Bool.and_eq_true] at q
    exact q.1
  · cases h2
theorem bestAt_in {n : Nat} {D : Int → FI} : ∀ k, (bestAt n D k).1 ≤ (n : Int) → (∃ i : Nat, i < k ∧ (bestAt n D k).2 = (i : Int) ∧ D i i = some (bestAt n D k).1)
  | 0, h => by
    have : (bestAt n D 0).1 = (n : Int) + 1 := rfl
    omega
  | k + 1, h => by
    rw [bestAt_succ] at h ⊢
    unfold bestStep at h ⊢
    split at h
    · next d hd =>
      split at h
      · next hlt =>
        try rw [hd]
        simp only [hlt, if_true]
        exact ⟨k, by omega, rfl, hd⟩
      · next hlt =>
        obtain ⟨i, h1, h2, h3⟩ := bestAt_in k h
        try rw [hd]
        simp only [hlt, if_false]
        exact ⟨i, by omega, h2, h3⟩
    · next hd =>
      obtain ⟨i, h1, h2, h3⟩ := bestAt_in k h
      try rw [hd]
      exact ⟨i, by omega, h2, h3⟩
set_option maxHeartbeats 8000000 in
set_option maxRecDepth 100000 in
set_option maxHeartbeats 4000000 in
theorem Cycle_pure (S : SourceD) (h : SmallS S) : Pure Tryz.prog 13 [.agg S.c] (.tup [.slm 1 (some (.var (cycL S).isEmpty)) intC (cycL S), boolD (hasCyc S), i64 (if numberedB S.schemas.length S.rules then 0 else 140)]) := by
  have hn7 := h.n
  have hread := (read_pure S (by omega) (by have := h.r; omega) (fun r hr => by have := h.f r hr; omega)).pure
  have huse : numberedB S.schemas.length S.rules = true → Pure Tryz.prog 23 [.agg (graphOf S).c] (.slm 1 (some (.var false)) UserD.c (usersL S.schemas.length (usesL (graphOf S)))) := fun hb => (users_pure (graphOf S) (by show S.schemas.length ≤ 100000; omega) (fun a b _ hn => (numbered_in hb hn).2)).pure
  have hst : ∀ x : Int, 0 ≤ x ∧ x < (S.schemas.length : Int) → Pure Tryz.prog 24 [.agg (graphOf S).c, .slm 1 (some (.var false)) UserD.c (usersL S.schemas.length (usesL (graphOf S))), i64 x] (.mapd .i64 .i64 (distS S x) (.nat (distNS S x))) := fun x hx => steps_pure (graphOf S) (usesL (graphOf S)) x S.schemas.length (by omega) hx uses_ok
  have hhd := @dist_head S
  have hpos : ∀ to x d, distS S to x = some d → 1 ≤ d := fun to x d hd => fi_pos _ x d hd
  have hks1 : ∀ y, (needKs S y).Pairwise fun a b => a < b := fun y => numsL_sorted _ _
  have hks2 : ∀ y, ∀ x ∈ needKs S y, InR .i64 x := fun y => numsL_in (by omega)
  have hks3 : numberedB S.schemas.length S.rules = true → ∀ y x, x ∈ needKs S y ↔ needsB S.rules y x = true := fun hb y x => by
    unfold needKs
    rw [numsL_mem]
    exact ⟨fun h => h.2, fun h => ⟨(numbered_in hb h).2, h⟩⟩
  have hks4 : ∀ y, (needKs S y).length ≤ 7 := fun y => by
    unfold needKs
    rw [numsL_len]
    have := cnt_le S.schemas.length (needsB S.rules y)
    omega
  have hcn : ∀ y, (graphOf S).cn y ≤ 1000 := fun y => by
    have : (graphOf S).cn y ≤ S.schemas.length := cnt_le _ _
    omega
  have hGF : ∀ y, graphF (graphOf S) y = if heads S.rules y then some (.mg .i64 (boolF (needsB S.rules y)) (.nat ((graphOf S).cn y))) else none := fun y => rfl
  have hsort := @sorted_mg
  have hb0 : bestAt S.schemas.length (distS S) 0 = ((S.schemas.length : Int) + 1, 0) := rfl
  have hbS := fun k => bestAt_succ S.schemas.length (distS S) k
  have hbI := fun k => bestAt_in (n := S.schemas.length) (D := distS S) k
  unfold hasCyc cycL hasCyc
  unfold bestS
  have hG : (graphOf S).c = [.int .i64 (.nat S.schemas.length), .mg .i64 (graphF (graphOf S)) (.nat (graphOf S).m)] := rfl
  rw [hG] at huse hst
  have hr1 : numberedB S.schemas.length S.rules = true → Pure Tryz.prog 15 [.agg S.c] (.tup [.agg [.int .i64 (.nat S.schemas.length), .mg .i64 (graphF (graphOf S)) (.nat (graphOf S).m)], .int .i64 (.lit 0)]) := fun hb => by
    unfold readD at hread
    rw [hb, hG] at hread
    exact hread
  have hr0 : numberedB S.schemas.length S.rules = false → Pure Tryz.prog 15 [.agg S.c] (.tup [.agg [.int .i64 (.lit 0), .nilm], .int .i64 (.lit 140)]) := fun hb => by
    unfold readD at hread
    rw [hb] at hread
    exact hread
  clear hread hG
  obtain ⟨U, hU⟩ : ∃ U, U = usersL S.schemas.length (usesL (graphOf S)) := ⟨_, rfl⟩
  rw [← hU] at huse hst
  obtain ⟨GF, hGF'⟩ : ∃ U, U = graphF (graphOf S) := ⟨_, rfl⟩
  obtain ⟨gm, hgm⟩ : ∃ U, U = (graphOf S).m := ⟨_, rfl⟩
  rw [← hGF', ← hgm] at huse hst hr1
  rw [← hGF'] at hGF
  obtain ⟨CN, hCN⟩ : ∃ U, U = (graphOf S).cn := ⟨_, rfl⟩
  rw [← hCN] at hcn hGF
  obtain ⟨DS, hDS⟩ : ∃ U, U = distS S := ⟨_, rfl⟩
  obtain ⟨DN, hDN⟩ : ∃ U, U = distNS S := ⟨_, rfl⟩
  obtain ⟨KS, hKS⟩ : ∃ U, U = needKs S := ⟨_, rfl⟩
  obtain ⟨HD, hHD⟩ : ∃ U, U = heads S.rules := ⟨_, rfl⟩
  obtain ⟨ND, hND⟩ : ∃ U, U = needsB S.rules := ⟨_, rfl⟩
  rw [← hDS, ← hDN] at hst
  rw [← hDS] at hhd hpos hb0 hbS hbI ⊢
  rw [← hKS] at hks1 hks2 hks3 hks4 ⊢
  rw [← hHD] at hhd hGF
  rw [← hND] at hGF hks3
  obtain ⟨BA, hBA⟩ : ∃ U, U = bestAt S.schemas.length DS := ⟨_, rfl⟩
  rw [← hBA] at hb0 hbS hbI ⊢
  obtain ⟨rb, hrb⟩ : ∃ b, b = numberedB S.schemas.length S.rules := ⟨_, rfl⟩
  rw [← hrb] at hr0 hr1 huse hks3 ⊢
  obtain ⟨n, hn⟩ : ∃ n, n = S.schemas.length := ⟨_, rfl⟩
  rw [← hn] at hr1 huse hst hn7 hb0 hbI ⊢
  obtain ⟨hc, hhc⟩ : ∃ b, b = (rb && decide ((BA n).1 ≤ (n : Int))) := ⟨_, rfl⟩
  obtain ⟨WP, hWP⟩ : ∃ f, f = walkP KS := ⟨_, rfl⟩
  have hW0 : ∀ D x, walkP KS D 0 x = [] := fun D x => rfl
  have hWs : ∀ (D : FI) m x y, (KS x).find? (fun y => decide ((D y).getD 0 = ((m + 1 : Nat) : Int))) = some y → walkP KS D (m + 1) x = y :: walkP KS D m y := fun D m x y h => by simp only [walkP, h]
  have hWn : ∀ (D : FI) m x, (KS x).find? (fun y => decide ((D y).getD 0 = ((m + 1 : Nat) : Int))) = none → walkP KS D (m + 1) x = [] := fun D m x h => by simp only [walkP, h]
  rw [← hWP] at hW0 hWs hWn
  rw [← hhc, ← hWP]
  obtain ⟨l, hl⟩ : ∃ l, l = if hc = true then (BA n).2 :: WP (DS (BA n).2) ((BA n).1.toNat - 1) (BA n).2 else [] := ⟨_, rfl⟩
  obtain ⟨lb, hlb⟩ : ∃ lb, lb = l.isEmpty := ⟨_, rfl⟩
  obtain ⟨e, he⟩ : ∃ e : Int, e = if rb = true then 0 else 140 := ⟨_, rfl⟩
  rw [← hl, ← hlb, ← he]
  clear hWP hU hGF' hgm hDS hDN hrb h hn hHD hND hKS hBA hCN
  obtain ⟨ni, is, nu, us, ns, ss, nr, rs, nc, cs, np, ps⟩ := S
  refine Pure.intro (want := [.slm 1 (some (.var lb)) intC l, boolD hc, i64 e]) T_ok follows Tryz.func13 rfl (by kernel_rfl) (rs := [.tmp 2, .tmp 3, .tmp 4]) rfl (by kernel_rfl) ?_
  generalize hP : Tryz.prog = P at *
  have hT : T.ok P := hP ▸ T_ok
  have hm : P.follows .mixedOrders = true := hP ▸ follows
  unfold Tryz.f13
  dsimp only
  cbv
  refine CodeP.scope ?_
  cases rb with
  | false =>
    have hcf : hc = false := hhc
    subst hcf
    replace hl : l = [] := hl
    refine CodeP.seq (vc_sound hT hm _ ?_)
    cbv
    refine CallP.pure _ (hr0 rfl) rfl ?_
    cbv
    refine CodeP.seq (vc_sound hT hm _ ?_)
    cbv
    refine .mk (.cons (.eq (.nilv hl ?_)) (.cons (.eq (.bool rfl)) (.cons (.eq (.int ?_)) .nil))) rfl
    · rw [BE.var_d, hlb, hl]; rfl
    · rw [IE.lit_d, IE.var_d, he]; rfl
  | true =>
    refine CodeP.seq (vc_sound hT hm _ ?_)
    cbv
    refine CallP.pure _ (hr1 rfl) rfl ?_
    cbv
    refine CodeP.seq (vc_sound hT hm _ ?_)
    cbv
    refine CodeP.seq (vc_sound hT hm _ ?_)
    cbv
    refine CallP.pure _ (huse rfl) rfl ?_
    cbv
    refine CodeP.seq (vc_sound hT hm _ ?_)
    cbv
    refine CodeP.seq (vc_sound hT hm _ ?_)
    cbv
    refine CodeP.keep [2, 3, 4, 5, 6, 7, 8, 31, 32] ?_
    refine CodeP.loopc hT hm (X := Nat × Int × Int) (fun x => [(32, .int .i64 (.nat x.1)), (7, i64 x.2.1), (8, i64 x.2.2)]) (fun x => x.1 ≤ n ∧ (x.2.1, x.2.2) = BA x.1) (fun x => n - x.1) (0, (n : Int) + 1, 0) ⟨Nat.zero_le _, hb0.symm⟩ (Nat.zero_le _) ?_ rfl ?_
    · (cbv; (repeat' (first | exact SnD.refl _ | exact trivial | exact SnD.nat0 | refine And.intro ?_ ?_)))
      · refine .eq (.int ?_)
        show IntKind.i64.wrap ((n : Int) + 1) = (n : Int) + 1
        exact w64 (by omega) (by omega)
      · exact .eq (.int rfl)
    intro ⟨k, least, at_⟩ ⟨hk, hq⟩
    simp only at hk hq
    cbv
    refine SplitP.mk (fun hs => ?_) (fun hs => ?_)
    · have hkn : k < n := by
        have h1 : decide ((k : Int) < (n : Int)) = true := hs
        have := of_decide_eq_true h1
        omega
      refine CallP.pre [.agg [.int .i64 (.nat n), .mg .i64 GF (.nat gm)], .slm 1 (some (.var false)) UserD.c U, i64 (k : Int)] _ (.cons (.eq (.refl _)) (.cons (.eq (.refl _)) (.cons (.eq (.int (e' := .var (k : Int)) rfl)) .nil))) (HEnt.refl _) rfl rfl (CallP.pure _ (hst (k : Int) ⟨Int.natCast_nonneg k, Int.ofNat_lt.2 hkn⟩) rfl ?_)
      have hq2 := hbS k
      rw [← hq] at hq2
      unfold bestStep at hq2
      cbv
      refine LetOP.mk (fun hd => ?_) (fun d hd => ?_)
      · replace hd : DS (k : Int) (k : Int) = none := hd
        rw [hd] at hq2
        cbv
        refine BackP.intro (k + 1, least, at_) ⟨by show k + 1 ≤ n; omega, hq2.symm⟩ (by show n - (k + 1) < n - k; omega) ⟨?_, HEnt.refl _, rfl⟩
        (cbv; (repeat' (first | exact SnD.refl _ | exact trivial | exact SnD.nat0 | refine And.intro ?_ ?_)))
        exact .inc (by omega)
      · replace hd : DS (k : Int) (k : Int) = some d := hd
        rw [hd] at hq2
        simp only at hq2
        cbv
        refine SplitP.mk (fun hs => ?_) (fun hs => ?_)
        · have h1 := of_decide_eq_true (show decide (d < least) = true from hs)
          rw [if_pos h1] at hq2
          refine BackP.intro (k + 1, d, (k : Int)) ⟨by show k + 1 ≤ n; omega, hq2.symm⟩ (by show n - (k + 1) < n - k; omega) ⟨?_, HEnt.refl _, rfl⟩
          (cbv; (repeat' (first | exact SnD.refl _ | exact trivial | exact SnD.nat0 | refine And.intro ?_ ?_)))
          · exact .inc (by omega)
          · exact .eq (.int rfl)
        · have h1 := of_decide_eq_false (show decide (d < least) = false from hs)
          rw [if_neg h1] at hq2
          refine BackP.intro (k + 1, least, at_) ⟨by show k + 1 ≤ n; omega, hq2.symm⟩ (by show n - (k + 1) < n - k; omega) ⟨?_, HEnt.refl _, rfl⟩
          (cbv; (repeat' (first | exact SnD.refl _ | exact trivial | exact SnD.nat0 | refine And.intro ?_ ?_)))
          exact .inc (by omega)
    · have hkn : k = n := by
        have h1 : decide ((k : Int) < (n : Int)) = false := hs
        have := of_decide_eq_false h1
        omega
      subst hkn
      rw [← hq] at hhc hl
      simp only [Bool.true_and] at hhc
      have hbI2 := hbI k
      rw [← hq] at hbI2
      simp only at hbI2 hl
      try simp only [ncast] at hbI2
      try simp only [ncast] at hhc
      refine CodeP.keep [2, 3, 4, 5, 6, 7, 8] ?_
      refine CodeP.seq (vc_sound hT hm _ ?_)
      cbv
      refine SplitP.mk (fun hs => ?_) (fun hs => ?_)
      · have h1 : least > (k : Int) := of_decide_eq_true (show decide (least > (k : Int)) = true from hs)
        try simp only [ncast] at h1
        have h2 : hc = false := by rw [hhc]; exact decide_eq_false (Int.not_le.2 h1)
        subst h2
        replace hl : l = [] := hl
        refine .mk (.cons (.eq (.nilv hl ?_)) (.cons (.eq (.bool rfl)) (.cons (.eq (.int ?_)) .nil))) rfl
        · rw [BE.var_d, hlb, hl]; rfl
        · rw [IE.lit_d, IE.var_d, he]; rfl
      have h1 : ¬ least > (k : Int) := of_decide_eq_false (show decide (least > (k : Int)) = false from hs)
      try simp only [ncast] at h1
      have h2 : hc = true := by rw [hhc]; exact decide_eq_true (Int.not_lt.1 h1)
      subst h2
      simp only [if_true] at hl
      obtain ⟨a, ha, rfl, hda⟩ := hbI2 (Int.not_lt.1 h1)
      refine CodeP.seq (vc_sound hT hm _ ?_)
      cbv
      refine CallP.pre [.agg [.int .i64 (.nat k), .mg .i64 GF (.nat gm)], .slm 1 (some (.var false)) UserD.c U, i64 (a : Int)] _ (.cons (.eq (.refl _)) (.cons (.eq (.refl _)) (.cons (.eq (.int rfl)) .nil))) (HEnt.refl _) rfl rfl (CallP.pure _ (hst (a : Int) ⟨Int.natCast_nonneg a, Int.ofNat_lt.2 ha⟩) rfl ?_)
      cbv
      refine CodeP.seq (CodeP.ops ?_)
      refine OpsP.step hT ?_
      cbv
      refine OpsP.own hT rfl ?_
      cbv
      refine OpsP.rest hT ?_
      cbv
      refine CodeP.seq (vc_sound hT hm _ ?_)
      cbv
      have hl7 : least ≤ 7 := Int.le_trans (show least ≤ Int.ofNat k from Int.not_lt.1 h1) (Int.ofNat_le.2 hn7)
      have hl1 : 1 ≤ least := hpos _ _ _ hda
      obtain ⟨DA, hDA⟩ : ∃ D, D = DS (a : Int) := ⟨_, rfl⟩
      have hha : HD (a : Int) = true := hhd (to := (a : Int)) (by unfold fiB; rw [hda]; rfl)
      have hhx : ∀ x, fiB DA x = true → HD x = true := fun x hx => hhd (to := (a : Int)) (by rw [← hDA]; exact hx)
      rw [← hDA] at hl ⊢
      refine CodeP.keep [2, 3, 4, 5, 7, 8, 12] ?_
      refine CodeP.seq (vc_sound hT hm _ ?_)
      cbv
      refine CodeP.keep [2, 3, 4, 5, 12, 13, 14] ?_
      refine CodeP.loopm hT hm (X := Nat × Int × List Int × Nat) (fun x => [(2, .osl 1 2 x.2.2.2 (.lit false) (.lit 0) (.nat x.2.2.2)), (13, i64 x.2.1), (14, .int .i64 (.nat (x.1 + 1)))]) (fun x => [.dead, .cells [.int .i64 (.nat k), .mg .i64 GF (.nat gm)], .row 3 1 x.2.2.2 (.map intC x.2.2.1)])
        (fun x => x.2.2.1 ++ WP DA x.1 x.2.1 = l ∧ x.2.2.1.length = x.2.2.2 ∧ x.1 + x.2.2.2 ≤ 100 ∧ 1 ≤ x.2.2.2 ∧ HD x.2.1 = true) (fun x => x.1) (least.toNat - 1, (a : Int), [(a : Int)], 1) ⟨hl.symm, rfl, by simp only; omega, Nat.le_refl _, hha⟩ (fun _ => by simp) ⟨?_, ?_, rfl⟩ ?_
      · (cbv; (repeat' (first | exact SnD.refl _ | exact trivial | exact SnD.nat0 | refine And.intro ?_ ?_)))
        · exact .eq (.osl rfl rfl rfl)
        · refine .eq (.int ?_)
          show least = ((least.toNat - 1 + 1 : Nat) : Int)
          omega
      · exact ⟨.dead _, .refl _, .row rfl, trivial⟩
      intro ⟨m, here, acc, q⟩ ⟨hacc, hql, hmq, hq1, hh⟩
      simp only at hacc hql hmq hq1 hh
      cbv
      refine SplitP.mk (fun hs => ?_) (fun hs => ?_)
      · have hm0 : 0 < m := by
          have h1 := of_decide_eq_true (show decide (((m + 1 : Nat) : Int) > 1) = true from hs)
          omega
        obtain ⟨m, rfl⟩ : ∃ m', m = m' + 1 := ⟨m - 1, by omega⟩
        cbv
        refine LetDP.mk (fun hn => ?_) (fun d hd => ?_)
        · exfalso
          replace hn : GF here = none := hn
          rw [hGF, hh] at hn
          cases hn
        replace hd : GF here = some d := hd
        rw [hGF, hh] at hd
        obtain rfl : D.mg .i64 (boolF (ND here)) (.nat (CN here)) = d := Option.some.inj hd
        cbv
        refine (CallP.inl hT hm (hP ▸ Tryz.func26) rfl (by kernel_rfl) (rs := [.tmp 2]) rfl (by kernel_rfl) ?_)
        unfold Tryz.f26
        dsimp only
        cbv
        refine hsort (KS here) rfl (fun x => hks3 rfl here x) (hks1 here) (by show ((CN here : Nat) : Int) ≤ 1000; exact Int.ofNat_le.2 (hcn here)) (hks2 here) ?_
        cbv
        have hks5 := hks4 here
        obtain ⟨ks, hks⟩ : ∃ ks, ks = KS here := ⟨_, rfl⟩
        have hWs1 := fun y => hWs DA m here y
        have hWn1 := hWn DA m here
        rw [← hks] at hks5 hWs1 hWn1 ⊢
        obtain ⟨kl, hkl⟩ : ∃ n : Nat, n = ks.length := ⟨_, rfl⟩
        refine CodeP.loopc hT hm (X := Nat) (fun i => [(76, .int .i64 (.nat i)), (2, .osl 1 2 q (.lit false) (.lit 0) (.nat q))]) (fun i => i ≤ ks.length ∧ ks.find? (fun y => decide ((DA y).getD 0 = ((m + 1 : Nat) : Int))) = (ks.drop i).find? (fun y => decide ((DA y).getD 0 = ((m + 1 : Nat) : Int)))) (fun i => kl - i) 0 ⟨Nat.zero_le _, rfl⟩ (Nat.zero_le _) ?_ rfl ?_
        · (cbv; (repeat' (first | exact SnD.refl _ | exact trivial | exact SnD.nat0 | refine And.intro ?_ ?_)))
        have hsub : binDen .sub .i64 (((m + 2 : Nat)) : Int) 1 = ((m + 1 : Nat) : Int) := by rw [sub64 (by omega) (by omega)]; omega
        intro i ⟨hi, hfi⟩
        cbv
        refine SplitP.mk (fun hs => ?_) (fun hs => ?_)
        · have hkn : i < ks.length := by
            have h5 : decide ((i : Int) < (ks.length : Int)) = true := hs
            have := of_decide_eq_true h5
            omega
          refine ElemP.mk (by show (0 : Int) ≤ (i : Int) ∧ (i : Int) < (ks.length : Int); omega) (fun y hy => ?_)
          replace hy : ks[i]? = some y := hy
          rw [drop_cons hy, List.find?_cons] at hfi
          cbv
          refine LetOP.mk (fun hn => ?_) (fun d hd => ?_)
          · replace hn : DA y = none := hn
            have hne : decide ((DA y).getD 0 = ((m + 1 : Nat) : Int)) = false := by rw [hn]; exact decide_eq_false (by simp; omega)
            rw [hne] at hfi
            simp only at hfi
            cbv
            refine SplitP.mk (fun hs => ?_) (fun hs => ?_)
            · exfalso
              have h5 : ((0 : Int) == binDen .sub .i64 (((m + 2 : Nat)) : Int) 1) = true := hs
              rw [hsub] at h5
              exact absurd (eq_of_beq h5).symm (Int.natCast_ne_zero.2 (Nat.succ_ne_zero m))
            refine BackP.intro (i + 1) ⟨by omega, hfi⟩ (by show kl - (i + 1) < kl - i; omega) ⟨?_, HEnt.refl _, rfl⟩
            (cbv; (repeat' (first | exact SnD.refl _ | exact trivial | exact SnD.nat0 | refine And.intro ?_ ?_)))
            exact .inc (by omega)
          · replace hd : DA y = some d := hd
            rw [hd] at hfi
            cbv
            refine SplitP.mk (fun hs => ?_) (fun hs => ?_)
            · have h5 : (d == binDen .sub .i64 (((m + 2 : Nat)) : Int) 1) = true := hs
              rw [hsub] at h5
              have h6 := eq_of_beq h5
              rw [decide_eq_true (p := (some d).getD 0 = ((m + 1 : Nat) : Int)) h6] at hfi
              simp only at hfi
              rw [hWs1 y hfi] at hacc
              refine ReqP.mk (app_ok hql (by omega) (fun _ => rfl) rfl (by decide)) (fun _ => ?_)
              refine BackP.intro (m, y, acc ++ [y], q + 1) ⟨by show acc ++ [y] ++ WP DA m y = l; rw [List.append_assoc]; exact hacc, by show (acc ++ [y]).length = q + 1; rw [List.length_append, hql]; rfl, by show m + (q + 1) ≤ 100; omega, by show 1 ≤ q + 1; omega, hhx y (by unfold fiB; rw [hd]; rfl)⟩ (by show m < m + 1; omega) ⟨?_, ?_, rfl⟩
              · refine ⟨osl_step1 q, ?_⟩
                (cbv; (repeat' (first | exact SnD.refl _ | exact trivial | exact SnD.nat0 | refine And.intro ?_ ?_)))
                exact .eq (.int hsub)
              · exact ⟨.refl _, .refl _, row_app y rfl (.cons (.refl _) .nil), trivial⟩
            · have h5 : (d == binDen .sub .i64 (((m + 2 : Nat)) : Int) 1) = false := hs
              rw [hsub] at h5
              have h6 := beq_eq_false_iff_ne.1 h5
              rw [decide_eq_false (p := (some d).getD 0 = ((m + 1 : Nat) : Int)) h6] at hfi
              simp only at hfi
              refine BackP.intro (i + 1) ⟨by omega, hfi⟩ (by show kl - (i + 1) < kl - i; omega) ⟨?_, HEnt.refl _, rfl⟩
              (cbv; (repeat' (first | exact SnD.refl _ | exact trivial | exact SnD.nat0 | refine And.intro ?_ ?_)))
              exact .inc (by omega)
        · have hkn : ks.length ≤ i := by
            have h5 : decide ((i : Int) < (ks.length : Int)) = false := hs
            have := of_decide_eq_false h5
            omega
          rw [List.drop_of_length_le hkn] at hfi
          rw [hWn1 hfi, List.append_nil] at hacc
          refine CodeP.seq (vc_sound hT hm _ ?_)
          cbv
          refine vc_sound hT hm _ ?_
          cbv
          refine .mk (.cons (.slm rfl (.inl ⟨_, _, rfl, ?_⟩) rfl ?_ (fun e he => ?_)) (.cons (.eq (.bool rfl)) (.cons (.eq (.int ?_)) .nil))) rfl
          · show acc.map intC = l.map intC
            rw [hacc]
          · show (q : Int) = (l.length : Int)
            rw [← hacc, hql]
          · cases he
            show lb = false
            rw [hlb, ← hacc]
            cases acc with
            | nil => simp at hql; omega
            | cons _ _ => rfl
          · rw [IE.lit_d, IE.var_d, he]; rfl
      · have hm0 : m = 0 := by
          have h1 := of_decide_eq_false (show decide (((m + 1 : Nat) : Int) > 1) = false from hs)
          omega
        subst hm0
        rw [hW0, List.append_nil] at hacc
        refine CodeP.seq (vc_sound hT hm _ ?_)
        cbv
        refine vc_sound hT hm _ ?_
        cbv
        refine .mk (.cons (.slm rfl (.inl ⟨_, _, rfl, ?_⟩) rfl ?_ (fun e he => ?_)) (.cons (.eq (.bool rfl)) (.cons (.eq (.int ?_)) .nil))) rfl
        · show acc.map intC = l.map intC
          rw [hacc]
        · show (q : Int) = (l.length : Int)
          rw [← hacc, hql]
        · cases he
          show lb = false
          rw [hlb, ← hacc]
          cases acc with
          | nil => simp at hql; omega
          | cons _ _ => rfl
        · rw [IE.lit_d, IE.var_d, he]; rfl
end Go.Proofs.YtdhfakajlnidiaaGreat
namespace Go.Proofs.YtdhfakajlnidiaaGreat
open Go.RowKit Go.Shelf

/-! slices.Collect of the iterator, and Order. -/
theorem intV_list (l : List Int) : intV (atL l) l.length = l.map (Value.int .i64) := by
  refine List.ext_getElem? fun i => ?_
  rw [List.getElem?_map, List.getElem?_map]
  by_cases h : i < l.length
  · rw [List.getElem?_range h, get_atL h]
    rfl
  · rw [List.getElem?_eq_none (by simp; omega), List.getElem?_eq_none (by omega)]
    rfl
theorem collect_pureF (g : GraphD) (hm : g.many ≤ 10000) (hnd : ∀ h y, g.nd h y = true → g.hd h = true ∧ 0 ≤ y ∧ y < (g.many : Int)) (hcn : ∀ y, g.hd y = true → g.cn y = cnt g.many (g.nd y)) :
    PureF Tryz.prog 16 [.fn (.func 30) [] [.dp g.c 0]] (.slm 1 (some (.var (ordR g.many g.nd).isEmpty)) intC (ordR g.many g.nd)) := by
  refine ⟨⟨_, _, Tryz.func16, rfl, by kernel_rfl⟩, fun w G vs hL hG hv => ?_⟩
  obtain ⟨v, rfl, hv2⟩ := one_inv hv
  obtain ⟨v1, rfl, hd1⟩ := fn1_inv hv2
  have hlen := (seqR_inv (m := g.many) (nd := g.nd) g.many).len
  have hlen' : (ordR g.many g.nd).length ≤ g.many := hlen
  refine ((callsIn_wide (n := 4)).1 (collect_seqE 30 _ (enters_of Tryz.func30 (by kernel_rfl) rfl) _ (by omega) (atL (ordR g.many g.nd)) w (it50 g hm hnd hcn w G hG v1 hd1))).mono ?_
  rintro e w' ⟨v, rfl, hb, hr, hn⟩
  refine ⟨v, fun b => some b = v.ownBlock, rfl, hb, fun b hb => ownBlock_lt hr b hb, own_rep (G := fun b => some b = v.ownBlock) (by rw [← intV_list]; exact hr) (fun z hz => ?_) (fun b hb => hb) (by rw [hn, List.length_eq_zero_iff]) (by unfold maxLen; omega) rfl⟩
  obtain ⟨i, hi, rfl⟩ := (seqR_inv (m := g.many) (nd := g.nd) g.many).rng z hz
  exact inr_nat14 (by omega)
def ordS (S : SourceD) : List Int := ordR S.schemas.length (needsB S.rules)
def ordOK (S : SourceD) : Bool := numberedB S.schemas.length S.rules && decide ((ordS S).length = S.schemas.length)
def ordL (S : SourceD) : List Int := if ordOK S then ordS S else []
def numE (S : SourceD) : Int := if numberedB S.schemas.length S.rules then 0 else 140
theorem needs_heads {R : List RuleD} {a b : Int} (h : needsB R a b = true) : heads R a = true := by
  unfold needsB at h
  rw [List.any_eq_true] at h
  obtain ⟨r, hr, hb⟩ := h
  unfold needB at hb
  rw [Bool.and_eq_true, decide_eq_true_eq] at hb
  unfold heads
  rw [List.any_eq_true]
  exact ⟨r, hr, by simp [hb.1]⟩
set_option maxHeartbeats 4000000 in
set_option maxRecDepth 100000 in
set_option maxHeartbeats 4000000 in
theorem Order_pure (S : SourceD) (h : SmallS S) : Pure Tryz.prog 7 [.agg S.c] (.tup [.slm 1 (some (.var (ordL S).isEmpty)) intC (ordL S), boolD (ordOK S), i64 (numE S)]) := by
  have hn7 := h.n
  have hread := (read_pure S (by omega) (by have := h.r; omega) (fun r hr => by have := h.f r hr; omega)).pure
  have hcol : numberedB S.schemas.length S.rules = true → PureF Tryz.prog 16 [.fn (.func 30) [] [.dp (graphOf S).c 0]] (.slm 1 (some (.var (ordS S).isEmpty)) intC (ordS S)) := fun hb =>
    collect_pureF (graphOf S) (by show S.schemas.length ≤ 10000; omega) (fun a b hn => ⟨needs_heads hn, (numbered_in hb hn).2⟩) (fun y _ => rfl)
  have hG : (graphOf S).c = [.int .i64 (.nat S.schemas.length), .mg .i64 (graphF (graphOf S)) (.nat (graphOf S).m)] := rfl
  have hr1 : numberedB S.schemas.length S.rules = true → Pure Tryz.prog 15 [.agg S.c] (.tup [.agg [.int .i64 (.nat S.schemas.length), .mg .i64 (graphF (graphOf S)) (.nat (graphOf S).m)], .int .i64 (.lit 0)]) := fun hb => by
    unfold readD at hread
    rw [hb, hG] at hread
    exact hread
  have hr0 : numberedB S.schemas.length S.rules = false → Pure Tryz.prog 15 [.agg S.c] (.tup [.agg [.int .i64 (.lit 0), .nilm], .int .i64 (.lit 140)]) := fun hb => by
    unfold readD at hread
    rw [hb] at hread
    exact hread
  rw [hG] at hcol
  clear hread hG
  have hlo : (ordS S).length ≤ S.schemas.length := (seqR_inv (m := S.schemas.length) (nd := needsB S.rules) S.schemas.length).len
  obtain ⟨l, hl⟩ : ∃ l, l = ordL S := ⟨_, rfl⟩
  obtain ⟨e, he⟩ : ∃ e, e = numE S := ⟨_, rfl⟩
  obtain ⟨ok, hok⟩ : ∃ e, e = ordOK S := ⟨_, rfl⟩
  rw [← hl, ← he, ← hok]
  unfold ordL at hl
  rw [← hok] at hl
  unfold ordOK at hok
  unfold numE at he
  obtain ⟨os, hos⟩ : ∃ l, l = ordS S := ⟨_, rfl⟩
  rw [← hos] at hl hok hcol hlo
  obtain ⟨GF, hGF⟩ : ∃ U, U = graphF (graphOf S) := ⟨_, rfl⟩
  obtain ⟨gm, hgm⟩ : ∃ U, U = (graphOf S).m := ⟨_, rfl⟩
  rw [← hGF, ← hgm] at hr1 hcol
  obtain ⟨rb, hrb⟩ : ∃ b, b = numberedB S.schemas.length S.rules := ⟨_, rfl⟩
  rw [← hrb] at hr0 hr1 hcol hok he
  obtain ⟨n, hn⟩ : ∃ n, n = S.schemas.length := ⟨_, rfl⟩
  rw [← hn] at hr1 hcol hok hlo
  clear hGF hgm hrb h hn hos
  obtain ⟨lb, hlb⟩ : ∃ lb, lb = l.isEmpty := ⟨_, rfl⟩
  rw [← hlb]
  obtain ⟨ob, hob⟩ : ∃ lb, lb = os.isEmpty := ⟨_, rfl⟩
  rw [← hob] at hcol
  obtain ⟨ni, is, nu, us, ns, ss, nr, rs, nc, cs, np, ps⟩ := S
  refine Pure.intro (want := [.slm 1 (some (.var lb)) intC l, boolD ok, i64 e]) T_ok follows Tryz.func7 rfl (by kernel_rfl) (rs := [.tmp 2, .tmp 3, .tmp 4]) rfl (by kernel_rfl) ?_
  generalize hP : Tryz.prog = P at *
  have hT : T.ok P := hP ▸ T_ok
  have hm : P.follows .mixedOrders = true := hP ▸ follows
  unfold Tryz.f7
  dsimp only
  cbv
  cases rb with
  | false =>
    have hok2 : ok = false := hok
    subst hok2
    refine CallP.pure _ (hr0 rfl) rfl ?_
    cbv
    refine .mk (.cons (.eq (.nilv hl ?_)) (.cons (.eq (.bool ?_)) (.cons (.eq (.int ?_)) .nil))) rfl
    · rw [BE.var_d, hlb, hl]; rfl
    · rfl
    · rw [IE.lit_d, IE.var_d, he]; rfl
  | true =>
    have hok2 : ok = decide (os.length = n) := hok
    refine CallP.pure _ (hr1 rfl) rfl ?_
    cbv
    refine (CallP.inl hT hm (hP ▸ Tryz.func17) rfl (by kernel_rfl) (rs := [.tmp 2]) rfl (by kernel_rfl) ?_)
    unfold Tryz.f17
    dsimp only
    cbv
    refine CallP.lendF _ _ (hcol rfl) (.cons (.fns .nil (.cons (.dp rfl rfl rfl) .nil)) .nil) rfl ?_
    cbv
    refine SplitP.mk (fun hs => ?_) (fun hs => ?_)
    · have hs2 : (os.length : Int) < (n : Int) := of_decide_eq_true hs
      have hok3 : ok = false := by rw [hok2]; exact decide_eq_false (by omega)
      subst hok3
      refine .mk (.cons (.eq (.nilv hl ?_)) (.cons (.eq (.bool ?_)) (.cons (.eq (.int ?_)) .nil))) rfl
      · rw [BE.var_d, hlb, hl]; rfl
      · rfl
      · rw [IE.lit_d, IE.var_d, he]; rfl
    · have hs2 : ¬ (os.length : Int) < (n : Int) := of_decide_eq_false hs
      have hok3 : ok = true := by rw [hok2]; exact decide_eq_true (by omega)
      subst hok3
      obtain rfl : l = os := hl
      refine .mk (.cons (.eq (.slmb ?_ rfl)) (.cons (.eq (.bool ?_)) (.cons (.eq (.int ?_)) .nil))) rfl
      · rw [BE.var_d, BE.var_d, hlb, hob]
      · rfl
      · rw [IE.lit_d, IE.var_d, he]; rfl
end Go.Proofs.YtdhfakajlnidiaaGreat
namespace Go.Proofs.YtdhfakajlnidiaaGreat
open Go.RowKit

/-! Sources made of lists. -/
theorem snd_agg {H H' : List Bk} {l l' : List D} (h : SnDs H H' l l') : SnD H H' (.agg l) (.agg l') := .agg h.get.1 h.get.2
theorem rep_rowC {H H' : List Bk} {ty m ver : Nat} {α : Type} {c : α → List D} {a : α} {k : Nat} {l : List α} {n : IE} {e : List D} (hl : l = List.replicate k a) (hn : n.den = (k : Int)) (he : DsEq e (c a)) : BkEq H H' (.row ty m ver (.rep n e)) (.row ty m ver (.map c l)) := by
  subst hl
  have h1 : (RE.rep n e).den = List.replicate k e := by simp only [RE.den, hn, Int.toNat_natCast]
  have h2 : (RE.map c (List.replicate k a)).den = List.replicate k (c a) := List.map_replicate
  refine .rowe (by rw [h1, h2, List.length_replicate, List.length_replicate]) fun i e1 e2 h3 h4 => ?_
  rw [h1, List.getElem?_replicate] at h3
  rw [h2, List.getElem?_replicate] at h4
  split at h3
  · next q =>
    rw [if_pos q] at h4
    simp only [Option.some.injEq] at h3 h4
    subst h3
    subst h4
    exact he.get
  · cases h3
structure RowI where
  l : List Int
abbrev RowI.c (x : RowI) : List D := [.slm 1 none intC x.l]
def schema0 : SchemaD := ⟨⟨#[]⟩, ⟨#[]⟩, 0, 0, true, [], true, []⟩
def from0 (z : Int) : FromD := ⟨⟨#[]⟩, ⟨#[]⟩, z, ⟨⟨#[]⟩, ⟨#[]⟩, 0, 0, 0⟩⟩
def rule0 (x : List Int) : RuleD := ⟨⟨#[]⟩, x.headD 0, x.tail.isEmpty, x.tail.map from0, true, [], true, []⟩
def srcOf (n : Nat) (L : List RowI) : SourceD := ⟨true, [], true, [], false, List.replicate n schema0, L.isEmpty, L.map fun x => rule0 x.l, true, [], true, []⟩
set_option maxHeartbeats 8000000 in
set_option maxRecDepth 100000 in
set_option maxHeartbeats 4000000 in
theorem source_pure (n : Nat) (L : List RowI) (hn : n ≤ 1000) (hL : L.length ≤ 1000) (hx : ∀ x, x ∈ L → x.l ≠ [] ∧ x.l.length ≤ 1000) : Pure Tryz.prog 12 [.int .i64 (.nat n), .slm 1 none RowI.c L] (.agg (srcOf n L).c) := by
  obtain ⟨RF, hRF⟩ : ∃ R : Nat → List RuleD, R = fun k => (L.take k).map fun x => rule0 x.l := ⟨_, rfl⟩
  have hRF0 : RF 0 = [] := by rw [hRF]; rfl
  have hRFs : ∀ k x, L[k]? = some x → RF (k + 1) = RF k ++ [rule0 x.l] := fun k x h => by rw [hRF]; simp [List.take_add_one, h]
  have hRFl : ∀ k, k ≤ L.length → (RF k).length = k := fun k h => by rw [hRF]; simp [h]
  have hRFe : RF L.length = L.map fun x => rule0 x.l := by rw [hRF]; simp
  clear hRF
  unfold srcOf
  rw [← hRFe]
  obtain ⟨SL, hSL⟩ : ∃ s, s = List.replicate n schema0 := ⟨_, rfl⟩
  obtain ⟨le, hle⟩ : ∃ b, b = L.isEmpty := ⟨_, rfl⟩
  rw [← hSL, ← hle]
  clear hRFe
  refine Pure.introC (want := [.agg (SourceD.c ⟨true, [], true, [], false, SL, le, RF L.length, true, [], true, []⟩)]) T_ok Tryz.func12 rfl (by kernel_rfl) (rs := [.cell 4 29]) rfl (by kernel_rfl) ?_
  generalize hP : Tryz.prog = P at *
  have hT : T.ok P := hP ▸ T_ok
  have hm : P.follows .mixedOrders = true := hP ▸ follows
  unfold Tryz.f12
  dsimp only
  refine CodeP.seq (vc_sound hT hm _ ?_)
  cbv
  refine CodeP.seq (vc_sound hT hm _ ?_)
  cbv
  refine ReqP.mk ⟨by show (0 : Int) ≤ (n : Int); omega, Int.le_refl _, by show (n : Int) ≤ _; omega, by show (96 : Int) * (n : Int) ≤ _; omega⟩ (fun _ => ?_)
  refine CodeP.keep [0, 1, 4, 5] ?_
  refine CodeP.seq (vc_sound hT hm _ ?_)
  cbv
  obtain ⟨Ll, hLl⟩ : ∃ m : Nat, m = L.length := ⟨_, rfl⟩
  refine CodeP.virtc 2 3 45 5 _ rfl rfl ?_
  refine CodeP.loopP (X := Nat) (fun k => [(4, .ptr 0 1 0), (5, .ptr 2 1 0), (14, .slm 1 none RowI.c L), (15, .int .i64 (.len L)), (16, .int .i64 (.nat k))])
    (fun k => [.cells [.nils, .nils, .nils, .nils, .nils, .nils], .row 49 6 1 (.map SchemaD.c SL), .cells [.nils, .nils, .osl 6 1 1 (.lit false) (.lit 0) (.nat n), .osl 5 3 (k + 1) (.cmp .eql (.nat k) (.lit 0)) (.lit 0) (.nat k), .nils, .nils], .row 45 5 (k + 1) (.map RuleD.c (RF k))])
    (fun k => k ≤ L.length) (fun k => Ll - k) 0 (Nat.zero_le _) (fun _ => by simp) ⟨?_, ⟨?_, ?_, ?_, ?_, trivial⟩, rfl⟩ ?_
  · (cbv; (repeat' (first | exact SnD.refl _ | exact trivial | exact SnD.nat0 | refine And.intro ?_ ?_)))
  · exact .refl _
  · exact rep_rowC hSL rfl (.cons (.refl _) (.cons (.refl _) (.cons (.int rfl) (.cons (.int rfl) (.cons (.nilv rfl rfl) (.cons (.nilv rfl rfl) .nil))))))
  · exact .cells (.cons (.refl _) (.cons (.refl _) (.cons (.refl _) (.cons osl_start (.cons (.refl _) (.cons (.refl _) .nil))))))
  · rw [hRF0]
    exact .row rfl
  intro k hk
  have hRFk := hRFl k hk
  refine vc_sound hT hm _ ?_
  cbv
  refine SplitP.mk (fun hs => ?_) (fun hs => ?_)
  · have hkn : k < L.length := by
      have h5 := of_decide_eq_true (show decide ((k : Int) < (L.length : Int)) = true from hs)
      omega
    refine ElemP.mk (by show (0 : Int) ≤ (k : Int) ∧ (k : Int) < (L.length : Int); omega) (fun x hxk => ?_)
    replace hxk : L[k]? = some x := hxk
    obtain ⟨hne, hxl⟩ := hx x (List.mem_of_getElem? hxk)
    have hRk := hRFs k x hxk
    obtain ⟨xs⟩ := x
    simp only at hne hxl hRk
    obtain ⟨y, ys, rfl⟩ : ∃ y ys, xs = y :: ys := by
      cases xs with
      | nil => exact absurd rfl hne
      | cons y ys => exact ⟨y, ys, rfl⟩
    cbv
    refine ElemP.mk (by show (0 : Int) ≤ 0 ∧ (0 : Int) < (((y :: ys).length : Nat) : Int); simp) (fun y' hy' => ?_)
    obtain rfl : y = y' := by
      have h5 : (y :: ys)[0]? = some y' := hy'
      exact Option.some.inj h5
    cbv
    refine ReqP.mk ⟨by show (0 : Int) ≤ 1; omega, by show (1 : Int) ≤ (((y :: ys).length : Nat) : Int); simp only [List.length_cons]; omega, Int.le_refl _, Int.le_refl _, fun h => by cases h⟩ (fun _ => ?_)
    refine LetP.mk fun l1 hl1 => ?_
    obtain rfl : ys = l1 := by
      have h5 : l1 = List.drop 1 (List.take (y :: ys).length (y :: ys)) := hl1
      rw [List.take_length] at h5
      exact h5.symm
    clear hl1 hy'
    obtain ⟨FF, hFF⟩ : ∃ R : Nat → List FromD, R = fun k => (ys.take k).map from0 := ⟨_, rfl⟩
    have hFF0 : FF 0 = [] := by rw [hFF]; rfl
    have hFFs : ∀ k x, ys[k]? = some x → FF (k + 1) = FF k ++ [from0 x] := fun k x h => by rw [hFF]; simp [List.take_add_one, h]
    have hFFl : ∀ k, k ≤ ys.length → (FF k).length = k := fun k h => by rw [hFF]; simp [h]
    have hFFe : FF ys.length = ys.map from0 := by rw [hFF]; simp
    clear hFF
    simp only [List.length_cons] at hxl
    cbv
    refine CodeP.virtc 4 2 78 8 _ rfl rfl ?_
    obtain ⟨yl, hyl⟩ : ∃ m : Nat, m = ys.length := ⟨_, rfl⟩
    refine CodeP.loopP (X := Nat) (fun j => [(4, .ptr 0 1 0), (5, .ptr 2 1 0), (8, .ptr 4 1 0), (14, .slm 1 none RowI.c L), (15, .int .i64 (.len L)), (16, .int .i64 (.nat k)), (25, .slm 1 none intC ys), (26, .int .i64 (.len ys)), (27, .int .i64 (.nat j))])
      (fun j => [.cells [.nils, .nils, .nils, .nils, .nils, .nils], .row 49 6 1 (.map SchemaD.c SL), .cells [.nils, .nils, .osl 6 1 1 (.lit false) (.lit 0) (.nat n), .osl 5 3 (k + 1) (.cmp .eql (.nat k) (.lit 0)) (.lit 0) (.nat k), .nils, .nils], .row 45 5 (k + 1) (.map RuleD.c (RF k)),
        .cells [.str ⟨#[]⟩, i64 y, .osl 8 5 (j + 1) (.cmp .eql (.nat j) (.lit 0)) (.lit 0) (.nat j), .nils, .nils], .row 78 8 (j + 1) (.map FromD.c (FF j))])
      (fun j => j ≤ ys.length) (fun j => yl - j) 0 (Nat.zero_le _) (fun _ => by simp) ⟨?_, ⟨.refl _, .refl _, .refl _, .refl _, ?_, ?_, trivial⟩, rfl⟩ ?_
    · (cbv; (repeat' (first | exact SnD.refl _ | exact trivial | exact SnD.nat0 | refine And.intro ?_ ?_)))
      all_goals exact .eq (.slm (.inl rfl) rfl)
    · exact .cells (.cons (.refl _) (.cons (.refl _) (.cons osl_start (.cons (.refl _) (.cons (.refl _) .nil)))))
    · rw [hFF0]
      exact .row rfl
    intro j hj
    have hFFj := hFFl j hj
    refine vc_sound hT hm _ ?_
    cbv
    refine SplitP.mk (fun hs => ?_) (fun hs => ?_)
    · have hjn : j < ys.length := by
        have h5 := of_decide_eq_true (show decide ((j : Int) < (ys.length : Int)) = true from hs)
        omega
      refine ElemP.mk (by show (0 : Int) ≤ (j : Int) ∧ (j : Int) < (ys.length : Int); omega) (fun u hu => ?_)
      replace hu : ys[j]? = some u := hu
      have hFj := hFFs j u hu
      cbv
      refine ReqP.mk (app_ok hFFj (by omega) (fun _ => rfl) rfl (by decide)) (fun _ => ?_)
      refine BackP.intro (j + 1) (by show j + 1 ≤ ys.length; omega) (by show yl - (j + 1) < yl - j; omega) ⟨?_, ⟨.refl _, .refl _, .refl _, .refl _, ?_, ?_, trivial⟩, rfl⟩
      · (cbv; (repeat' (first | exact SnD.refl _ | exact trivial | exact SnD.nat0 | refine And.intro ?_ ?_)))
        exact .inc (by omega)
      · exact .cells (.cons (.refl _) (.cons (.refl _) (.cons (osl_step j) (.cons (.refl _) (.cons (.refl _) .nil)))))
      · exact row_app (from0 u) hFj (.cons (.refl _) (.cons (.refl _) (.cons (.refl _) (.cons (.refl _) (.cons (.refl _) (.cons (.int rfl) (.cons (.int rfl) (.cons (.int rfl) .nil))))))))
    · have hjn : j = ys.length := by
        have h5 := of_decide_eq_false (show decide ((j : Int) < (ys.length : Int)) = false from hs)
        omega
      subst hjn
      refine OpsP.pre hT [(4, .ptr 0 1 0), (5, .ptr 2 1 0), (14, .slm 1 none RowI.c L), (15, .int .i64 (.len L)), (16, .int .i64 (.nat k)), (40, .osl 5 3 (k + 1) (.cmp .eql (.nat k) (.lit 0)) (.lit 0) (.nat k)), (41, .agg (RuleD.c (rule0 (y :: ys))))]
        [.cells [.nils, .nils, .nils, .nils, .nils, .nils], .row 49 6 1 (.map SchemaD.c SL), .cells [.nils, .nils, .osl 6 1 1 (.lit false) (.lit 0) (.nat n), .osl 5 3 (k + 1) (.cmp .eql (.nat k) (.lit 0)) (.lit 0) (.nat k), .nils, .nils], .row 45 5 (k + 1) (.map RuleD.c (RF k)), .dead, .dead]
        ⟨⟨.refl _, .refl _, .refl _, .refl _, .refl _, .refl _, ?_, trivial⟩, ⟨.refl _, .refl _, .refl _, .refl _, .dead _, .dead _, trivial⟩, rfl⟩ (Nat.zero_le _) ?_
      · have X : SnDs [.cells [.nils, .nils, .nils, .nils, .nils, .nils], .row 49 6 1 (.map SchemaD.c SL), .cells [.nils, .nils, .osl 6 1 1 (.lit false) (.lit 0) (.nat n), .osl 5 3 (k + 1) (.cmp .eql (.nat k) (.lit 0)) (.lit 0) (.nat k), .nils, .nils], .row 45 5 (k + 1) (.map RuleD.c (RF k)),
          .cells [.str ⟨#[]⟩, i64 y, .osl 8 5 (ys.length + 1) (.cmp .eql (.nat ys.length) (.lit 0)) (.lit 0) (.nat ys.length), .nils, .nils], .row 78 8 (ys.length + 1) (.map FromD.c (FF ys.length))]
          [.cells [.nils, .nils, .nils, .nils, .nils, .nils], .row 49 6 1 (.map SchemaD.c SL), .cells [.nils, .nils, .osl 6 1 1 (.lit false) (.lit 0) (.nat n), .osl 5 3 (k + 1) (.cmp .eql (.nat k) (.lit 0)) (.lit 0) (.nat k), .nils, .nils], .row 45 5 (k + 1) (.map RuleD.c (RF k)), .dead, .dead]
          [.str ⟨#[]⟩, i64 y, .osl 8 5 (ys.length + 1) (.cmp .eql (.nat ys.length) (.lit 0)) (.lit 0) (.nat ys.length), .nils, .nils] (RuleD.c (rule0 (y :: ys))) := by
          refine .cons (.refl _) (.cons (.eq (.int rfl)) (.cons (.slm rfl (.inl ⟨_, _, rfl, ?_⟩) rfl ?_ (fun e he => ?_)) (.cons (.eq (.nilv rfl rfl)) (.cons (.eq (.nilv rfl rfl)) .nil))))
          · show (FF ys.length).map FromD.c = (ys.map from0).map FromD.c
            rw [hFFe]
          · show (ys.length : Int) = ((ys.map from0).length : Int)
            rw [List.length_map]
          · cases he
            show ys.isEmpty = ((ys.length : Int) == 0)
            cases ys with
            | nil => rfl
            | cons a b => exact (beq_eq_false_iff_ne.2 (by simp only [List.length_cons]; omega)).symm
        exact .agg X.get.1 X.get.2
      cbv
      refine ReqP.mk (app_ok hRFk (by omega) (fun _ => rfl) rfl (by decide)) (fun _ => ?_)
      refine BackP.intro (k + 1) (by show k + 1 ≤ L.length; omega) (by show Ll - (k + 1) < Ll - k; omega) ⟨?_, ⟨.refl _, .refl _, ?_, ?_, trivial⟩, rfl⟩
      · (cbv; (repeat' (first | exact SnD.refl _ | exact trivial | exact SnD.nat0 | refine And.intro ?_ ?_)))
        exact .inc (by omega)
      · exact .cells (.cons (.refl _) (.cons (.refl _) (.cons (.refl _) (.cons (osl_step k) (.cons (.refl _) (.cons (.refl _) .nil))))))
      · exact row_app (rule0 (y :: ys)) hRk (.cons (.refl _) (.cons (.refl _) (.cons (.slmb (by cases ys <;> rfl) (by cases ys <;> rfl)) (.cons (.refl _) (.cons (.refl _) .nil)))))
  · have hkn : k = L.length := by
      have h5 := of_decide_eq_false (show decide ((k : Int) < (L.length : Int)) = false from hs)
      omega
    refine CodeP.seq (vc_sound hT hm _ ?_)
    cbv
    refine vc_sound hT hm _ ?_
    cbv
    refine .mk (.cons (snd_agg (.cons (.eq (.nilv rfl rfl)) (.cons (.eq (.nilv rfl rfl)) (.cons (.slm rfl (.inl ⟨_, _, rfl, rfl⟩) rfl ?_ (fun e he => ?_)) (.cons (.slm rfl (.inl ⟨_, _, rfl, ?_⟩) rfl ?_ (fun e he => ?_)) (.cons (.eq (.nilv rfl rfl)) (.cons (.eq (.nilv rfl rfl)) .nil))))))) .nil) rfl
    · show (n : Int) = (SL.length : Int)
      rw [hSL, List.length_replicate]
    · cases he; rfl
    · show (RF k).map RuleD.c = (RF L.length).map RuleD.c
      rw [hkn]
    · show (k : Int) = ((RF L.length).length : Int)
      rw [← hkn, hRFk]
    · cases he
      show le = ((k : Int) == 0)
      rw [hle, hkn]
      cases L with
      | nil => rfl
      | cons a b => exact (beq_eq_false_iff_ne.2 (by simp only [List.length_cons]; omega)).symm
end Go.Proofs.YtdhfakajlnidiaaGreat
namespace Go.Proofs.YtdhfakajlnidiaaGreat
open Go.RowKit

/-! The check of the types, at the empty source. -/
set_option maxHeartbeats 8000000 in
set_option maxRecDepth 100000 in
set_option maxHeartbeats 4000000 in
theorem check0_pure : Pure Tryz.prog 21 [.agg [.nils, .nils, .nils, .nils, .nils, .nils]] (.int .i64 (.lit 0)) := by
  refine Pure.intro (want := [.int .i64 (.lit 0)]) T_ok follows Tryz.func21 rfl (by kernel_rfl) (rs := [.tmp 2]) rfl (by kernel_rfl) ?_
  generalize hP : Tryz.prog = P
  have hT : T.ok P := hP ▸ T_ok
  have hm : P.follows .mixedOrders = true := hP ▸ follows
  unfold Tryz.f21
  dsimp only
  cbv
  refine (CallP.inl hT hm (hP ▸ Tryz.func35) rfl (by kernel_rfl) (rs := [.tmp 2]) rfl (by kernel_rfl) ?_)
  unfold Tryz.f35
  dsimp only
  cbv
  refine (CallP.inl hT hm (hP ▸ Tryz.func54) rfl (by kernel_rfl) (rs := [.tmp 4]) rfl (by kernel_rfl) ?_)
  unfold Tryz.f54
  dsimp only
  cbv
  refine (CallP.inl hT hm (hP ▸ Tryz.func75) rfl (by kernel_rfl) (rs := [.tmp 4]) rfl (by kernel_rfl) ?_)
  unfold Tryz.f75
  dsimp only
  cbv
  refine CodeP.rounds hT hm 1 ?_
  cbv
  refine (CallP.inl hT hm (hP ▸ Tryz.func38) rfl (by kernel_rfl) (rs := [.tmp 4]) rfl (by kernel_rfl) ?_)
  unfold Tryz.f38
  dsimp only
  cbv
  refine (CallP.inl hT hm (hP ▸ Tryz.func61) rfl (by kernel_rfl) (rs := [.tmp 4]) rfl (by kernel_rfl) ?_)
  unfold Tryz.f61
  dsimp only
  cbv
  refine (CallP.inl hT hm (hP ▸ Tryz.func80) rfl (by kernel_rfl) (rs := [.tmp 4]) rfl (by kernel_rfl) ?_)
  unfold Tryz.f80
  dsimp only
  cbv
  refine CodeP.rounds hT hm 1 ?_
  cbv
  refine (CallP.inl hT hm (hP ▸ Tryz.func40) rfl (by kernel_rfl) (rs := [.tmp 4]) rfl (by kernel_rfl) ?_)
  unfold Tryz.f40
  dsimp only
  cbv
  refine (CallP.inl hT hm (hP ▸ Tryz.func63) rfl (by kernel_rfl) (rs := [.tmp 4]) rfl (by kernel_rfl) ?_)
  unfold Tryz.f63
  dsimp only
  cbv
  refine (CallP.inl hT hm (hP ▸ Tryz.func81) rfl (by kernel_rfl) (rs := [.tmp 4]) rfl (by kernel_rfl) ?_)
  unfold Tryz.f81
  dsimp only
  cbv
  refine CodeP.rounds hT hm 1 ?_
  cbv
  refine (CallP.inl hT hm (hP ▸ Tryz.func42) rfl (by kernel_rfl) (rs := [.tmp 4]) rfl (by kernel_rfl) ?_)
  unfold Tryz.f42
  dsimp only
  cbv
  refine (CallP.inl hT hm (hP ▸ Tryz.func66) rfl (by kernel_rfl) (rs := [.tmp 4]) rfl (by kernel_rfl) ?_)
  unfold Tryz.f66
  dsimp only
  cbv
  refine (CallP.inl hT hm (hP ▸ Tryz.func83) rfl (by kernel_rfl) (rs := [.tmp 4]) rfl (by kernel_rfl) ?_)
  unfold Tryz.f83
  dsimp only
  cbv
  refine CodeP.rounds hT hm 1 ?_
  cbv
  refine (CallP.inl hT hm (hP ▸ Tryz.func43) rfl (by kernel_rfl) (rs := [.tmp 4]) rfl (by kernel_rfl) ?_)
  unfold Tryz.f43
  dsimp only
  cbv
  refine (CallP.inl hT hm (hP ▸ Tryz.func54) rfl (by kernel_rfl) (rs := [.tmp 4]) rfl (by kernel_rfl) ?_)
  unfold Tryz.f54
  dsimp only
  cbv
  refine (CallP.inl hT hm (hP ▸ Tryz.func75) rfl (by kernel_rfl) (rs := [.tmp 4]) rfl (by kernel_rfl) ?_)
  unfold Tryz.f75
  dsimp only
  cbv
  refine CodeP.rounds hT hm 1 ?_
  cbv
  exact .mk (.cons (.refl _) .nil) rfl
end Go.Proofs.YtdhfakajlnidiaaGreat
namespace Go.Proofs.YtdhfakajlnidiaaGreat
open Go.RowKit

/-! The chapter's examples. -/
abbrev litL (l : List Int) : D := .sll 1 (l.map fun z => [.int .i64 (.lit z)])
abbrev varL (l : List Int) : D := .sll 1 (l.map fun z => [.int .i64 (.var z)])
theorem lit_var (l : List Int) : DEq (litL l) (varL l) := by
  refine .slls (by simp) (fun i a b h1 h2 => ?_) fun i a b h1 h2 j d d' h3 h4 => ?_
  all_goals
    rw [List.getElem?_map, Option.map_eq_some_iff] at h1 h2
    obtain ⟨x, q1, rfl⟩ := h1
    obtain ⟨y, q2, rfl⟩ := h2
    rw [q1] at q2
    cases q2
  · rfl
  · match j with
    | 0 => cases h3; cases h4; exact .int rfl
    | j + 1 => simp at h3
theorem map1 {f g : List Int → D} (h : ∀ l, DEq (f l) (g l)) (L : List (List Int)) : DEq (.sll 1 (L.map fun l => [f l])) (.sll 1 (L.map fun l => [g l])) := by
  refine .slls (by simp) (fun i a b h1 h2 => ?_) fun i a b h1 h2 j d d' h3 h4 => ?_
  all_goals
    rw [List.getElem?_map, Option.map_eq_some_iff] at h1 h2
    obtain ⟨x, q1, rfl⟩ := h1
    obtain ⟨y, q2, rfl⟩ := h2
    rw [q1] at q2
    cases q2
  · rfl
  · match j with
    | 0 => cases h3; cases h4; exact h x
    | j + 1 => simp at h3
theorem src_lit (n : Nat) (L : List (List Int)) (hn : n ≤ 1000) (hL : L.length ≤ 1000) (hx : ∀ x, x ∈ L → x ≠ [] ∧ x.length ≤ 1000) : Pure Tryz.prog 12 [.int .i64 (.lit n), .sll 1 (L.map fun l => [litL l])] (.agg (srcOf n (L.map RowI.mk)).c) := by
  have h := source_pure n (L.map RowI.mk) hn (by simpa using hL) (fun x hx' => by
    obtain ⟨l, hl, rfl⟩ := List.mem_map.1 hx'
    exact hx l hl)
  refine Pure.args (.cons (.int (e' := .nat n) rfl) (.cons (map1 lit_var L) .nil)) ?_
  refine Pure.args (.cons (.refl _) (.cons (map1 (g := fun l => .slm 1 none intC l) (fun l => .sll rfl (fun e h => by cases h)) L) .nil)) ?_
  exact Pure.args (.cons (.refl _) (.cons (.sll (by rw [List.map_map]; rfl) (fun e h => by cases h)) .nil)) h
theorem same_lit (l m : List Int) (h : l.length < 9223372036854775807) : Pure Tryz.prog 9 [.slm 1 none intC l, litL m] (boolD (decide (l = m))) := by
  refine Pure.args (.cons (.refl _) (.cons (lit_var m) .nil)) ?_
  exact Pure.args (.cons (.refl _) (.cons (.sll (c := intC) (nb := none) rfl (fun e h => by cases h)) .nil)) (Same_pure l m none none h)
def S0 : SourceD := ⟨true, [], true, [], true, [], true, [], true, [], true, []⟩
abbrev nilS : D := .agg [.nils, .nils, .nils, .nils, .nils, .nils]
theorem nils_s0 : DEq nilS (.agg S0.c) := .aggs rfl fun i d d' h1 h2 => by
  match i with
  | 0 => cases h1; cases h2; exact .nilv rfl rfl
  | 1 => cases h1; cases h2; exact .nilv rfl rfl
  | 2 => cases h1; cases h2; exact .nilv rfl rfl
  | 3 => cases h1; cases h2; exact .nilv rfl rfl
  | 4 => cases h1; cases h2; exact .nilv rfl rfl
  | 5 => cases h1; cases h2; exact .nilv rfl rfl
  | i + 6 => simp at h1
theorem dtup3 {a b c a' b' c' : D} (h1 : DEq a a') (h2 : DEq b b') (h3 : DEq c c') : DEq (.tup [a, b, c]) (.tup [a', b', c']) := .tups rfl fun i d d' q1 q2 => by
  match i with
  | 0 => cases q1; cases q2; exact h1
  | 1 => cases q1; cases q2; exact h2
  | 2 => cases q1; cases q2; exact h3
  | i + 3 => simp at q1
theorem dtup2 {a b a' b' : D} (h1 : DEq a a') (h2 : DEq b b') : DEq (.tup [a, b]) (.tup [a', b']) := .tups rfl fun i d d' q1 q2 => by
  match i with
  | 0 => cases q1; cases q2; exact h1
  | 1 => cases q1; cases q2; exact h2
  | i + 2 => simp at q1
theorem order_at (S : SourceD) (h : SmallS S) (l : List Int) (ok : Bool) (e : Int) (hl : ordL S = l) (ho : ordOK S = ok) (he : numE S = e) : Pure Tryz.prog 7 [.agg S.c] (.tup [.slm 1 none intC l, .bool (.lit ok), .int .i64 (.lit e)]) := by
  refine (Order_pure S h).res (dtup3 (.slm (.inl rfl) hl) (.bool ho) (.int he))
theorem cycle_at (S : SourceD) (h : SmallS S) (l : List Int) (ok : Bool) (e : Int) (hl : cycL S = l) (ho : hasCyc S = ok) (he : numE S = e) : Pure Tryz.prog 13 [.agg S.c] (.tup [.slm 1 none intC l, .bool (.lit ok), .int .i64 (.lit e)]) := by
  refine (Cycle_pure S h).res (dtup3 (.slm (.inl rfl) hl) (.bool ho) (.int he))
theorem above_at (S : SourceD) (h : SmallS S) (x : Int) (l : List Int) (e : Int) (hl : aboveL S x = l) (he : aboveE S x = e) : Pure Tryz.prog 14 [.agg S.c, .int .i64 (.lit x)] (.tup [.slm 1 none intC l, .int .i64 (.lit e)]) := by
  have h1 : Pure Tryz.prog 14 [.agg S.c, .int .i64 (.lit x)] _ := Pure.args (args' := [.agg S.c, i64 x]) (.cons (.refl _) (.cons (.int rfl) .nil)) (Above_pure S h x)
  exact h1.res (dtup2 (.slm (.inl rfl) hl) (.int he))
theorem small_src (n : Nat) (L : List (List Int)) (hn : n ≤ 7) (hL : L.length ≤ 10) (hx : ∀ x, x ∈ L → x.length ≤ 7) : SmallS (srcOf n (L.map RowI.mk)) := by
  refine ⟨by simp [srcOf, hn], by simp [srcOf, hL], fun r hr => ?_⟩
  simp only [srcOf, List.mem_map] at hr
  obtain ⟨x, ⟨l, hl, rfl⟩, rfl⟩ := hr
  have := hx l hl
  simp only [rule0, List.length_map, List.length_tail]
  omega
theorem small_s0 : SmallS S0 := ⟨by decide, by decide, fun r hr => by cases hr⟩
theorem s1o : ordL (srcOf 4 ([[0, 2, 3], [2, 1]].map RowI.mk)) = [1, 2, 3, 0] ∧ ordOK (srcOf 4 ([[0, 2, 3], [2, 1]].map RowI.mk)) = true ∧ numE (srcOf 4 ([[0, 2, 3], [2, 1]].map RowI.mk)) = 0 := by
  refine ⟨by kernel_rfl, by kernel_rfl, by kernel_rfl⟩
theorem s2o : ordL (srcOf 3 ([[1, 2], [2, 1]].map RowI.mk)) = [] ∧ ordOK (srcOf 3 ([[1, 2], [2, 1]].map RowI.mk)) = false ∧ numE (srcOf 3 ([[1, 2], [2, 1]].map RowI.mk)) = 0 := by
  refine ⟨by kernel_rfl, by kernel_rfl, by kernel_rfl⟩
theorem s3c : cycL (srcOf 3 ([[2, 1], [1, 2]].map RowI.mk)) = [1, 2] ∧ hasCyc (srcOf 3 ([[2, 1], [1, 2]].map RowI.mk)) = true ∧ numE (srcOf 3 ([[2, 1], [1, 2]].map RowI.mk)) = 0 := by
  refine ⟨by kernel_rfl, by kernel_rfl, by kernel_rfl⟩
theorem s4c : cycL (srcOf 3 ([[2, 1]].map RowI.mk)) = [] ∧ hasCyc (srcOf 3 ([[2, 1]].map RowI.mk)) = false ∧ numE (srcOf 3 ([[2, 1]].map RowI.mk)) = 0 := by
  refine ⟨by kernel_rfl, by kernel_rfl, by kernel_rfl⟩
theorem s5a : aboveL (srcOf 4 ([[0, 2, 3], [2, 1]].map RowI.mk)) 1 = [0, 2] ∧ aboveE (srcOf 4 ([[0, 2, 3], [2, 1]].map RowI.mk)) 1 = 0 := by
  refine ⟨by kernel_rfl, by kernel_rfl⟩
theorem s6a : aboveL S0 0 = [] ∧ aboveE S0 0 = 1 := by
  refine ⟨by kernel_rfl, by kernel_rfl⟩
theorem s7o : ordL (srcOf 1 ([[1, 0]].map RowI.mk)) = [] ∧ ordOK (srcOf 1 ([[1, 0]].map RowI.mk)) = false ∧ numE (srcOf 1 ([[1, 0]].map RowI.mk)) = 140 := by
  refine ⟨by kernel_rfl, by kernel_rfl, by kernel_rfl⟩
theorem s8o : ordL S0 = [] ∧ ordOK S0 = true ∧ numE S0 = 0 := by
  refine ⟨by kernel_rfl, by kernel_rfl, by kernel_rfl⟩
set_option maxHeartbeats 8000000 in
set_option maxRecDepth 100000 in
set_option maxHeartbeats 4000000 in
theorem check20_pure : Pure Tryz.prog 10 [nilS] (.int .i64 (.lit 0)) := by
  have h1 := check0_pure
  have h2 := (order_at S0 small_s0 _ _ _ s8o.1 s8o.2.1 s8o.2.2).args (.cons nils_s0 .nil)
  refine Pure.intro (want := [.int .i64 (.lit 0)]) T_ok follows Tryz.func10 rfl (by kernel_rfl) (rs := [.tmp 2]) rfl (by kernel_rfl) ?_
  generalize hP : Tryz.prog = P at *
  have hT : T.ok P := hP ▸ T_ok
  have hm : P.follows .mixedOrders = true := hP ▸ follows
  unfold Tryz.f10
  dsimp only
  cbv
  refine CallP.pure _ h1 rfl ?_
  cbv
  refine CallP.pure _ h2 rfl ?_
  cbv
  exact .mk (.cons (.refl _) .nil) rfl
set_option maxHeartbeats 8000000 in
set_option maxRecDepth 100000 in
set_option maxHeartbeats 4000000 in
theorem sane_pure : Pure Tryz.prog 4 [] (boolD true) := by
  have a1 := src_lit 4 [[0, 2, 3], [2, 1]] (by decide) (by decide) (by decide)
  have a2 := src_lit 3 [[1, 2], [2, 1]] (by decide) (by decide) (by decide)
  have a3 := src_lit 3 [[2, 1], [1, 2]] (by decide) (by decide) (by decide)
  have a4 := src_lit 3 [[2, 1]] (by decide) (by decide) (by decide)
  have a7 := src_lit 1 [[1, 0]] (by decide) (by decide) (by decide)
  have b1 := order_at _ (small_src 4 [[0, 2, 3], [2, 1]] (by decide) (by decide) (by decide)) _ _ _ s1o.1 s1o.2.1 s1o.2.2
  have b2 := order_at _ (small_src 3 [[1, 2], [2, 1]] (by decide) (by decide) (by decide)) _ _ _ s2o.1 s2o.2.1 s2o.2.2
  have b3 := cycle_at _ (small_src 3 [[2, 1], [1, 2]] (by decide) (by decide) (by decide)) _ _ _ s3c.1 s3c.2.1 s3c.2.2
  have b4 := cycle_at _ (small_src 3 [[2, 1]] (by decide) (by decide) (by decide)) _ _ _ s4c.1 s4c.2.1 s4c.2.2
  have b5 := above_at _ (small_src 4 [[0, 2, 3], [2, 1]] (by decide) (by decide) (by decide)) 1 _ _ s5a.1 s5a.2
  have b6 := (above_at S0 small_s0 0 _ _ s6a.1 s6a.2).args (.cons nils_s0 (.cons (.refl _) .nil))
  have b7 := order_at _ (small_src 1 [[1, 0]] (by decide) (by decide) (by decide)) _ _ _ s7o.1 s7o.2.1 s7o.2.2
  have b8 := (order_at S0 small_s0 _ _ _ s8o.1 s8o.2.1 s8o.2.2).args (.cons nils_s0 .nil)
  have b9 := check20_pure
  have c1 := same_lit [1, 2, 3, 0] [1, 2, 3, 0] (by decide)
  have c2 := same_lit [1, 2] [1, 2] (by decide)
  have c3 := same_lit [0, 2] [0, 2] (by decide)
  obtain ⟨S1, hS1⟩ : ∃ s, s = srcOf 4 ([[0, 2, 3], [2, 1]].map RowI.mk) := ⟨_, rfl⟩
  obtain ⟨S2, hS2⟩ : ∃ s, s = srcOf 3 ([[1, 2], [2, 1]].map RowI.mk) := ⟨_, rfl⟩
  obtain ⟨S3, hS3⟩ : ∃ s, s = srcOf 3 ([[2, 1], [1, 2]].map RowI.mk) := ⟨_, rfl⟩
  obtain ⟨S4, hS4⟩ : ∃ s, s = srcOf 3 ([[2, 1]].map RowI.mk) := ⟨_, rfl⟩
  obtain ⟨S7, hS7⟩ : ∃ s, s = srcOf 1 ([[1, 0]].map RowI.mk) := ⟨_, rfl⟩
  rw [← hS1] at a1 b1 b5
  rw [← hS2] at a2 b2
  rw [← hS3] at a3 b3
  rw [← hS4] at a4 b4
  rw [← hS7] at a7 b7
  clear hS1 hS2 hS3 hS4 hS7
  rw [show decide ([1, 2, 3, 0] = ([1, 2, 3, 0] : List Int)) = true from rfl] at c1
  rw [show decide ([1, 2] = ([1, 2] : List Int)) = true from rfl] at c2
  rw [show decide ([0, 2] = ([0, 2] : List Int)) = true from rfl] at c3
  replace c1 := c1.res (.bool (e' := .lit true) rfl)
  replace c2 := c2.res (.bool (e' := .lit true) rfl)
  replace c3 := c3.res (.bool (e' := .lit true) rfl)
  refine Pure.intro (want := [boolD true]) T_ok follows Tryz.func4 rfl (by kernel_rfl) (rs := [.tmp 0]) rfl (by kernel_rfl) ?_
  generalize hP : Tryz.prog = P at *
  have hT : T.ok P := hP ▸ T_ok
  have hm : P.follows .mixedOrders = true := hP ▸ follows
  unfold Tryz.f4
  dsimp only
  cbv
  refine CallP.pure _ a1 rfl ?_
  cbv
  refine CallP.pure _ b1 rfl ?_
  cbv
  refine CallP.pure _ a2 rfl ?_
  cbv
  refine CallP.pure _ b2 rfl ?_
  cbv
  refine CallP.pure _ a3 rfl ?_
  cbv
  refine CallP.pure _ b3 rfl ?_
  cbv
  refine CallP.pure _ a4 rfl ?_
  cbv
  refine CallP.pure _ b4 rfl ?_
  cbv
  refine CallP.pure _ a1 rfl ?_
  cbv
  refine CallP.pure _ b5 rfl ?_
  cbv
  refine CallP.pure _ b6 rfl ?_
  cbv
  refine CallP.pure _ a7 rfl ?_
  cbv
  refine CallP.pure _ b7 rfl ?_
  cbv
  refine CallP.pure _ b8 rfl ?_
  cbv
  refine CallP.pure _ c1 rfl ?_
  cbv
  (repeat (refine OpsP.go hT ?_; cbv))
  refine SplitP.mk (fun h => ?_) (fun h => (by cases (show true = false from h)))
  clear h
  (repeat (refine OpsP.go hT ?_; cbv))
  refine CallP.pure _ c2 rfl ?_
  cbv
  (repeat (refine OpsP.go hT ?_; cbv))
  refine CallP.pure _ c3 rfl ?_
  cbv
  (repeat (refine OpsP.go hT ?_; cbv))
  refine SplitP.mk (fun h => ?_) (fun h => (by cases (show true = false from h)))
  (repeat (refine OpsP.go hT ?_; cbv))
  refine CallP.pure _ b9 rfl ?_
  cbv
  (repeat (refine OpsP.go hT ?_; cbv))
  exact .mk (.cons (.eq (.bool rfl)) .nil) rfl
end Go.Proofs.YtdhfakajlnidiaaGreat
namespace Go.Proofs.YtdhfakajlnidiaaGreat
open Go.RowKit

/-! rules.Check and the law of Check. -/
def chk20 (S : SourceD) : Int := if checkB S ≠ 0 then checkB S else if numE S ≠ 0 then numE S else if ordOK S then 0 else 141
set_option maxRecDepth 100000 in
set_option maxHeartbeats 4000000 in
theorem Check20_pure (S : SourceD) (h : SmallS S) : Pure Tryz.prog 10 [.agg S.c] (i64 (chk20 S)) := by
  have hC := Check12_pure S
  have hO := Order_pure S h
  obtain ⟨r, hr⟩ : ∃ r, r = chk20 S := ⟨_, rfl⟩
  rw [← hr]
  unfold chk20 at hr
  obtain ⟨c, hc⟩ : ∃ l, l = checkB S := ⟨_, rfl⟩
  obtain ⟨l, hl⟩ : ∃ l, l = ordL S := ⟨_, rfl⟩
  obtain ⟨ok, hok⟩ : ∃ l, l = ordOK S := ⟨_, rfl⟩
  obtain ⟨e, he⟩ : ∃ l, l = numE S := ⟨_, rfl⟩
  rw [← hl, ← hok, ← he] at hO
  rw [← hc] at hC
  rw [← hc, ← hok, ← he] at hr
  obtain ⟨lb, hlb⟩ : ∃ b, b = l.isEmpty := ⟨_, rfl⟩
  rw [← hlb] at hO
  clear h hc hl hok he hlb
  obtain ⟨ni, is, nu, us, ns, ss, nr, rs, nc, cs, np, ps⟩ := S
  refine Pure.intro (want := [i64 r]) T_ok follows Tryz.func10 rfl (by kernel_rfl) (rs := [.tmp 2]) rfl (by kernel_rfl) ?_
  generalize hP : Tryz.prog = P at *
  have hT : T.ok P := hP ▸ T_ok
  have hm : P.follows .mixedOrders = true := hP ▸ follows
  unfold Tryz.f10
  dsimp only
  cbv
  refine CallP.pure _ hC rfl ?_
  clear hC
  cbv
  refine SplitP.mk (fun g => ?_) (fun g => ?_)
  · have h3 : (c != 0) = true := g
    have h4 : c ≠ 0 := by simpa using h3
    rw [if_pos h4] at hr
    refine .mk (.cons (.eq (.int ?_)) .nil) rfl
    show c = r
    exact hr.symm
  have h3 : (c != 0) = false := g
  have h4 : ¬ c ≠ 0 := by simpa using h3
  rw [if_neg h4] at hr
  clear g h3 h4
  refine CallP.pure _ hO rfl ?_
  clear hO
  cbv
  refine SplitP.mk (fun g => ?_) (fun g => ?_)
  · have h3 : (e != 0) = true := g
    have h4 : e ≠ 0 := by simpa using h3
    rw [if_pos h4] at hr
    refine .mk (.cons (.eq (.int ?_)) .nil) rfl
    show e = r
    exact hr.symm
  have h3 : (e != 0) = false := g
  have h4 : ¬ e ≠ 0 := by simpa using h3
  rw [if_neg h4] at hr
  clear g h3 h4
  refine SplitP.mk (fun g => ?_) (fun g => ?_)
  · have g' : (!ok) = true := g
    have g2 : ok = false := by simpa using g'
    rw [g2, if_neg (by decide)] at hr
    refine .mk (.cons (.eq (.int ?_)) .nil) rfl
    show (141 : Int) = r
    exact hr.symm
  have g' : (!ok) = false := g
  have g2 : ok = true := by simpa using g'
  rw [g2, if_pos rfl] at hr
  refine .mk (.cons (.eq (.int ?_)) .nil) rfl
  show (0 : Int) = r
  exact hr.symm
end Go.Proofs.YtdhfakajlnidiaaGreat
namespace Go.Proofs.YtdhfakajlnidiaaGreat
open Go.RowKit

/-! What the reference of chapter 12 says of a source, and that it says the same as types.Check. -/
def baseOf (us : List UnitD) (i : Int) : Int := match us[i.toNat]? with | some u => u.base | none => 0
def rcmpB (us : List UnitD) (a b : TypeD) : Bool :=
  if a.kind ≠ b.kind then false else if a.kind = 1 then (if a.unit = -1 then decide (b.unit = -1) else (decide (0 ≤ b.unit) && decide (baseOf us a.unit = baseOf us b.unit))) else if a.kind ≠ 4 then true else decide (a.names = b.names)
def numTB (t : TermD) : Bool := decide (0 ≤ t.n) && decide (t.n ≤ 1048576)
def rtermB (s : SourceD) (fs : List FromD) (t : TermD) : Bool := if t.vr = -1 then numTB t else (termTy? s fs t fs.length).isSome
def rinTy (fd y : TypeD) : Bool := decide (y.kind = fd.kind) && decide (y.unit = fd.unit) && decide (y.names = fd.names) && (decide (fd.lo ≤ y.lo) && decide (y.hi ≤ fd.hi))
def rsetB (s : SourceD) (fs : List FromD) (fd : TypeD) (t : TermD) : Bool := if t.vr = -1 then numTB t && (decide (fd.lo ≤ t.n) && decide (t.n ≤ fd.hi)) else match termTy? s fs t fs.length with | some y => rinTy fd y | none => false
def rpairOK (us : List UnitD) : List TypeD → Bool
  | [] => false
  | [y, z] => rcmpB us y z
  | _ => true
def ratomB (s : SourceD) (fs : List FromD) (m : AtomD) : Bool :=
  decide (1 ≤ m.op) && decide (m.op ≤ 4) && ([m.a, m.b].all (rtermB s fs) && (rpairOK s.units (atomTys s fs m) && (atomTys s fs m).all (opOK m.op)))
def rsetIn (s : SourceD) (r : RuleD) (x : SetD) : Bool := decide (1 ≤ x.field) && match typeOf? s r.schema x.field with | some fd => rsetB s r.froms fd x.term | none => false
def rruleB (s : SourceD) (r : RuleD) : Bool :=
  (decide (1 ≤ r.froms.length) && decide (r.froms.length ≤ 3) && decide (r.where_.length ≤ 8) && schIn s r.schema) && ((List.range r.froms.length).all (fromB s r.froms) && (r.where_.all (ratomB s r.froms) && (decide ((r.sets.length : Int) = headLen s r.schema - 1) && (r.sets.all (rsetIn s r) && decide (r.sets.map (·.field)).Nodup))))
def rpurpB (s : SourceD) (pu : PurposeD) : Bool := (decide (0 ≤ pu.most) && decide (pu.most ≤ 64)) && pu.may.all (refIn s)
def restB (s : SourceD) : Bool := s.units.all (unitB s.units) && (s.schemas.all (schB s) && (s.rules.all (rruleB s) && s.purposes.all (rpurpB s)))
def rcheckB (s : SourceD) : Int := if limB s then (if restB s then 0 else 120) else 2
theorem kindB_wide {t : TypeD} {n : Int} (h : kindB t n = true) (h1 : t.kind ≠ 1) : t.unit = -1 := by
  unfold kindB at h
  rw [if_neg h1] at h
  split at h
  · simp only [kindQ, Bool.and_eq_true, decide_eq_true_eq] at h; omega
  split at h
  · simp only [kindQ, Bool.and_eq_true, decide_eq_true_eq] at h; omega
  split at h
  · simp only [kind4, Bool.and_eq_true, decide_eq_true_eq] at h; omega
  · cases h
theorem base_some {us : List UnitD} {i : Int} (h0 : 0 ≤ i) (h1 : i < (us.length : Int)) : ∃ u, us[i.toNat]? = some u ∧ baseOf us i = u.base := by
  have h2 : i.toNat < us.length := by omega
  exact ⟨_, List.getElem?_eq_getElem h2, by unfold baseOf; rw [List.getElem?_eq_getElem h2]⟩
theorem cmp_law {us : List UnitD} {a b : TypeD} (ha : kindB a us.length = true) (hb : kindB b us.length = true) : cmpB us a b = rcmpB us a b := by
  have ua := kindB_unit ha
  have ub := kindB_unit hb
  have wa := kindB_wide ha
  have wb := kindB_wide hb
  unfold cmpB rcmpB
  by_cases hk : a.kind = b.kind
  · rw [if_pos hk, if_neg (show ¬ (a.kind ≠ b.kind) from fun h => h hk)]
    by_cases h4 : a.kind = 4
    · rw [if_pos h4, if_neg (show ¬ a.kind = 1 by omega), if_neg (show ¬ (a.kind ≠ 4) by omega)]
    · rw [if_neg h4]
      by_cases h1 : a.kind = 1
      · rw [if_pos h1]
        have ua := ua h1
        have ub := ub (hk ▸ h1)
        by_cases hu : a.unit = -1
        · rw [if_neg (show ¬ (a.kind = 1 ∧ a.unit ≠ -1 ∧ b.unit ≠ -1) from fun h => h.2.1 hu), if_pos hu, hu]
          exact decide_eq_decide.2 ⟨fun h => h.symm, fun h => h.symm⟩
        · rw [if_neg hu]
          by_cases hv : b.unit = -1
          · rw [if_neg (show ¬ (a.kind = 1 ∧ a.unit ≠ -1 ∧ b.unit ≠ -1) from fun h => h.2.2 hv), decide_eq_false (show ¬ a.unit = b.unit by omega), decide_eq_false (show ¬ 0 ≤ b.unit by omega)]
            rfl
          · rw [if_pos ⟨h1, hu, hv⟩, decide_eq_true (show 0 ≤ b.unit by omega), Bool.true_and]
            obtain ⟨x, hx, ex⟩ := base_some (us := us) (i := a.unit) (by omega) (by omega)
            obtain ⟨y, hy, ey⟩ := base_some (us := us) (i := b.unit) (by omega) (by omega)
            rw [hx, hy, ex, ey]
      · rw [if_neg (show ¬ (a.kind = 1 ∧ a.unit ≠ -1 ∧ b.unit ≠ -1) from fun h => h1 h.1), if_neg h1, if_pos h4, wa h1, wb (by omega)]
        rfl
  · rw [if_neg hk, if_pos hk]
theorem kindB_le {t : TypeD} {n : Int} (h : kindB t n = true) : t.lo ≤ t.hi := by
  unfold kindB at h
  split at h
  · simp only [kind1, Bool.and_eq_true, decide_eq_true_eq] at h; omega
  split at h
  · simp only [kindQ, Bool.and_eq_true, decide_eq_true_eq] at h; omega
  split at h
  · simp only [kindQ, Bool.and_eq_true, decide_eq_true_eq] at h; omega
  split at h
  · simp only [kind4, Bool.and_eq_true, decide_eq_true_eq] at h; omega
  · cases h
theorem inTy_law {n : Int} {fd y : TypeD} (hy : kindB y n = true) : inTy fd y = rinTy fd y := by
  have := kindB_le hy
  unfold inTy rinTy
  rw [Bool.eq_iff_iff]
  simp
  omega
theorem ok_law (s : SourceD) (fs : List FromD) (t : TermD) : okT s fs t = rtermB s fs t := by
  unfold okT rtermB isNumB numTB termTy?
  by_cases h : t.vr = -1
  · simp [h]
  · simp [h]
theorem atomTys_good {s : SourceD} {fs : List FromD} {m : AtomD} (hg : Good s) {y : TypeD} (h : y ∈ atomTys s fs m) : kindB y s.units.length = true := by
  unfold atomTys at h
  rw [List.mem_filterMap] at h
  obtain ⟨t, _, ht⟩ := h
  exact termTy_good hg ht
theorem atom_law {s : SourceD} (hg : Good s) (fs : List FromD) (m : AtomD) : atomB s fs m = ratomB s fs m := by
  unfold atomB ratomB
  have h1 : okT s fs = rtermB s fs := funext fun t => ok_law s fs t
  have h2 : pairOK s.units (atomTys s fs m) = rpairOK s.units (atomTys s fs m) := by
    have hm := fun y h => atomTys_good (fs := fs) (m := m) hg (y := y) h
    generalize atomTys s fs m = l at *
    match l with
    | [] => rfl
    | [y] => rfl
    | [y, z] => exact cmp_law (hm y (by simp)) (hm z (by simp))
    | _ :: _ :: _ :: _ => rfl
  rw [h1, h2]
theorem set_law {s : SourceD} (hg : Good s) (fs : List FromD) (fd : TypeD) (t : TermD) : setB s fs fd t = rsetB s fs fd t := by
  unfold setB rsetB
  by_cases h : t.vr = -1
  · rw [if_pos h]
    have hn : isNumB t = numTB t := by unfold isNumB numTB; simp [h]
    rw [hn]
    cases hq : numTB t with
    | true => rw [if_pos rfl, Bool.true_and]
    | false =>
      rw [if_neg (by simp), Bool.false_and]
      have : termTy? s fs t fs.length = none := by unfold termTy?; rw [if_neg (by omega)]
      rw [this]
  · rw [if_neg h]
    have hn : isNumB t = false := by unfold isNumB; simp [h]
    rw [hn, if_neg (by simp)]
    cases hy : termTy? s fs t fs.length with
    | none => rfl
    | some y => exact inTy_law (termTy_good hg hy)
theorem typeOf?_nonneg {s : SourceD} {i j : Int} {t : TypeD} (h : typeOf? s i j = some t) : 0 ≤ i ∧ 0 ≤ j := by
  unfold typeOf? at h
  split at h
  · split at h
    · split at h
      · omega
      · cases h
    · cases h
  · cases h
theorem setIn_law {s : SourceD} (hg : Good s) (r : RuleD) (x : SetD) : setIn s r x = rsetIn s r x := by
  unfold setIn rsetIn
  cases ht : typeOf? s r.schema x.field with
  | none => simp
  | some fd =>
    have := typeOf?_nonneg ht
    simp only
    rw [set_law hg]
    by_cases h : x.field = 0
    · simp [h]
    · have : 1 ≤ x.field := by omega
      simp [h, this]
theorem rule_law {s : SourceD} (hg : Good s) (r : RuleD) : ruleB s r = rruleB s r := by
  unfold ruleB rruleB fromsB
  have h1 : atomB s r.froms = ratomB s r.froms := funext fun m => atom_law hg _ m
  have h2 : setIn s r = rsetIn s r := funext fun x => setIn_law hg r x
  rw [h1, h2]
  generalize (List.range r.froms.length).all (fromB s r.froms) = b1
  generalize r.where_.all (ratomB s r.froms) = b2
  generalize r.sets.all (rsetIn s r) = b3
  generalize schIn s r.schema = b4
  generalize decide (1 ≤ r.froms.length) = b5
  generalize decide (r.froms.length ≤ 3) = b6
  generalize decide (r.where_.length ≤ 8) = b7
  generalize decide ((r.sets.length : Int) = headLen s r.schema - 1) = b8
  generalize decide (List.map (fun x => x.field) r.sets).Nodup = b9
  cases b1 <;> cases b2 <;> cases b3 <;> cases b4 <;> cases b5 <;> cases b6 <;> cases b7 <;> rfl
theorem purp_law (s : SourceD) (pu : PurposeD) : purpB s pu = rpurpB s pu := by
  unfold purpB rpurpB
  rw [Bool.and_comm]
theorem check_law (s : SourceD) : checkB s = rcheckB s := by
  unfold checkB rcheckB restB
  cases hs : s.schemas.all (schB s) with
  | false => simp
  | true =>
    have hg := good_of hs
    have h1 : ruleB s = rruleB s := funext fun r => rule_law hg r
    have h2 : purpB s = rpurpB s := funext fun p => purp_law s p
    rw [h1, h2]
end Go.Proofs.YtdhfakajlnidiaaGreat
namespace Go.Proofs.YtdhfakajlnidiaaGreat
open Go.RowKit

/-! The reference of chapter 12: names, types of fields. -/
set_option maxRecDepth 100000 in
set_option maxHeartbeats 4000000 in
theorem sameNames_pure (l m : List ByteArray) (na nb : Option BE) (hl : l.length < 9223372036854775807) : Pure Tryz.prog 89 [.slm 1 na strC l, .slm 1 nb strC m] (boolD (decide (l = m))) := by
  obtain ⟨r, hr⟩ : ∃ r, r = decide (l = m) := ⟨_, rfl⟩
  rw [← hr]
  obtain ⟨n, hn⟩ : ∃ n : Nat, n = l.length := ⟨_, rfl⟩
  refine Pure.intro (want := [boolD r]) T_ok follows Tryz.func89 rfl (by kernel_rfl) (rs := [.tmp 4]) rfl (by kernel_rfl) ?_
  generalize hP : Tryz.prog = P at *
  have hT : T.ok P := hP ▸ T_ok
  have hm : P.follows .mixedOrders = true := hP ▸ follows
  unfold Tryz.f89
  dsimp only
  cbv
  refine SplitP.mk (fun h => ?_) (fun h => ?_)
  · have h3 : ((l.length : Int) != (m.length : Int)) = true := h
    refine .mk (.cons (.eq (.bool ?_)) .nil) rfl
    rw [BE.lit_d, BE.var_d]
    rw [hr]; symm; exact decide_eq_false fun e => by rw [e] at h3; simp at h3
  have hlm : l.length = m.length := by
    have h3 : ((l.length : Int) != (m.length : Int)) = false := h
    simp at h3
    omega
  refine CodeP.loopc hT hm (X := Nat) (fun k => [(5, .int .i64 (.nat k))]) (fun k => k ≤ l.length ∧ r = decide (l.drop k = m.drop k)) (fun k => n - k) 0 ⟨by simp, hr⟩ (Nat.zero_le _) ?_ rfl ?_
  · (cbv; (repeat' (first | exact SnD.refl _ | exact trivial | exact SnD.nat0 | refine And.intro ?_ ?_)))
  intro k ⟨hk, hq⟩
  cbv
  refine SplitP.mk (fun hs => ?_) (fun hs => ?_)
  · have hkn : k < l.length := by
      have h5 := of_decide_eq_true (show decide ((k : Int) < (l.length : Int)) = true from hs)
      omega
    clear hs
    have hdx : ∀ {α : Type} {l : List α} {k : Nat} {x : α}, l[k]? = some x → l.drop k = x :: l.drop (k + 1) := fun {α l k x} h => by
      obtain ⟨h1, h2⟩ := List.getElem?_eq_some_iff.1 h
      rw [List.drop_eq_getElem_cons h1, h2]
    refine ElemP.mk (by show (0 : Int) ≤ (k : Int) ∧ (k : Int) < (l.length : Int); omega) (fun x hx => ?_)
    replace hx : l[k]? = some x := hx
    cbv
    refine ElemP.mk (by show (0 : Int) ≤ (k : Int) ∧ (k : Int) < (m.length : Int); omega) (fun y hy => ?_)
    replace hy : m[k]? = some y := hy
    rw [hdx hx, hdx hy] at hq
    clear hdx
    cbv
    refine SplitP.mk (fun h => ?_) (fun h => ?_)
    · have h3 : (!(x == y)) = true := h
      have hne : x ≠ y := by simpa using h3
      refine .mk (.cons (.eq (.bool ?_)) .nil) rfl
      rw [BE.lit_d, BE.var_d]
      rw [hq]; symm; exact decide_eq_false fun e => hne (List.cons.inj e).1
    · have h3 : (!(x == y)) = false := h
      have hxy : x = y := by simpa using h3
      refine BackP.intro (k + 1) ⟨by omega, by rw [hq, hxy]; exact decide_eq_decide.2 (by simp)⟩ (by show n - (k + 1) < n - k; omega) ⟨?_, HEnt.refl _, rfl⟩
      (cbv; (repeat' (first | exact SnD.refl _ | exact trivial | exact SnD.nat0 | refine And.intro ?_ ?_)))
      exact .inc (by omega)
  · have hkn : l.length ≤ k := by
      have h5 := of_decide_eq_false (show decide ((k : Int) < (l.length : Int)) = false from hs)
      omega
    refine .mk (.cons (.eq (.bool ?_)) .nil) rfl
    rw [BE.lit_d, BE.var_d]
    rw [hq, List.drop_of_length_le (by omega), List.drop_of_length_le (by omega)]; simp
set_option maxRecDepth 100000 in
set_option maxHeartbeats 4000000 in
theorem different_pure (L : List ByteArray) (nb : Option BE) (hl : L.length < 9223372036854775807) : Pure Tryz.prog 84 [.slm 1 nb strC L] (boolD (decide L.Nodup)) := by
  obtain ⟨r, hr⟩ : ∃ r, r = decide L.Nodup := ⟨_, rfl⟩
  rw [← hr]
  obtain ⟨n, hn⟩ : ∃ n : Nat, n = L.length := ⟨_, rfl⟩
  have hbad : ∀ k j x, k < j → L[k]? = some x → L[j]? = some x → r = false := fun k j x h h1 h2 => by
    rw [hr]
    refine decide_eq_false fun hnd => ?_
    obtain ⟨a1, a2⟩ := List.getElem?_eq_some_iff.1 h1
    obtain ⟨b1, b2⟩ := List.getElem?_eq_some_iff.1 h2
    exact List.pairwise_iff_getElem.1 hnd k j a1 b1 h (a2.trans b2.symm)
  have hgood : (∀ j, j < n → ∀ k, k < j → L[k]? ≠ L[j]?) → r = true := fun h => by
    rw [hr]
    refine decide_eq_true ?_
    refine List.pairwise_iff_getElem.2 fun i j hi hj hij e => h j (by omega) i hij ?_
    rw [List.getElem?_eq_getElem hi, List.getElem?_eq_getElem hj, e]
  clear hr
  refine Pure.intro (want := [boolD r]) T_ok follows Tryz.func84 rfl (by kernel_rfl) (rs := [.tmp 2]) rfl (by kernel_rfl) ?_
  generalize hP : Tryz.prog = P at *
  have hT : T.ok P := hP ▸ T_ok
  have hm : P.follows .mixedOrders = true := hP ▸ follows
  unfold Tryz.f84
  dsimp only
  cbv
  refine CodeP.loopc hT hm (X := Nat) (fun k => [(3, .int .i64 (.nat k))]) (fun k => k ≤ L.length ∧ ∀ j, j < k → ∀ i, i < j → L[i]? ≠ L[j]?) (fun k => n - k) 0 ⟨Nat.zero_le _, fun j h => absurd h (Nat.not_lt_zero _)⟩ (Nat.zero_le _) ?_ rfl ?_
  · (cbv; (repeat' (first | exact SnD.refl _ | exact trivial | exact SnD.nat0 | refine And.intro ?_ ?_)))
  intro k ⟨hk, hq⟩
  cbv
  refine SplitP.mk (fun hs => ?_) (fun hs => ?_)
  · have hkn : k < L.length := by
      have h5 : decide ((k : Int) < (L.length : Int)) = true := hs
      have := of_decide_eq_true h5
      omega
    clear hs
    refine CodeP.loopc hT hm (X := Nat) (fun i => [(4, .int .i64 (.nat i))]) (fun j => j ≤ k ∧ ∀ i, i < j → L[i]? ≠ L[k]?) (fun i => k - i) 0 ⟨Nat.zero_le _, fun j h => absurd h (Nat.not_lt_zero _)⟩ (Nat.zero_le _) ?_ rfl ?_
    · (cbv; (repeat' (first | exact SnD.refl _ | exact trivial | exact SnD.nat0 | refine And.intro ?_ ?_)))
    intro j ⟨hj, hq2⟩
    cbv
    refine SplitP.mk (fun hs => ?_) (fun hs => ?_)
    · have hjk : j < k := by
        have h5 := of_decide_eq_true (show decide ((j : Int) < (k : Int)) = true from hs)
        omega
      clear hs
      refine ElemP.mk (by show (0 : Int) ≤ (j : Int) ∧ (j : Int) < (L.length : Int); omega) (fun x hx => ?_)
      replace hx : L[j]? = some x := hx
      cbv
      refine ElemP.mk (by show (0 : Int) ≤ (k : Int) ∧ (k : Int) < (L.length : Int); omega) (fun y hy => ?_)
      replace hy : L[k]? = some y := hy
      cbv
      refine SplitP.mk (fun h => ?_) (fun h => ?_)
      · have h3 : (x == y) = true := h
        have hxy : x = y := by simpa using h3
        refine .mk (.cons (.eq (.bool ?_)) .nil) rfl
        rw [BE.lit_d, BE.var_d]
        exact (hbad j k x hjk hx (by rw [hxy]; exact hy)).symm
      · have h3 : (x == y) = false := h
        have hxy : x ≠ y := by simpa using h3
        refine BackP.intro (j + 1) ⟨by omega, fun i hi => ?_⟩ (by show k - (j + 1) < k - j; omega) ⟨?_, HEnt.refl _, rfl⟩
        · rcases Nat.lt_succ_iff_lt_or_eq.1 hi with h | h
          · exact hq2 i h
          · rw [h, hx, hy]
            exact fun e => hxy (Option.some.inj e)
        · (cbv; (repeat' (first | exact SnD.refl _ | exact trivial | exact SnD.nat0 | refine And.intro ?_ ?_)))
          exact .inc (by omega)
    · have hjk : j = k := by
        have h5 := of_decide_eq_false (show decide ((j : Int) < (k : Int)) = false from hs)
        omega
      subst hjk
      refine BackP.intro (j + 1) ⟨by omega, fun i hi => ?_⟩ (by show n - (j + 1) < n - j; omega) ⟨?_, HEnt.refl _, rfl⟩
      · rcases Nat.lt_succ_iff_lt_or_eq.1 hi with h | h
        · exact hq i h
        · rw [h]; exact hq2
      · (cbv; (repeat' (first | exact SnD.refl _ | exact trivial | exact SnD.nat0 | refine And.intro ?_ ?_)))
        exact .inc (by omega)
  · have hkn : L.length ≤ k := by
      have h5 : decide ((k : Int) < (L.length : Int)) = false := hs
      have := of_decide_eq_false h5
      omega
    clear hs
    have hkl : k = n := by omega
    rw [hkl] at hq
    refine .mk (.cons (.eq (.bool ?_)) .nil) rfl
    rw [BE.lit_d, BE.var_d]
    exact (hgood hq).symm
set_option maxRecDepth 100000 in
set_option maxHeartbeats 4000000 in
theorem ordered_pure (t : TypeD) : Pure Tryz.prog 87 [.agg t.c] (boolD (ordB t)) := by
  obtain ⟨r, hr⟩ : ∃ r, r = ordB t := ⟨_, rfl⟩
  rw [← hr]
  unfold ordB at hr
  obtain ⟨t1, t2, t3, t4, t5, t6, t7⟩ := t
  simp only at hr
  refine Pure.intro (want := [boolD r]) T_ok follows Tryz.func87 rfl (by kernel_rfl) (rs := [.tmp 2]) rfl (by kernel_rfl) ?_
  generalize hP : Tryz.prog = P at *
  have hT : T.ok P := hP ▸ T_ok
  have hm : P.follows .mixedOrders = true := hP ▸ follows
  unfold Tryz.f87
  dsimp only
  cbv
  ((repeat' (refine SplitP.mk (fun _ => ?_) (fun _ => ?_))); all_goals (try simp only [BE.den, IE.den, cmpDen, Bool.not_eq_true, Bool.not_eq_false, Bool.not_eq_eq_eq_not, Bool.not_true, Bool.not_false, dec_t, dec_f, beq_iff_eq, beq_eq_false_iff_ne, bne_iff_ne, ne_eq, bne_eq_false_iff_eq, ge_iff_le, gt_iff_lt, Int.not_lt, Int.not_le] at *); all_goals (refine .mk (.cons (.eq (.bool ?_)) .nil) rfl; simp only [BE.den, IE.den, cmpDen]; rw [hr, Bool.eq_iff_iff]; simp only [Bool.and_eq_true, Bool.or_eq_true, dec_t, dec_f, beq_iff_eq, bne_iff_ne, ge_iff_le, gt_iff_lt, Bool.false_eq_true, false_iff, true_iff]; first | omega | grind))
set_option maxRecDepth 100000 in
set_option maxHeartbeats 4000000 in
theorem There_pure (S : SourceD) (i j : Int) : Pure Tryz.prog 48 [.agg S.c, i64 i, i64 j] (boolD (typeOf? S i j).isSome) := by
  obtain ⟨r, hr⟩ : ∃ r, r = (typeOf? S i j).isSome := ⟨_, rfl⟩
  rw [← hr]
  unfold typeOf? at hr
  obtain ⟨ni, is, nu, us, ns, ss, nr, rs, nc, cs, np, ps⟩ := S
  simp only at hr
  refine Pure.intro (want := [boolD r]) T_ok follows Tryz.func48 rfl (by kernel_rfl) (rs := [.tmp 6]) rfl (by kernel_rfl) ?_
  generalize hP : Tryz.prog = P at *
  have hT : T.ok P := hP ▸ T_ok
  have hm : P.follows .mixedOrders = true := hP ▸ follows
  unfold Tryz.f48
  dsimp only
  cbv
  refine SplitP.mk (fun g => ?_) (fun g => ?_)
  · have g1 : 0 ≤ i := of_decide_eq_true (show decide (i ≥ 0) = true from g)
    rw [if_pos g1] at hr
    clear g
    refine SplitP.mk (fun g => ?_) (fun g => ?_)
    · have g2 : i < (ss.length : Int) := of_decide_eq_true (show decide (i < (ss.length : Int)) = true from g)
      clear g
      refine SplitP.mk (fun g => ?_) (fun g => ?_)
      · have g3 : 0 ≤ j := of_decide_eq_true (show decide (j ≥ 0) = true from g)
        clear g
        refine ElemP.mk ⟨g1, g2⟩ (fun x hx => ?_)
        replace hx : ss[i.toNat]? = some x := hx
        rw [hx] at hr
        simp only at hr
        rw [if_pos g3] at hr
        obtain ⟨x1, x2, x3, x4, x5, fl, x7, x8⟩ := x
        simp only at hr
        cbv
        refine .mk (.cons (.eq (.bool ?_)) .nil) rfl
        show decide (j < (fl.length : Int)) = r
        rw [hr]
        by_cases hj : j < (fl.length : Int)
        · rw [decide_eq_true hj, List.getElem?_eq_getElem (show j.toNat < fl.length by omega)]
          rfl
        · rw [decide_eq_false hj, List.getElem?_eq_none (by omega)]
          rfl
      · have g3 : ¬ 0 ≤ j := of_decide_eq_false (show decide (j ≥ 0) = false from g)
        refine .mk (.cons (.eq (.bool ?_)) .nil) rfl
        rw [BE.lit_d, BE.var_d]
        rw [hr]; split <;> simp [g3]
    · have g2 : ¬ i < (ss.length : Int) := of_decide_eq_false (show decide (i < (ss.length : Int)) = false from g)
      refine .mk (.cons (.eq (.bool ?_)) .nil) rfl
      rw [BE.lit_d, BE.var_d]
      rw [hr, List.getElem?_eq_none (by omega)]; rfl
  · have g1 : ¬ 0 ≤ i := of_decide_eq_false (show decide (i ≥ 0) = false from g)
    refine .mk (.cons (.eq (.bool ?_)) .nil) rfl
    rw [BE.lit_d, BE.var_d]
    rw [hr, if_neg g1]; rfl
set_option maxRecDepth 100000 in
set_option maxHeartbeats 4000000 in
theorem rtypeOf_pure (S : SourceD) (i j : Int) (t : TypeD) (h : typeOf? S i j = some t) : Pure Tryz.prog 85 [.agg S.c, i64 i, i64 j] (.agg t.c) := by
  unfold typeOf? at h
  obtain ⟨ni, is, nu, us, ns, ss, nr, rs, nc, cs, np, ps⟩ := S
  simp only at h
  split at h
  case isFalse => cases h
  case isTrue h1 =>
    split at h
    case h_2 => cases h
    case h_1 x hx =>
      split at h
      case isFalse => cases h
      case isTrue h2 =>
        split at h
        case h_2 => cases h
        case h_1 f hf =>
          cases h
          obtain ⟨x1, x2, x3, x4, x5, fl, x7, x8⟩ := x
          obtain ⟨y1, ⟨y2, y3, y4, y5, y6, y7, y8⟩, y9, y10, y11, y12⟩ := f
          simp only at hf
          have h3 : i < (ss.length : Int) := by have := (List.getElem?_eq_some_iff.1 hx).1; omega
          have h4 : j < (fl.length : Int) := by have := (List.getElem?_eq_some_iff.1 hf).1; omega
          refine Pure.intro (want := [.agg [.int .i64 (.var y2), .int .i64 (.var y3), .int .i64 (.var y4), .str y5, .int .i64 (.var y6), .slm 1 (some (.var y7)) strC y8]]) T_ok follows Tryz.func85 rfl (by kernel_rfl) (rs := [.cell 6 51]) rfl (by kernel_rfl) ?_
          generalize hP : Tryz.prog = P at *
          have hT : T.ok P := hP ▸ T_ok
          have hm : P.follows .mixedOrders = true := hP ▸ follows
          unfold Tryz.f85
          dsimp only
          cbv
          refine ElemP.mk ⟨h1, h3⟩ (fun z hz => ?_)
          replace hz : ss[i.toNat]? = some z := hz
          rw [hx] at hz
          cases hz
          cbv
          refine ElemP.mk ⟨h2, h4⟩ (fun z hz => ?_)
          replace hz : fl[j.toNat]? = some z := hz
          rw [hf] at hz
          cases hz
          cbv
          exact .mk (.cons (.eq (.refl _)) .nil) rfl
end Go.Proofs.YtdhfakajlnidiaaGreat
