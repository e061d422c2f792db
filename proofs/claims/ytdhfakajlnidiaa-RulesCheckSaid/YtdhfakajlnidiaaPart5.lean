/- Part 5 of the walks and laws that these claims rest on. No condition. -/
import Derived.Shelf.SlIterI.Nil
import Derived.Shelf.SortM.Plain
import Derived.Shelf.SortM.SortNone
import Derived.Scope
import Derived.Test.YtdhfakajlnidiaaPart4
set_option linter.all false
set_option linter.unusedSimpArgs false
set_option linter.unusedVariables false
set_option linter.unnecessarySimpa false
namespace Go.Proofs.Ytdhfakajlnidiaa
open Go.RowKit Go.Shelf Go.Maps Go.Sort Go.WideElems Go.MapKept

/-! slices.Sorted of maps.Keys: the library's contracts laid at this program. -/
def keysZ_ren : Go.Shelf.Ren := ⟨fun | 7 => 31 | 10 => 48 | n => n, fun | 23 => 59 | 26 => 3 | 3 => 3 | 28 => 63 | 0 => 0 | 27 => 62 | 33 => 66 | 4 => 4 | n => n, fun | n => n⟩
theorem keysZ : Go.Proofs.SlLaysZI.n7 Try.prog keysZ_ren := {
  mixed := by kernel_rfl
  f7 := ⟨Try.f31.name, by decide, Try.func31.trans (congrArg some (by kernel_rfl))⟩
  f10 := ⟨Try.f48.name, by decide, Try.func48.trans (congrArg some (by kernel_rfl))⟩
  t0 := Try.underlying0
  a0 := Try.isAgg0
  z0 := Try.sizeOf0
  v0 := Try.zeroValue0
  t4 := Try.underlying4
  a4 := Try.isAgg4
  z4 := Try.sizeOf4
  v4 := Try.zeroValue4
  t23 := Try.underlying59
  a23 := Try.isAgg59
  z23 := Try.sizeOf59
  v23 := Try.zeroValue59
  t26 := Try.underlying3
  a26 := Try.isAgg3
  z26 := Try.sizeOf3
  v26 := Try.zeroValue3
  t27 := Try.underlying62
  a27 := Try.isAgg62
  z27 := Try.sizeOf62
  v27 := Try.zeroValue62
  t28 := Try.underlying63
  a28 := Try.isAgg63
  z28 := Try.sizeOf63
  v28 := Try.zeroValue63
  t33 := Try.underlying66
  a33 := Try.isAgg66
  z33 := Try.sizeOf66
  v33 := Try.zeroValue66 }
def keysB_ren : Go.Shelf.Ren := ⟨fun | 7 => 27 | 10 => 46 | n => n, fun | 23 => 40 | 26 => 3 | 3 => 4 | 28 => 63 | 0 => 0 | 27 => 62 | 33 => 66 | 4 => 4 | n => n, fun | n => n⟩
theorem keysB : Go.Proofs.SlLaysZI.n7 Try.prog keysB_ren := {
  mixed := by kernel_rfl
  f7 := ⟨Try.f27.name, by decide, Try.func27.trans (congrArg some (by kernel_rfl))⟩
  f10 := ⟨Try.f46.name, by decide, Try.func46.trans (congrArg some (by kernel_rfl))⟩
  t0 := Try.underlying0
  a0 := Try.isAgg0
  z0 := Try.sizeOf0
  v0 := Try.zeroValue0
  t4 := Try.underlying4
  a4 := Try.isAgg4
  z4 := Try.sizeOf4
  v4 := Try.zeroValue4
  t23 := Try.underlying40
  a23 := Try.isAgg40
  z23 := Try.sizeOf40
  v23 := Try.zeroValue40
  t26 := Try.underlying3
  a26 := Try.isAgg3
  z26 := Try.sizeOf3
  v26 := Try.zeroValue3
  t27 := Try.underlying62
  a27 := Try.isAgg62
  z27 := Try.sizeOf62
  v27 := Try.zeroValue62
  t28 := Try.underlying63
  a28 := Try.isAgg63
  z28 := Try.sizeOf63
  v28 := Try.zeroValue63
  t33 := Try.underlying66
  a33 := Try.isAgg66
  z33 := Try.sizeOf66
  v33 := Try.zeroValue66 }
def sortedZ_ren : Go.Shelf.Ren := ⟨fun | 6 => 26 | 8 => 33 | 9 => 45 | 11 => 49 | 13 => 70 | 12 => 69 | 23 => 91 | 24 => 92 | 14 => 82 | 15 => 83 | 16 => 84 | 17 => 85 | 18 => 86 | 19 => 87 | 20 => 88 | 21 => 89 | 22 => 90 | 25 => 98 | 26 => 99 | 27 => 100 | 28 => 101 | 29 => 102 | 30 => 103 | 31 => 104 | n => n, fun | 26 => 3 | 28 => 63 | 24 => 32 | 0 => 0 | 3 => 3 | 37 => 128 | 48 => 158 | 50 => 160 | 4 => 4 | 40 => 151 | 39 => 150 | 45 => 58 | 5 => 5 | 9 => 9 | 51 => 162 | 55 => 166 | 57 => 169 | 58 => 170 | 33 => 66 | n => n, fun | n => n⟩
theorem sortedZ : Go.Proofs.SlLaysZI.n6 Try.prog sortedZ_ren := {
  mixed := by kernel_rfl
  f6 := ⟨Try.f26.name, by decide, Try.func26.trans (congrArg some (by kernel_rfl))⟩
  f8 := ⟨Try.f33.name, by decide, Try.func33.trans (congrArg some (by kernel_rfl))⟩
  f11 := ⟨Try.f49.name, by decide, Try.func49.trans (congrArg some (by kernel_rfl))⟩
  t0 := Try.underlying0
  a0 := Try.isAgg0
  z0 := Try.sizeOf0
  v0 := Try.zeroValue0
  t24 := Try.underlying32
  a24 := Try.isAgg32
  z24 := Try.sizeOf32
  v24 := Try.zeroValue32
  t26 := Try.underlying3
  a26 := Try.isAgg3
  z26 := Try.sizeOf3
  v26 := Try.zeroValue3
  t28 := Try.underlying63
  a28 := Try.isAgg63
  z28 := Try.sizeOf63
  v28 := Try.zeroValue63
  i26 := by kernel_rfl }
def sortZ_ren : Go.Shelf.Ren := ⟨fun | 5 => 45 | 8 => 70 | 7 => 69 | 19 => 91 | 20 => 92 | 10 => 82 | 11 => 83 | 12 => 84 | 13 => 85 | 14 => 86 | 15 => 87 | 16 => 88 | 17 => 89 | 18 => 90 | 30 => 98 | 31 => 99 | 32 => 100 | 33 => 101 | 34 => 102 | 35 => 103 | 40 => 104 | n => n, fun | 23 => 32 | 25 => 3 | 3 => 3 | 32 => 128 | 22 => 32 | 0 => 0 | 44 => 158 | 46 => 160 | 4 => 4 | 36 => 151 | 35 => 150 | 41 => 58 | 5 => 5 | 9 => 9 | 53 => 162 | 57 => 166 | 63 => 169 | 64 => 170 | n => n, fun | n => n⟩
theorem sortZ : Go.Proofs.SlLaysM.n5 Try.prog sortZ_ren := {
  mixed := by kernel_rfl
  f5 := ⟨Try.f45.name, by decide, Try.func45.trans (congrArg some (by kernel_rfl))⟩
  f7 := ⟨Try.f69.name, by decide, Try.func69.trans (congrArg some (by kernel_rfl))⟩
  f8 := Try.func70.trans (congrArg some (by kernel_rfl))
  f10 := ⟨Try.f82.name, by decide, Try.func82.trans (congrArg some (by kernel_rfl))⟩
  f11 := ⟨Try.f83.name, by decide, Try.func83.trans (congrArg some (by kernel_rfl))⟩
  f12 := ⟨Try.f84.name, by decide, Try.func84.trans (congrArg some (by kernel_rfl))⟩
  f13 := ⟨Try.f85.name, by decide, Try.func85.trans (congrArg some (by kernel_rfl))⟩
  f14 := ⟨Try.f86.name, by decide, Try.func86.trans (congrArg some (by kernel_rfl))⟩
  f15 := ⟨Try.f87.name, by decide, Try.func87.trans (congrArg some (by kernel_rfl))⟩
  f16 := ⟨Try.f88.name, by decide, Try.func88.trans (congrArg some (by kernel_rfl))⟩
  f17 := ⟨Try.f89.name, by decide, Try.func89.trans (congrArg some (by kernel_rfl))⟩
  f18 := ⟨Try.f90.name, by decide, Try.func90.trans (congrArg some (by kernel_rfl))⟩
  f19 := Try.func91.trans (congrArg some (by kernel_rfl))
  f20 := Try.func92.trans (congrArg some (by kernel_rfl))
  f30 := ⟨Try.f98.name, by decide, Try.func98.trans (congrArg some (by kernel_rfl))⟩
  f31 := Try.func99.trans (congrArg some (by kernel_rfl))
  f32 := Try.func100.trans (congrArg some (by kernel_rfl))
  f33 := ⟨Try.f101.name, by decide, Try.func101.trans (congrArg some (by kernel_rfl))⟩
  f34 := ⟨Try.f102.name, by decide, Try.func102.trans (congrArg some (by kernel_rfl))⟩
  f35 := ⟨Try.f103.name, by decide, Try.func103.trans (congrArg some (by kernel_rfl))⟩
  f40 := ⟨Try.f104.name, by decide, Try.func104.trans (congrArg some (by kernel_rfl))⟩
  t0 := Try.underlying0
  a0 := Try.isAgg0
  z0 := Try.sizeOf0
  v0 := Try.zeroValue0
  t3 := Try.underlying3
  a3 := Try.isAgg3
  z3 := Try.sizeOf3
  v3 := Try.zeroValue3
  t4 := Try.underlying4
  a4 := Try.isAgg4
  z4 := Try.sizeOf4
  v4 := Try.zeroValue4
  t5 := Try.underlying5
  a5 := Try.isAgg5
  z5 := Try.sizeOf5
  v5 := Try.zeroValue5
  t9 := Try.underlying9
  a9 := Try.isAgg9
  z9 := Try.sizeOf9
  v9 := Try.zeroValue9
  t22 := Try.underlying32
  a22 := Try.isAgg32
  z22 := Try.sizeOf32
  v22 := Try.zeroValue32
  t23 := Try.underlying32
  a23 := Try.isAgg32
  z23 := Try.sizeOf32
  v23 := Try.zeroValue32
  t25 := Try.underlying3
  a25 := Try.isAgg3
  z25 := Try.sizeOf3
  v25 := Try.zeroValue3
  t32 := Try.underlying128
  a32 := Try.isAgg128
  z32 := Try.sizeOf128
  v32 := Try.zeroValue128
  t35 := Try.underlying150
  a35 := Try.isAgg150
  z35 := Try.sizeOf150
  v35 := Try.zeroValue150
  t36 := Try.underlying151
  a36 := Try.isAgg151
  z36 := Try.sizeOf151
  v36 := Try.zeroValue151
  t41 := Try.underlying58
  a41 := Try.isAgg58
  z41 := Try.sizeOf58
  v41 := Try.zeroValue58
  t44 := Try.underlying158
  a44 := Try.isAgg158
  z44 := Try.sizeOf158
  v44 := Try.zeroValue158
  t46 := Try.underlying160
  a46 := Try.isAgg160
  z46 := Try.sizeOf160
  v46 := Try.zeroValue160
  t53 := Try.underlying162
  a53 := Try.isAgg162
  z53 := Try.sizeOf162
  v53 := Try.zeroValue162
  t57 := Try.underlying166
  a57 := Try.isAgg166
  z57 := Try.sizeOf166
  v57 := Try.zeroValue166
  t63 := Try.underlying169
  a63 := Try.isAgg169
  z63 := Try.sizeOf169
  v63 := Try.zeroValue169
  t64 := Try.underlying170
  a64 := Try.isAgg170
  z64 := Try.sizeOf170
  v64 := Try.zeroValue170 }

theorem sortsZ (m : Nat) : AnyZI.SortsIn Try.prog sortedZ_ren Fence.wide m :=
  ⟨fun blk off cap ss W hH hblk hsz => callsIn_wide.2 (AnyM.slices_Sort_int sortZ blk off cap ss W hH hblk hsz),
   fun p cap W => callsIn_wide.2 (AnyM.slices_Sort_int_none sortZ p cap W)⟩
abbrev Rany (_ : Value) : Option (DataW Unit × List MemPlace) := some (.nil, [])
abbrev keysD (P : Program) (es : Array MapEntry) : DataW Unit := .map ((es.toList.map (rg P 3 Rany)).foldr DataW.insert [])
theorem keyOf3 {x : Int} (h : InR .i64 x) : keyOf Try.prog 3 (.int .i64 x) = some (.int .i64 x) := by
  have h3 : Try.prog.underlying 3 = some (.int .i64) := Try.underlying3
  unfold keyOf mapKey
  rw [h3]
  have : (Lit.int .i64 x).wf = true := by
    unfold Lit.wf
    simp only [Bool.and_eq_true, decide_eq_true_eq]
    exact h
  simp [this]
theorem rd_of {e : MapEntry} {x : Int} (hk : e.key = .int .i64 x) (hx : InR .i64 x) : Go.WideElems.rd Try.prog 3 Rany e = some (.int .i64 x, .nil) := by
  unfold Go.WideElems.rd
  rw [hk, keyOf3 hx]
  rfl
theorem keys_mem {es : Array MapEntry} {ks : List Int} (h1 : ∀ e ∈ es.toList, ∃ x, e.key = .int .i64 x ∧ InR .i64 x ∧ x ∈ ks) (h2 : ∀ x ∈ ks, ∃ e ∈ es.toList, e.key = .int .i64 x) (h3 : es.toList.Pairwise fun a b => a.key ≠ b.key) (hs : ks.Pairwise fun a b => a < b) {ss : List Int} (hp : ss.Perm (intKeys (keysD Try.prog es))) :
    ss.mergeSort (fun x y => decide (x ≤ y)) = ks := by
  have hk : ∀ l : List MapEntry, (∀ e ∈ l, ∃ x, e.key = .int .i64 x ∧ InR .i64 x) → intKeys (H := Unit) (.map (l.map (rg Try.prog 3 Rany))) = l.map fun e => match e.key with | .int _ x => x | _ => 0 := fun l => by
    induction l with
    | nil => intro _; rfl
    | cons e l ih =>
      intro h
      obtain ⟨x, q1, q2⟩ := h e (by simp)
      have q3 := ih fun e he => h e (by simp [he])
      have q4 : intKeys (H := Unit) (.map ((e :: l).map (rg Try.prog 3 Rany))) = intKeys (H := Unit) (.map [rg Try.prog 3 Rany e]) ++ intKeys (H := Unit) (.map (l.map (rg Try.prog 3 Rany))) := rfl
      rw [q4, q3, rg_of (rd_of q1 q2), List.map_cons, q1]
      rfl
  have hp2 : ss.Perm (es.toList.map fun e => match e.key with | .int _ x => x | _ => 0) := by
    rw [← hk es.toList fun e he => by obtain ⟨x, q1, q2, _⟩ := h1 e he; exact ⟨x, q1, q2⟩]
    exact hp.trans (by unfold intKeys; exact (Go.WideShapes.sorted_perm _).map _)
  have hn : (es.toList.map fun e => match e.key with | .int _ x => x | _ => (0 : Int)).Nodup := by
    refine List.pairwise_map.2 (h3.imp_of_mem fun {a b} ha hb hne e => hne ?_)
    obtain ⟨x, q1, _⟩ := h1 a ha
    obtain ⟨y, q2, _⟩ := h1 b hb
    rw [q1, q2] at e ⊢
    simp only at e
    rw [e]
  have hkn : ks.Nodup := hs.imp fun h => by omega
  have hp3 : ss.Perm ks := by
    refine (List.perm_ext_iff_of_nodup (hp2.nodup_iff.2 hn) hkn).2 fun x => ?_
    rw [hp2.mem_iff, List.mem_map]
    constructor
    · rintro ⟨e, he, rfl⟩
      obtain ⟨x, q1, _, q2⟩ := h1 e he
      rw [q1]
      exact q2
    · intro hx
      obtain ⟨e, he, q⟩ := h2 x hx
      exact ⟨e, he, by rw [q]⟩
  have tr : ∀ a b c : Int, (decide (a ≤ b)) = true → (decide (b ≤ c)) = true → (decide (a ≤ c)) = true := fun a b c h1 h2 => by simp only [decide_eq_true_eq] at *; omega
  have to : ∀ a b : Int, (decide (a ≤ b) || decide (b ≤ a)) = true := fun a b => by simp only [Bool.or_eq_true, decide_eq_true_eq]; omega
  refine List.Perm.eq_of_pairwise (le := fun a b => decide (a ≤ b) = true) (fun a b _ _ h1 h2 => ?_) (List.pairwise_mergeSort tr to ss) (hs.imp fun h => by simp only [decide_eq_true_eq]; omega) ((List.mergeSort_perm ss _).trans hp3)
  simp only [decide_eq_true_eq] at h1 h2
  omega
theorem sorted_world (w : World) (bx b : Nat) (es : Array MapEntry) (clock : Nat) (ks : List Int) (hm : w.cell? ⟨bx, 0, none⟩ = some (.map (some b))) (hbx : bx < w.heap.size) (hb : w.heap[b]? = some (.map es clock)) (hsz : es.size ≤ 1000)
    (h1 : ∀ e ∈ es.toList, ∃ x, e.key = .int .i64 x ∧ InR .i64 x ∧ x ∈ ks) (h2 : ∀ x ∈ ks, ∃ e ∈ es.toList, e.key = .int .i64 x) (h3 : es.toList.Pairwise fun a b => a.key ≠ b.key ∧ a.born ≠ b.born) (h4 : ∀ e ∈ es.toList, e.born < clock) (hs : ks.Pairwise fun a b => a < b) :
    Calls Try.prog 26 #[.func (.func 48) #[] #[.pointer (some ⟨bx, 0, none⟩)]] w fun e w' => ∃ v, e = .returned v ∧ w'.ownsRow w.heap.size 3 1 v ks.length (ks.map fun x => .int .i64 x) ∧ (v = .slice none 0 0 ↔ ks = []) ∧ Below w.heap.size w w' := by
  have hown : w.ownsMap Try.prog 3 Rany b es.size (keysD Try.prog es) := ⟨es, clock, hb, ⟨by unfold maxLen; omega, ⟨h4, List.pairwise_map.2 (h3.imp fun h => h.2), List.pairwise_map.2 (h3.imp fun h => h.1)⟩, fun e he => by
    obtain ⟨x, q1, q2, _⟩ := h1 e he
    exact ⟨_, rd_of q1 q2⟩⟩, Nat.le_refl _, rfl⟩
  have hszD : Maps.size (keysD Try.prog es) = es.size := by
    show (List.foldr DataW.insert [] _).length = _
    rw [(Go.WideShapes.sorted_perm _).length_eq]
    simp
  refine (callsIn_wide (n := 5)).1 ?_
  have hseq : SeqGives Fence.wide 2 Try.prog 48 #[.pointer (some ⟨bx, 0, none⟩)] encZ (fun ss => ss.Perm (intKeys (keysD Try.prog es))) (Maps.size (keysD Try.prog es)) w :=
    AnyZI.keys_gives (ρ := keysZ_ren) { keysZ with } Fence.wide _ trivial rfl (by omega) bx b es.size (keysD Try.prog es) w hbx hm hown
  have cS := AnyZI.sorted_in sortedZ Fence.wide 5 trivial trivial trivial trivial rfl (by omega) (sortsZ _) (enters_of Try.func45 (by kernel_rfl) rfl) 48 #[.pointer (some ⟨bx, 0, none⟩)] trivial (enters_of Try.func48 (by kernel_rfl) rfl) _ _ (by rw [hszD]; unfold maxLen; omega) (by rw [hszD]; omega) w hseq
  refine CallsIn.mono cS ?_
  rintro e w' ⟨v, ss, rfl, hp, hrow, hnil, hbl⟩
  have hks := keys_mem (fun e he => h1 e he) h2 (h3.imp fun h => h.1) hs hp
  have hl : ss.length = ks.length := by rw [← hks]; simp
  rw [hks, hl] at hrow
  exact ⟨v, rfl, hrow, hnil.trans ⟨fun h => by rw [← List.length_eq_zero_iff, ← hl, h]; rfl, fun h => by rw [← List.length_eq_zero_iff, hl, h]; rfl⟩, hbl⟩
theorem sorted_worldB (w : World) (bx b : Nat) (es : Array MapEntry) (clock : Nat) (ks : List Int) (hm : w.cell? ⟨bx, 0, none⟩ = some (.map (some b))) (hbx : bx < w.heap.size) (hb : w.heap[b]? = some (.map es clock)) (hsz : es.size ≤ 1000)
    (h1 : ∀ e ∈ es.toList, ∃ x, e.key = .int .i64 x ∧ InR .i64 x ∧ x ∈ ks) (h2 : ∀ x ∈ ks, ∃ e ∈ es.toList, e.key = .int .i64 x) (h3 : es.toList.Pairwise fun a b => a.key ≠ b.key ∧ a.born ≠ b.born) (h4 : ∀ e ∈ es.toList, e.born < clock) (hs : ks.Pairwise fun a b => a < b) :
    Calls Try.prog 26 #[.func (.func 46) #[] #[.pointer (some ⟨bx, 0, none⟩)]] w fun e w' => ∃ v, e = .returned v ∧ w'.ownsRow w.heap.size 3 1 v ks.length (ks.map fun x => .int .i64 x) ∧ (v = .slice none 0 0 ↔ ks = []) ∧ Below w.heap.size w w' := by
  have hown : w.ownsMap Try.prog 3 Rany b es.size (keysD Try.prog es) := ⟨es, clock, hb, ⟨by unfold maxLen; omega, ⟨h4, List.pairwise_map.2 (h3.imp fun h => h.2), List.pairwise_map.2 (h3.imp fun h => h.1)⟩, fun e he => by
    obtain ⟨x, q1, q2, _⟩ := h1 e he
    exact ⟨_, rd_of q1 q2⟩⟩, Nat.le_refl _, rfl⟩
  have hszD : Maps.size (keysD Try.prog es) = es.size := by
    show (List.foldr DataW.insert [] _).length = _
    rw [(Go.WideShapes.sorted_perm _).length_eq]
    simp
  refine (callsIn_wide (n := 5)).1 ?_
  have hseq : SeqGives Fence.wide 2 Try.prog 46 #[.pointer (some ⟨bx, 0, none⟩)] encZ (fun ss => ss.Perm (intKeys (keysD Try.prog es))) (Maps.size (keysD Try.prog es)) w :=
    AnyZI.keys_gives (ρ := keysB_ren) { keysB with } Fence.wide _ trivial rfl (by omega) bx b es.size (keysD Try.prog es) w hbx hm hown
  have cS := AnyZI.sorted_in sortedZ Fence.wide 5 trivial trivial trivial trivial rfl (by omega) (sortsZ _) (enters_of Try.func45 (by kernel_rfl) rfl) 46 #[.pointer (some ⟨bx, 0, none⟩)] trivial (enters_of Try.func46 (by kernel_rfl) rfl) _ _ (by rw [hszD]; unfold maxLen; omega) (by rw [hszD]; omega) w hseq
  refine CallsIn.mono cS ?_
  rintro e w' ⟨v, ss, rfl, hp, hrow, hnil, hbl⟩
  have hks := keys_mem (fun e he => h1 e he) h2 (h3.imp fun h => h.1) hs hp
  have hl : ss.length = ks.length := by rw [← hks]; simp
  rw [hks, hl] at hrow
  exact ⟨v, rfl, hrow, hnil.trans ⟨fun h => by rw [← List.length_eq_zero_iff, ← hl, h]; rfl, fun h => by rw [← List.length_eq_zero_iff, hl, h]; rfl⟩, hbl⟩
theorem one_inv {w : World} {E : Env} {d : D} {vs : Array Value} (h : LRep w E [d] vs) : ∃ v, vs = #[v] ∧ DRep w E d v := by
  obtain ⟨h1, h2⟩ := h
  obtain ⟨vl⟩ := vs
  match vl, h1 with
  | [v], _ => exact ⟨v, rfl, h2 0 d v rfl rfl⟩
theorem slm_of_row {w w' : World} {B : Nat} {α : Type} {l : List α} {v : Value} (e : α → IE) (hIR : ∀ x ∈ l, InR .i64 (e x).den) (h : w'.ownsRow B 3 1 v l.length (l.map fun x => .int .i64 (e x).den)) (hn : v = .slice none 0 0 ↔ l = []) (hB : B = w.heap.size) :
    ∃ G' : Nat → Prop, (∀ b, G' b → w.heap.size ≤ b ∧ b < w'.heap.size) ∧ DRep w' (Env.of G') (.slm 1 (some (.var l.isEmpty)) (fun x => [.int .i64 (e x)]) l) v := by
  subst hB
  obtain ⟨_, h2⟩ := h
  rcases h2 with ⟨hv, hl⟩ | ⟨g, cap, cur, hv, hg, hh, hc, hm, hs, ht⟩
  · obtain rfl : l = [] := List.eq_nil_of_length_eq_zero hl
    subst hv
    refine ⟨fun _ => False, fun b h => h.elim, ?_⟩
    exact DRep.slm (l := []) (fun _ _ => undef) (fun e h => by cases h; rfl) (Nat.le_refl _) (Nat.zero_le _) (fun x hx => by cases hx) (fun h => absurd rfl h) fun i x j d h => by simp at h
  · have hne : l ≠ [] := fun e => by
      have := hn.2 e
      rw [hv] at this
      cases this
    subst hv
    have hgl : g < w'.heap.size := (Array.getElem?_eq_some_iff.1 hh).1
    have hget : ∀ i, i < l.length → cur[i]? = (l.map fun x => Value.int .i64 (e x).den)[i]? := fun i hi => by
      rw [← ht, List.getElem?_take, if_pos (by omega)]
      simp
    refine ⟨fun b => b = g, fun b h => by subst h; exact ⟨hg, hgl⟩, ?_⟩
    refine DRep.slm (fun i _ => cur.getD i undef) (fun e h => by cases h; cases l with | nil => exact absurd rfl hne | cons a t => rfl) hc hm (fun x hx => rfl) (fun _ => ⟨g, 0, rfl, rfl, fun i j hi hj => ?_⟩) fun i x j d h1 h2 => ?_
    · obtain rfl : j = 0 := by omega
      rw [cell_of_row w' g _ cur 3 (0, 0) hh]
      have : i < cur.size := by rw [hs]; omega
      simp [Array.getD, this]
    · have hi : i < l.length := (List.getElem?_eq_some_iff.1 h1).1
      cases j with
      | succ j => simp at h2
      | zero =>
        simp at h2
        subst h2
        have h3 := hget i hi
        rw [List.getElem?_map, h1] at h3
        have h4 : cur.getD i undef = .int .i64 (e x).den := by
          simp only [Option.map_some] at h3
          obtain ⟨q, h5⟩ := Array.getElem?_eq_some_iff.1 h3
          simp [Array.getD, q, h5]
        rw [h4]
        exact .int (hIR x (List.mem_of_getElem? h1))
theorem fn1_inv {w : World} {E : Env} {f : Fn} {d1 : D} {v : Value} (h : DRep w E (.fn f [] [d1]) v) : ∃ v1, v = .func f #[] #[v1] ∧ DRep w E d1 v1 := by
  cases h with
  | @fn E f l0 l1 a0 a1 hs0 hs1 h0 h1 =>
    obtain ⟨a0⟩ := a0
    obtain ⟨a1⟩ := a1
    match a0, a1, hs0, hs1 with
    | [], [v1], _, _ => exact ⟨v1, rfl, h1 0 d1 v1 rfl rfl⟩
/-- a call that leaves all as it was, and gives something new -/
theorem CallP.fresh {P : Program} {f : Nat} {args : List D} {H : List Bk} {K : D → List Bk → Prop} (d : D) (hh : Here P f)
    (hp : ∀ (B : Base) (w : World) (E : Env) (vs : Array Value), B.h0 ≤ H.length → LRep w E args vs → WRel B H E w → Calls P f vs w fun e w' => ∃ (v : Value) (G' : Nat → Prop), e = .returned v ∧ Below w.heap.size w w' ∧ (∀ b, G' b → w.heap.size ≤ b ∧ b < w'.heap.size) ∧ DRep w' (Env.of G') d v)
    (hk : K d H) : CallP P f args H K := by
  refine ⟨hh, fun B w E vs h0 hv hw => (hp B w E vs h0 hv hw).mono ?_⟩
  rintro e w' ⟨v, G', rfl, q2, q3, q4⟩
  have hsz := q2.size
  have k1 := hw.kept (G' := fun b => E.G b ∨ G' b) q2 (fun b hb => .inl hb) (fun b hb => hb.imp id fun q => (q3 b q).1) (fun b hb => by
    rcases hb with q | q
    · have := hw.good b q; omega
    · exact (q3 b q).2)
  exact ⟨v, _, d, H, rfl, k1, DRep.undata (E := ⟨fun b => E.G b ∨ G' b, E.σ, E.κ, E.ζ⟩) k1.wf (q4.move ⟨fun b hb => .inr hb, fun _ _ => rfl⟩ ⟨fun _ => Nat.le_refl _, fun _ _ => ⟨rfl, fun _ _ => rfl⟩⟩), hk⟩
theorem sorted_mapd {H : List Bk} {kb : Nat} {F : Int → Option Int} {n : IE} {K : D → List Bk → Prop} (ks : List Int) (hk : H[kb]? = some (.cells [.mapd .i64 .i64 F n])) (hF : ∀ x, x ∈ ks ↔ (F x).isSome = true) (hs : ks.Pairwise fun a b => a < b) (hn : n.den ≤ 1000) (hR : ∀ x ∈ ks, InR .i64 x)
    (hK : K (.slm 1 (some (.var ks.isEmpty)) intC ks) H) : CallP Try.prog 26 [.fn (.func 48) [] [.ptr kb 1 0]] H K := by
  refine CallP.fresh _ ⟨_, _, Try.func26, rfl, by kernel_rfl⟩ (fun B w E vs hh hl hw => ?_) hK
  obtain ⟨v, rfl, hv2⟩ := one_inv hl
  obtain ⟨v1, rfl, hd1⟩ := fn1_inv hv2
  have hblk := hw.heap kb _ hk
  cases hd1 with
  | ptrs hk' =>
    rcases hblk with ⟨z1, _⟩ | ⟨z1, _⟩
    · omega
    · simp only [Bk.ver] at z1; omega
  | @ptr _ _ _ _ c hk' hsg =>
    rcases hblk with ⟨_, z2⟩ | ⟨z1, z2, _⟩
    · rw [z2] at hsg; cases hsg
    obtain ⟨cs, t, y1, y2, y3, y4⟩ := z2 c hsg
    obtain ⟨u, y5, y6⟩ := y4 0 _ rfl
    have hcl : c < w.heap.size := (hw.own kb c hsg).2.1
    have hcell : w.cell? ⟨c, 0, none⟩ = some u := by rw [cell_of_row w c 0 cs t (0, 0) y1]; exact y5
    cases y6 with
    | @mapd _ _ _ _ _ c2 es clock hg hb hn' hm hv hh2 ha hc =>
      have hvals : ∀ e ∈ es.toList, ∃ x, e.key = .int .i64 x ∧ InR .i64 x ∧ x ∈ ks := fun e he => by
        obtain ⟨x, y, q1, q2, q3, _⟩ := hv e he
        exact ⟨x, q1, q2, (hF x).2 (by rw [q3]; rfl)⟩
      have hhas : ∀ x ∈ ks, ∃ e ∈ es.toList, e.key = .int .i64 x := fun x hx => by
        have := (hF x).1 hx
        cases hFx : F x with
        | none => rw [hFx] at this; cases this
        | some y => exact hh2 x y hFx
      refine (sorted_world w c c2 es clock ks hcell hcl hb (by omega) hvals hhas ha hc hs).mono ?_
      rintro e w' ⟨v, rfl, hrow, hnil, hb⟩
      obtain ⟨G', h1, h2⟩ := slm_of_row (w := w) (w' := w') (B := w.heap.size) (l := ks) (v := v) (fun n => IE.var n) (fun x hx => hR x hx) hrow hnil rfl
      exact ⟨v, G', rfl, hb, h1, h2⟩
theorem sorted_mg {H : List Bk} {kb : Nat} {S : Int → Bool} {n : IE} {K : D → List Bk → Prop} (ks : List Int) (hk : H[kb]? = some (.cells [.mg .i64 (boolF S) n])) (hF : ∀ x, x ∈ ks ↔ S x = true) (hs : ks.Pairwise fun a b => a < b) (hn : n.den ≤ 1000) (hR : ∀ x ∈ ks, InR .i64 x)
    (hK : K (.slm 1 (some (.var ks.isEmpty)) intC ks) H) : CallP Try.prog 26 [.fn (.func 46) [] [.ptr kb 1 0]] H K := by
  refine CallP.fresh _ ⟨_, _, Try.func26, rfl, by kernel_rfl⟩ (fun B w E vs hh hl hw => ?_) hK
  obtain ⟨v, rfl, hv2⟩ := one_inv hl
  obtain ⟨v1, rfl, hd1⟩ := fn1_inv hv2
  have hblk := hw.heap kb _ hk
  cases hd1 with
  | ptrs hk' =>
    rcases hblk with ⟨z1, _⟩ | ⟨z1, _⟩
    · omega
    · simp only [Bk.ver] at z1; omega
  | @ptr _ _ _ _ c hk' hsg =>
    rcases hblk with ⟨_, z2⟩ | ⟨z1, z2, _⟩
    · rw [z2] at hsg; cases hsg
    obtain ⟨cs, t, y1, y2, y3, y4⟩ := z2 c hsg
    obtain ⟨u, y5, y6⟩ := y4 0 _ rfl
    have hcl : c < w.heap.size := (hw.own kb c hsg).2.1
    have hcell : w.cell? ⟨c, 0, none⟩ = some u := by rw [cell_of_row w c 0 cs t (0, 0) y1]; exact y5
    obtain ⟨c2, es, clock, rfl, hg, hKA, hn', hm⟩ := mgb_inv y6
    have hvals : ∀ e ∈ es.toList, ∃ x, e.key = .int .i64 x ∧ InR .i64 x ∧ x ∈ ks := fun e he => by
      obtain ⟨x, q1, q2, q3, _⟩ := hKA.key e he
      exact ⟨x, q1, q2, (hF x).2 q3⟩
    have hhas : ∀ x ∈ ks, ∃ e ∈ es.toList, e.key = .int .i64 x := fun x hx => hKA.has x ((hF x).1 hx)
    refine (sorted_worldB w c c2 es clock ks hcell hcl hKA.blk (by omega) hvals hhas hKA.apart hKA.clock hs).mono ?_
    rintro e w' ⟨v, rfl, hrow, hnil, hb⟩
    obtain ⟨G', h1, h2⟩ := slm_of_row (w := w) (w' := w') (B := w.heap.size) (l := ks) (v := v) (fun n => IE.var n) (fun x hx => hR x hx) hrow hnil rfl
    exact ⟨v, G', rfl, hb, h1, h2⟩
end Go.Proofs.Ytdhfakajlnidiaa
namespace Go.Proofs.Ytdhfakajlnidiaa
open Go.RowKit

/-! Above, of the program. -/
/-- the numbers below n that have it -/
def numsL (n : Nat) (T : Int → Bool) : List Int := ((List.range n).filter fun i : Nat => T (i : Int)).map fun i : Nat => (i : Int)
theorem numsL_mem {n : Nat} {T : Int → Bool} {x : Int} : x ∈ numsL n T ↔ (0 ≤ x ∧ x < (n : Int)) ∧ T x = true := by
  unfold numsL
  simp only [List.mem_map, List.mem_filter, List.mem_range]
  constructor
  · rintro ⟨i, ⟨h1, h2⟩, rfl⟩
    exact ⟨⟨by omega, by omega⟩, h2⟩
  · rintro ⟨h1, h2⟩
    exact ⟨x.toNat, ⟨by omega, by rw [Int.toNat_of_nonneg h1.1]; exact h2⟩, by omega⟩
theorem numsL_sorted (n : Nat) (T : Int → Bool) : (numsL n T).Pairwise fun a b => a < b := by
  unfold numsL
  rw [List.pairwise_map]
  exact (List.Pairwise.filter _ List.pairwise_lt_range).imp fun h => by omega
theorem numsL_in {n : Nat} {T : Int → Bool} (hn : n ≤ 1000) : ∀ x ∈ numsL n T, InR .i64 x := fun x hx => by
  have := (numsL_mem.1 hx).1
  unfold InR IntKind.min IntKind.max
  simp [IntKind.signed, IntKind.bits]
  omega
theorem numsL_len (n : Nat) (T : Int → Bool) : (numsL n T).length = cnt n T := by
  unfold numsL cnt
  rw [List.length_map]
/-- keys of the layers are numbers of schemas -/
theorem fiStep_key {many : Nat} {n : Int} {s : FI × List Int} {u : Int} (hu : 0 ≤ u ∧ u < (many : Int)) (h1 : ∀ x, fiB s.1 x = true → 0 ≤ x ∧ x < (many : Int)) (h2 : ∀ x, x ∈ s.2 → 0 ≤ x ∧ x < (many : Int)) : (∀ x, fiB (fiStep n s u).1 x = true → 0 ≤ x ∧ x < (many : Int)) ∧ ∀ x, x ∈ (fiStep n s u).2 → 0 ≤ x ∧ x < (many : Int) := by
  unfold fiStep
  split
  · exact ⟨h1, h2⟩
  · refine ⟨fun x hx => ?_, fun x hx => ?_⟩
    · by_cases q : x = u
      · subst q; exact hu
      · refine h1 x ?_
        unfold fiB at hx ⊢
        simpa [q] using hx
    · rcases List.mem_append.1 hx with q | q
      · exact h2 x q
      · rw [List.mem_singleton.1 q]; exact hu
theorem fiRow_key {many : Nat} {n : Int} : ∀ {us : List Int} {s : FI × List Int}, (∀ u, u ∈ us → 0 ≤ u ∧ u < (many : Int)) → (∀ x, fiB s.1 x = true → 0 ≤ x ∧ x < (many : Int)) → (∀ x, x ∈ s.2 → 0 ≤ x ∧ x < (many : Int)) → (∀ x, fiB (fiRow n s us).1 x = true → 0 ≤ x ∧ x < (many : Int)) ∧ ∀ x, x ∈ (fiRow n s us).2 → 0 ≤ x ∧ x < (many : Int)
  | [], _, _, h1, h2 => ⟨h1, h2⟩
  | u :: us, s, hu, h1, h2 => by
    obtain ⟨g1, g2⟩ := fiStep_key (n := n) (hu u (by simp)) h1 h2
    exact fiRow_key (us := us) (s := fiStep n s u) (fun v hv => hu v (by simp [hv])) g1 g2
theorem fiRnd_key {many : Nat} {L : Nat → List Int} (hL : ∀ x, x < many → ∀ u, u ∈ L x → 0 ≤ u ∧ u < (many : Int)) {n : Int} : ∀ {layer : List Int} {s : FI × List Int}, (∀ x, x ∈ layer → 0 ≤ x ∧ x < (many : Int)) → (∀ x, fiB s.1 x = true → 0 ≤ x ∧ x < (many : Int)) → (∀ x, x ∈ s.2 → 0 ≤ x ∧ x < (many : Int)) →
    (∀ x, fiB (layer.foldl (fun s x => fiRow n s (L x.toNat)) s).1 x = true → 0 ≤ x ∧ x < (many : Int)) ∧ ∀ x, x ∈ (layer.foldl (fun s x => fiRow n s (L x.toNat)) s).2 → 0 ≤ x ∧ x < (many : Int)
  | [], _, _, h1, h2 => ⟨h1, h2⟩
  | y :: layer, s, hl, h1, h2 => by
    have hy := hl y (by simp)
    obtain ⟨g1, g2⟩ := fiRow_key (n := n) (hL y.toNat (by omega)) h1 h2
    exact fiRnd_key hL (layer := layer) (fun v hv => hl v (by simp [hv])) g1 g2
theorem fiAt_key {many : Nat} {L : Nat → List Int} (hL : ∀ x, x < many → ∀ u, u ∈ L x → 0 ≤ u ∧ u < (many : Int)) {to : Int} (hto : 0 ≤ to ∧ to < (many : Int)) : ∀ t, (∀ x, fiB (fiAt L to t).1 x = true → 0 ≤ x ∧ x < (many : Int)) ∧ ∀ x, x ∈ (fiAt L to t).2 → 0 ≤ x ∧ x < (many : Int)
  | 0 => ⟨fun x hx => (by cases hx), fun x hx => (by rw [List.mem_singleton.1 hx]; exact hto)⟩
  | t + 1 => by
    obtain ⟨g1, g2⟩ := fiAt_key hL hto t
    exact fiRnd_key hL g2 g1 (fun x hx => by cases hx)
def distS (S : SourceD) (to : Int) : FI := distF S.schemas.length (usesL (graphOf S)) to
def distNS (S : SourceD) (to : Int) : Nat := distN S.schemas.length (usesL (graphOf S)) to
theorem uses_ok {S : SourceD} : ∀ x, x < S.schemas.length → (usesL (graphOf S) x).length ≤ S.schemas.length ∧ ∀ u, u ∈ usesL (graphOf S) x → 0 ≤ u ∧ u < (S.schemas.length : Int) := fun x hx => by
  refine ⟨usesK_len _ _ _ _, fun u hu => ?_⟩
  obtain ⟨i, hi, rfl⟩ := usesK_in hu
  have : i < S.schemas.length := hi
  omega
structure SmallS (S : SourceD) : Prop where
  n : S.schemas.length ≤ 7
  r : S.rules.length ≤ 10
  f : ∀ r, r ∈ S.rules → r.froms.length ≤ 6
theorem few_small {S : SourceD} (h : fewB S = true) : SmallS S := by
  unfold fewB at h
  simp only [Bool.and_eq_true, List.all_eq_true, decide_eq_true_eq] at h
  exact ⟨h.2.1, h.2.2, h.1⟩
def aboveL (S : SourceD) (x : Int) : List Int := if numberedB S.schemas.length S.rules && numB S.schemas.length x then numsL S.schemas.length (fiB (distS S x)) else []
def aboveE (S : SourceD) (x : Int) : Int := if numberedB S.schemas.length S.rules then (if numB S.schemas.length x then 0 else 1) else 140
set_option maxHeartbeats 4000000 in
set_option maxRecDepth 100000 in
set_option maxHeartbeats 4000000 in
theorem Above_pure (S : SourceD) (h : SmallS S) (x : Int) : Pure Try.prog 13 [.agg S.c, i64 x] (.tup [.slm 1 (some (.var (aboveL S x).isEmpty)) intC (aboveL S x), i64 (aboveE S x)]) := by
  have hn7 := h.n
  have hread := (read_pure S (by omega) (by have := h.r; omega) (fun r hr => by have := h.f r hr; omega)).pure
  have huse : numberedB S.schemas.length S.rules = true → Pure Try.prog 24 [.agg (graphOf S).c] (.slm 1 (some (.var false)) UserD.c (usersL S.schemas.length (usesL (graphOf S)))) := fun hb => (users_pure (graphOf S) (by show S.schemas.length ≤ 100000; omega) (fun a b _ hn => (numbered_in hb hn).2)).pure
  have hst : numB S.schemas.length x = true → Pure Try.prog 25 [.agg (graphOf S).c, .slm 1 (some (.var false)) UserD.c (usersL S.schemas.length (usesL (graphOf S))), i64 x] (.mapd .i64 .i64 (distS S x) (.nat (distNS S x))) := fun hx => steps_pure (graphOf S) (usesL (graphOf S)) x S.schemas.length (by omega) (of_decide_eq_true hx) uses_ok
  have hkey : numB S.schemas.length x = true → ∀ y, y ∈ numsL S.schemas.length (fiB (distS S x)) ↔ (distS S x y).isSome = true := fun hx y => by
    rw [numsL_mem]
    exact ⟨fun h => h.2, fun h => ⟨(fiAt_key (fun z hz => (uses_ok z hz).2) (of_decide_eq_true hx) _).1 y h, h⟩⟩
  have hcn : distNS S x ≤ 1000 := by
    have : distNS S x ≤ S.schemas.length := cnt_le _ _
    omega
  have hsort := @sorted_mapd
  have hnum := gnumbered_pure S.schemas.length (graphF (graphOf S)) (graphOf S).m x
  have hG : (graphOf S).c = [.int .i64 (.nat S.schemas.length), .mg .i64 (graphF (graphOf S)) (.nat (graphOf S).m)] := rfl
  rw [hG] at huse hst
  have hr1 : numberedB S.schemas.length S.rules = true → Pure Try.prog 23 [.agg S.c] (.tup [.agg [.int .i64 (.nat S.schemas.length), .mg .i64 (graphF (graphOf S)) (.nat (graphOf S).m)], .int .i64 (.lit 0)]) := fun hb => by
    unfold readD at hread
    rw [hb, hG] at hread
    exact hread
  have hr0 : numberedB S.schemas.length S.rules = false → Pure Try.prog 23 [.agg S.c] (.tup [.agg [.int .i64 (.lit 0), .nilm], .int .i64 (.lit 140)]) := fun hb => by
    unfold readD at hread
    rw [hb] at hread
    exact hread
  clear hread hG
  obtain ⟨l, hl⟩ : ∃ l, l = aboveL S x := ⟨_, rfl⟩
  obtain ⟨e, he⟩ : ∃ e, e = aboveE S x := ⟨_, rfl⟩
  rw [← hl, ← he]
  unfold aboveL at hl
  unfold aboveE at he
  obtain ⟨U, hU⟩ : ∃ U, U = usersL S.schemas.length (usesL (graphOf S)) := ⟨_, rfl⟩
  rw [← hU] at huse hst
  obtain ⟨GF, hGF⟩ : ∃ U, U = graphF (graphOf S) := ⟨_, rfl⟩
  obtain ⟨gm, hgm⟩ : ∃ U, U = (graphOf S).m := ⟨_, rfl⟩
  rw [← hGF, ← hgm] at huse hst hr1 hnum
  obtain ⟨DS, hDS⟩ : ∃ U, U = distS S x := ⟨_, rfl⟩
  obtain ⟨DN, hDN⟩ : ∃ U, U = distNS S x := ⟨_, rfl⟩
  rw [← hDS] at hst hkey hl
  rw [← hDN] at hst hcn
  obtain ⟨nb, hnb⟩ : ∃ b, b = numB S.schemas.length x := ⟨_, rfl⟩
  rw [← hnb] at hnum hst hkey hl he
  obtain ⟨rb, hrb⟩ : ∃ b, b = numberedB S.schemas.length S.rules := ⟨_, rfl⟩
  rw [← hrb] at hr0 hr1 huse hl he
  obtain ⟨n, hn⟩ : ∃ n, n = S.schemas.length := ⟨_, rfl⟩
  rw [← hn] at hr1 huse hst hnum hl hkey hn7
  obtain ⟨ks, hks⟩ : ∃ ks, ks = numsL n (fiB DS) := ⟨_, rfl⟩
  have hks1 := numsL_sorted n (fiB DS)
  have hks2 := numsL_in (n := n) (T := fiB DS) (by omega)
  rw [← hks] at hl hkey hks1 hks2
  clear hU hGF hgm hDS hDN hnb hrb h hn hks
  obtain ⟨lb, hlb⟩ : ∃ lb, lb = l.isEmpty := ⟨_, rfl⟩
  rw [← hlb]
  obtain ⟨ni, is, nu, us, ns, ss, nr, rs, nc, cs, np, ps⟩ := S
  refine Pure.intro (want := [.slm 1 (some (.var lb)) intC l, i64 e]) T_ok follows Try.func13 rfl (by kernel_rfl) (rs := [.tmp 4, .tmp 5]) rfl (by kernel_rfl) ?_
  generalize hP : Try.prog = P at *
  have hT : T.ok P := hP ▸ T_ok
  have hm : P.follows .mixedOrders = true := hP ▸ follows
  unfold Try.f13
  dsimp only
  cbv
  cases rb with
  | false =>
    refine CallP.pure _ (hr0 rfl) rfl ?_
    cbv
    refine .mk (.cons (.eq (.nilv hl ?_)) (.cons (.eq (.int ?_)) .nil)) rfl
    · rw [BE.var_d, hlb, hl]; rfl
    · rw [IE.lit_d, IE.var_d, he]; rfl
  | true =>
    refine CallP.pure _ (hr1 rfl) rfl ?_
    cbv
    refine CallP.pure _ hnum rfl ?_
    cbv
    cases nb with
    | false =>
      refine SplitP.mk (fun hs => ?_) (fun hs => by cases hs)
      refine .mk (.cons (.eq (.nilv hl ?_)) (.cons (.eq (.int ?_)) .nil)) rfl
      · rw [BE.var_d, hlb, hl]; rfl
      · rw [IE.lit_d, IE.var_d, he]; rfl
    | true =>
      refine SplitP.mk (fun hs => by cases hs) (fun hs => ?_)
      clear hs
      have hks3 := hkey rfl
      obtain rfl : l = ks := hl
      refine PureP.mk _ (huse rfl) rfl ?_
      cbv
      first | refine CallP.pure _ (hst rfl) rfl ?_ | refine PureP.mk _ (hst rfl) rfl ?_
      cbv
      refine (CallP.inl hT hm (hP ▸ Try.func31) rfl (by kernel_rfl) (rs := [.tmp 2]) rfl (by kernel_rfl) ?_)
      unfold Try.f31
      dsimp only
      cbv
      refine hsort l rfl hks3 hks1 (by show (DN : Int) ≤ 1000; omega) hks2 ?_
      cbv
      refine .mk (.cons (.eq (.slmb ?_ rfl)) (.cons (.eq (.int ?_)) .nil)) rfl
      · rw [BE.var_d, BE.var_d, hlb]; rfl
      · rw [IE.lit_d, IE.var_d, he]; rfl
end Go.Proofs.Ytdhfakajlnidiaa
namespace Go.Proofs.Ytdhfakajlnidiaa
open Go.RowKit

/-! The order, in plain words: again and again the least one that needs only what was given out. -/
def needC (m : Nat) (nd : Int → Int → Bool) (dn : List Int) (a : Int) : Nat := cnt m fun b => nd a b && !dn.contains b
def readyB (m : Nat) (nd : Int → Int → Bool) (dn : List Int) (i : Nat) : Bool := !dn.contains (i : Int) && decide (needC m nd dn i = 0)
def nextR (m : Nat) (nd : Int → Int → Bool) (dn : List Int) : Option Nat := (List.range m).find? (readyB m nd dn)
def seqR (m : Nat) (nd : Int → Int → Bool) : Nat → List Int
  | 0 => []
  | k + 1 => match nextR m nd (seqR m nd k) with
    | none => seqR m nd k
    | some x => seqR m nd k ++ [(x : Int)]
def ordR (m : Nat) (nd : Int → Int → Bool) : List Int := seqR m nd m
section
variable {m : Nat} {nd : Int → Int → Bool}
theorem nextR_some {dn : List Int} {x : Nat} : nextR m nd dn = some x ↔ readyB m nd dn x = true ∧ x < m ∧ ∀ y, y < x → readyB m nd dn y = false := by
  unfold nextR
  rw [List.find?_range_eq_some]
  simp
theorem nextR_none {dn : List Int} : nextR m nd dn = none ↔ ∀ x, x < m → readyB m nd dn x = false := by
  unfold nextR
  rw [List.find?_eq_none]
  simp
theorem needC_zero {dn : List Int} {a : Int} : needC m nd dn a = 0 ↔ ∀ b : Nat, b < m → nd a b = true → (b : Int) ∈ dn := by
  unfold needC cnt
  rw [List.length_eq_zero_iff, List.filter_eq_nil_iff]
  simp
theorem readyB_t {dn : List Int} {x : Nat} : readyB m nd dn x = true ↔ (x : Int) ∉ dn ∧ ∀ b : Nat, b < m → nd x b = true → (b : Int) ∈ dn := by
  unfold readyB
  rw [Bool.and_eq_true, decide_eq_true_eq, needC_zero]
  simp
theorem cnt_drop {n : Nat} {T T' : Int → Bool} {x : Nat} (hx : x < n) (h : ∀ y : Int, T' y = (T y && !decide (y = (x : Int)))) : cnt n T = cnt n T' + if T x then 1 else 0 := by
  have h2 : cnt n T = if T' x then cnt n T' else cnt n T' + if T x then 1 else 0 := by
    have e : T' x = false := by rw [h]; simp
    rw [e]
    by_cases q : T x
    · have := cnt_ins (n := n) (T := T') (T' := T) hx fun y => by
        rw [h]
        by_cases e : y = (x : Int)
        · subst e; simp [q]
        · simp [e]
      rw [this, e]
      simp [q]
    · simp only [q]
      simp
      refine cnt_congr fun i _ => ?_
      rw [h]
      by_cases e : (i : Int) = (x : Int)
      · rw [e]; simp [q]
      · simp [e]
  rw [h2, show T' x = false by rw [h]; simp]
  simp
theorem needC_app {dn : List Int} {a : Int} {x : Nat} (hx : x < m) (hd : (x : Int) ∉ dn) : needC m nd dn a = needC m nd (dn ++ [(x : Int)]) a + if nd a x then 1 else 0 := by
  have := cnt_drop (n := m) (T := fun b => nd a b && !dn.contains b) (T' := fun b => nd a b && !(dn ++ [(x : Int)]).contains b) hx fun y => by
    rw [Bool.eq_iff_iff]
    simp [and_assoc]
  rw [show needC m nd dn a = _ from this]
  simp [hd, needC]
/-- what was given out: different numbers, each behind all that it needs -/
structure SInv (m : Nat) (nd : Int → Int → Bool) (dn : List Int) : Prop where
  nodup : dn.Nodup
  rng : ∀ x, x ∈ dn → ∃ i : Nat, i < m ∧ x = i
  closed : ∀ a, a ∈ dn → ∀ b : Nat, b < m → nd a b = true → (b : Int) ∈ dn
theorem SInv.len {dn : List Int} (h : SInv m nd dn) : dn.length ≤ m := by
  have hp : dn.Perm (numsL m fun x => dn.contains x) := (List.perm_ext_iff_of_nodup h.nodup ((numsL_sorted m _).imp fun h => by omega)).2 fun x => by
    rw [numsL_mem]
    simp
    intro hx
    obtain ⟨i, hi, rfl⟩ := h.rng x hx
    omega
  rw [hp.length_eq, numsL_len]
  exact cnt_le _ _
theorem SInv.next {dn : List Int} (h : SInv m nd dn) {x : Nat} (hx : nextR m nd dn = some x) : SInv m nd (dn ++ [(x : Int)]) := by
  obtain ⟨h1, h2, h3⟩ := nextR_some.1 hx
  obtain ⟨h4, h5⟩ := readyB_t.1 h1
  refine ⟨?_, fun y hy => ?_, fun a ha b hb hn => ?_⟩
  · rw [List.nodup_append]
    refine ⟨h.nodup, by simp, fun a ha b hb => ?_⟩
    simp at hb
    subst hb
    exact fun e => h4 (e ▸ ha)
  · rw [List.mem_append] at hy
    rcases hy with hy | hy
    · exact h.rng y hy
    · simp at hy
      exact ⟨x, h2, hy⟩
  · rw [List.mem_append] at ha ⊢
    rcases ha with ha | ha
    · exact .inl (h.closed a ha b hb hn)
    · simp at ha
      subst ha
      exact .inl (h5 b hb hn)
theorem seqR_inv : ∀ k, SInv m nd (seqR m nd k)
  | 0 => ⟨List.nodup_nil, (fun x hx => by cases hx), (fun a ha => by cases ha)⟩
  | k + 1 => by
    have ih := seqR_inv k
    unfold seqR
    split
    · exact ih
    · next x hx => exact ih.next hx
theorem seqR_stuck {k : Nat} (h : nextR m nd (seqR m nd k) = none) : ∀ j, seqR m nd (k + j) = seqR m nd k
  | 0 => rfl
  | j + 1 => by
    have ih := seqR_stuck h j
    show seqR m nd (k + j + 1) = _
    rw [seqR, ih, h]
theorem seqR_more (k : Nat) : ∀ j, ∃ t, seqR m nd (k + j) = seqR m nd k ++ t
  | 0 => ⟨[], by simp⟩
  | j + 1 => by
    obtain ⟨t, ht⟩ := seqR_more k j
    show ∃ t, seqR m nd (k + j + 1) = _
    rw [seqR]
    split
    · exact ⟨t, ht⟩
    · next x hx => exact ⟨t ++ [(x : Int)], by rw [ht, List.append_assoc]⟩
theorem seqR_len (k : Nat) : (seqR m nd k).length = k ∨ ((seqR m nd k).length < k ∧ nextR m nd (seqR m nd k) = none) := by
  induction k with
  | zero => exact .inl rfl
  | succ k ih =>
    cases hn : nextR m nd (seqR m nd k) with
    | none =>
      have e := seqR_stuck hn 1
      rw [e]
      refine .inr ⟨?_, hn⟩
      rcases ih with h | ⟨h, _⟩ <;> omega
    | some x =>
      rcases ih with h | ⟨_, h⟩
      · refine .inl ?_
        rw [seqR, hn]
        simp [h]
      · rw [hn] at h
        cases h
/-- at place k of the order -/
theorem seq_at {k : Nat} (hk : k ≤ (ordR m nd).length) : (seqR m nd k).length = k ∧ k ≤ m ∧ seqR m nd k = (ordR m nd).take k := by
  have hN := (seqR_inv (m := m) (nd := nd) m).len
  have hkm : k ≤ m := Nat.le_trans hk hN
  obtain ⟨t, ht⟩ := seqR_more (m := m) (nd := nd) k (m - k)
  rw [show k + (m - k) = m by omega] at ht
  have hl : (seqR m nd k).length = k := by
    rcases seqR_len (m := m) (nd := nd) k with h | ⟨h, h2⟩
    · exact h
    · have := seqR_stuck h2 (m - k)
      rw [show k + (m - k) = m by omega] at this
      unfold ordR at hk
      rw [this] at hk
      omega
  refine ⟨hl, hkm, ?_⟩
  unfold ordR
  rw [ht]
  conv => rhs; arg 1; rw [← hl]
  simp
theorem seq_next {k x : Nat} (hk : k ≤ (ordR m nd).length) (hx : nextR m nd (seqR m nd k) = some x) : k < (ordR m nd).length ∧ (ordR m nd)[k]? = some (x : Int) ∧ seqR m nd (k + 1) = seqR m nd k ++ [(x : Int)] := by
  obtain ⟨h1, h2, h3⟩ := seq_at hk
  have e : seqR m nd (k + 1) = seqR m nd k ++ [(x : Int)] := by rw [seqR, hx]
  have hm : k + 1 ≤ m := by
    have := (seqR_inv (m := m) (nd := nd) (k + 1)).len
    rw [e] at this
    simp [h1] at this
    exact this
  obtain ⟨t, ht⟩ := seqR_more (m := m) (nd := nd) (k + 1) (m - (k + 1))
  rw [show k + 1 + (m - (k + 1)) = m by omega, e] at ht
  have ho : ordR m nd = seqR m nd k ++ [(x : Int)] ++ t := ht
  refine ⟨?_, ?_, e⟩
  · rw [ho]; simp [h1]
  · rw [ho, List.append_assoc, List.getElem?_append_right (by omega), h1]
    simp
theorem seq_end {k : Nat} (hk : k ≤ (ordR m nd).length) (hx : nextR m nd (seqR m nd k) = none) : k = (ordR m nd).length := by
  obtain ⟨h1, h2, h3⟩ := seq_at hk
  have := seqR_stuck hx (m - k)
  rw [show k + (m - k) = m by omega] at this
  unfold ordR
  rw [this, h1]
/-! The algorithm: counts of open needs, and a queue of what is ready. -/
structure KInv (m : Nat) (nd : Int → Int → Bool) (dn : List Int) (op : Nat → Int) (L : List Int) : Prop where
  opn : ∀ x, x < m → op x = needC m nd dn x
  nodup : L.Nodup
  mem : ∀ z, z ∈ L ↔ ∃ i : Nat, i < m ∧ z = i ∧ readyB m nd dn i = true
theorem nodup_len {L : List Int} (hn : L.Nodup) (hr : ∀ z, z ∈ L → ∃ i : Nat, i < m ∧ z = i) : L.length ≤ m := by
  exact SInv.len (nd := fun _ _ => false) ⟨hn, hr, fun _ _ _ _ h => by cases h⟩
theorem KInv.len {dn : List Int} {op : Nat → Int} {L : List Int} (h : KInv m nd dn op L) : L.length ≤ m := nodup_len h.nodup fun z hz => by
  obtain ⟨i, h1, h2, _⟩ := (h.mem z).1 hz
  exact ⟨i, h1, h2⟩
theorem KInv.empty {dn : List Int} {op : Nat → Int} (h : KInv m nd dn op []) : nextR m nd dn = none := nextR_none.2 fun x hx => by
  rw [← Bool.not_eq_true]
  intro hr
  have := (h.mem x).2 ⟨x, hx, rfl, hr⟩
  cases this
theorem heap_least {L : List Int} (hh : IsHeap L) {z : Int} (hz : z ∈ L) : atL L 0 ≤ z := by
  obtain ⟨k, hk, rfl⟩ := List.getElem_of_mem hz
  have := HeapF.min hh k hk
  rw [show atL L k = L[k] from atL_get (List.getElem?_eq_getElem hk)] at this
  exact this
theorem KInv.pop {dn : List Int} {op : Nat → Int} {L : List Int} (h : KInv m nd dn op L) (hh : IsHeap L) (h0 : 0 < L.length) : ∃ x : Nat, atL L 0 = x ∧ nextR m nd dn = some x := by
  have hm : atL L 0 ∈ L := List.mem_of_getElem? (get_atL h0)
  obtain ⟨x, hx, e, hr⟩ := (h.mem _).1 hm
  refine ⟨x, e, nextR_some.2 ⟨hr, hx, fun y hy => ?_⟩⟩
  rw [← Bool.not_eq_true]
  intro hry
  have := heap_least hh ((h.mem y).2 ⟨y, by omega, rfl, hry⟩)
  omega
/-- in the midst of what needs x -/
structure MInv (m : Nat) (nd : Int → Int → Bool) (dn : List Int) (x : Nat) (U : List Int) (i : Nat) (op : Nat → Int) (L : List Int) : Prop where
  opn : ∀ y : Nat, y < m → op y = (needC m nd dn y : Int) - if (y : Int) ∈ U.take i then 1 else 0
  nodup : L.Nodup
  mem : ∀ z, z ∈ L ↔ ∃ j : Nat, j < m ∧ z = j ∧ (j : Int) ∉ dn ++ [(x : Int)] ∧ op j = 0
theorem MInv.len {dn : List Int} {x i : Nat} {U : List Int} {op : Nat → Int} {L : List Int} (h : MInv m nd dn x U i op L) : L.length ≤ m := nodup_len h.nodup fun z hz => by
  obtain ⟨i, h1, h2, _⟩ := (h.mem z).1 hz
  exact ⟨i, h1, h2⟩
theorem MInv.start {dn : List Int} {op : Nat → Int} {L L' : List Int} (h : KInv m nd dn op L) {x : Nat} (hp : ((x : Int) :: L').Perm L) (U : List Int) : MInv m nd dn x U 0 op L' := by
  have hn : ((x : Int) :: L').Nodup := hp.nodup_iff.2 h.nodup
  rw [List.nodup_cons] at hn
  refine ⟨fun y hy => by simp [h.opn y hy], hn.2, fun z => ?_⟩
  have hz := hp.mem_iff (a := z)
  rw [h.mem, List.mem_cons] at hz
  constructor
  · intro hzl
    obtain ⟨i, h1, h2, h3⟩ := hz.1 (.inr hzl)
    obtain ⟨h4, h5⟩ := (show (i : Int) ∉ dn ∧ needC m nd dn i = 0 by unfold readyB at h3; simpa using h3)
    refine ⟨i, h1, h2, ?_, by rw [h.opn i h1, h5]; rfl⟩
    rw [List.mem_append]
    rintro (q | q)
    · exact h4 q
    · simp at q
      rw [h2, q] at hzl
      exact hn.1 hzl
  · rintro ⟨j, h1, h2, h3, h4⟩
    rw [List.mem_append] at h3
    have h5 : needC m nd dn j = 0 := by have := h.opn j h1; omega
    rcases hz.2 ⟨j, h1, h2, by unfold readyB; simp only [Bool.and_eq_true, decide_eq_true_eq]; exact ⟨by simp; exact fun q => h3 (.inl q), h5⟩⟩ with q | q
    · exact absurd (by rw [← h2, q]; simp) (fun q2 : (j : Int) ∈ [(x : Int)] => h3 (.inr q2))
    · exact q
theorem MInv.done {dn : List Int} {x : Nat} {U : List Int} {op : Nat → Int} {L : List Int} (h : MInv m nd dn x U U.length op L) (hx : x < m) (hxd : (x : Int) ∉ dn) (hU : ∀ y : Nat, y < m → ((y : Int) ∈ U ↔ nd y x = true)) : KInv m nd (dn ++ [(x : Int)]) op L := by
  have ho : ∀ y : Nat, y < m → op y = needC m nd (dn ++ [(x : Int)]) y := fun y hy => by
    have h1 := h.opn y hy
    rw [List.take_length] at h1
    rw [h1, needC_app (nd := nd) hx hxd]
    by_cases q : nd y x = true
    · rw [if_pos ((hU y hy).2 q), if_pos q]; omega
    · rw [if_neg fun q2 => q ((hU y hy).1 q2), if_neg q]; omega
  refine ⟨ho, h.nodup, fun z => (h.mem z).trans ⟨?_, ?_⟩⟩
  · rintro ⟨j, h1, h2, h3, h4⟩
    refine ⟨j, h1, h2, ?_⟩
    unfold readyB
    simp only [Bool.and_eq_true, decide_eq_true_eq]
    exact ⟨by simpa using h3, by have := ho j h1; omega⟩
  · rintro ⟨j, h1, h2, h3⟩
    unfold readyB at h3
    simp only [Bool.and_eq_true, decide_eq_true_eq] at h3
    exact ⟨j, h1, h2, by simpa using h3.1, by rw [ho j h1, h3.2]; rfl⟩
/-- one that needs x is met: facts -/
theorem MInv.met {dn : List Int} {x i u : Nat} {U : List Int} {op : Nat → Int} {L : List Int} (h : MInv m nd dn x U i op L) (hs : SInv m nd dn) (hr : readyB m nd dn x = true) (hx : x < m) (hUn : U.Nodup) (hu : u < m) (hui : U[i]? = some (u : Int)) (hn : nd u x = true) :
    (u : Int) ∉ dn ++ [(x : Int)] ∧ op u = (needC m nd dn u : Int) ∧ 1 ≤ op u ∧ (u : Int) ∉ L := by
  obtain ⟨r1, r2⟩ := readyB_t.1 hr
  have h1 : (u : Int) ∉ dn ++ [(x : Int)] := by
    rw [List.mem_append]
    rintro (q | q)
    · exact r1 (hs.closed _ q x hx hn)
    · simp at q
      have e : u = x := by omega
      subst e
      exact r1 (r2 u hu hn)
  have h2 : (u : Int) ∉ U.take i := by
    intro q
    obtain ⟨j, hj, e⟩ := List.getElem_of_mem q
    rw [List.length_take] at hj
    rw [List.getElem_take] at e
    obtain ⟨hi, e2⟩ := List.getElem?_eq_some_iff.1 hui
    have := (List.getElem_inj hUn).1 (e.trans e2.symm)
    omega
  have h3 := h.opn u hu
  rw [if_neg h2, Int.sub_zero] at h3
  have h4 := needC_app (nd := nd) (a := u) hx r1
  rw [if_pos hn] at h4
  refine ⟨h1, h3, by omega, fun q => ?_⟩
  obtain ⟨j, _, e, _, hz⟩ := (h.mem _).1 q
  have : u = j := by omega
  subst this
  omega
theorem MInv.step {dn : List Int} {x i u : Nat} {U : List Int} {op op' : Nat → Int} {L L' : List Int} (h : MInv m nd dn x U i op L) (hUn : U.Nodup) (hu : u < m) (hui : U[i]? = some (u : Int))
    (hf : (u : Int) ∉ dn ++ [(x : Int)] ∧ op u = (needC m nd dn u : Int) ∧ 1 ≤ op u ∧ (u : Int) ∉ L) (ho : ∀ y, op' y = if y = u then op u - 1 else op y) (hL : if op u = 1 then L'.Perm (L ++ [(u : Int)]) else L' = L) : MInv m nd dn x U (i + 1) op' L' := by
  obtain ⟨h1, h2, h3, h4⟩ := hf
  obtain ⟨hi, e2⟩ := List.getElem?_eq_some_iff.1 hui
  have hni : ∀ y : Nat, (y : Int) ∈ U.take (i + 1) ↔ (y : Int) ∈ U.take i ∨ y = u := fun y => by
    rw [List.take_add_one, hui, List.mem_append]
    simp only [Option.toList_some, List.mem_singleton]
    exact or_congr Iff.rfl Int.ofNat_inj
  have hnu : (u : Int) ∉ U.take i := by
    intro q
    obtain ⟨j, hj, e⟩ := List.getElem_of_mem q
    rw [List.length_take] at hj
    rw [List.getElem_take] at e
    have := (List.getElem_inj hUn).1 (e.trans e2.symm)
    omega
  refine ⟨fun y hy => ?_, ?_, fun z => ?_⟩
  · rw [ho]
    by_cases q : y = u
    · subst q
      rw [if_pos rfl, if_pos ((hni y).2 (.inr rfl)), h2]
    · rw [if_neg q, h.opn y hy]
      by_cases q2 : (y : Int) ∈ U.take i
      · rw [if_pos q2, if_pos ((hni y).2 (.inl q2))]
      · rw [if_neg q2, if_neg fun q3 => by rcases (hni y).1 q3 with q4 | q4; exact q2 q4; exact q q4]
  · split at hL
    · rw [hL.nodup_iff, List.nodup_append]
      refine ⟨h.nodup, by simp, fun a ha b hb => ?_⟩
      simp at hb
      subst hb
      exact fun e => h4 (e ▸ ha)
    · rw [hL]; exact h.nodup
  · have old : (∃ j : Nat, j < m ∧ z = j ∧ (j : Int) ∉ dn ++ [(x : Int)] ∧ op' j = 0) ↔ z ∈ L ∨ (z = (u : Int) ∧ op u = 1) := by
      rw [h.mem]
      constructor
      · rintro ⟨j, q1, q2, q3, q4⟩
        rw [ho] at q4
        by_cases q : j = u
        · subst q
          rw [if_pos rfl] at q4
          exact .inr ⟨q2, by omega⟩
        · rw [if_neg q] at q4
          exact .inl ⟨j, q1, q2, q3, q4⟩
      · rintro (⟨j, q1, q2, q3, q4⟩ | ⟨q1, q2⟩)
        · refine ⟨j, q1, q2, q3, ?_⟩
          rw [ho, if_neg (fun q => by subst q; omega)]
          exact q4
        · exact ⟨u, hu, q1, h1, by rw [ho, if_pos rfl]; omega⟩
    rw [old]
    split at hL
    · next q =>
      rw [hL.mem_iff, List.mem_append]
      simp [q]
    · next q =>
      rw [hL]
      exact ⟨.inl, fun h => h.resolve_right fun h => q h.2⟩
end
end Go.Proofs.Ytdhfakajlnidiaa
namespace Go.Proofs.Ytdhfakajlnidiaa
open Go.RowKit Go.Shelf
attribute [local go_sem] Oper.semAt_some

theorem wp_eng {P : Program} {cx : Cx} {c d : Code} {fr : Fr} {H : List Bk} {K : Exit → Fr → List Bk → Prop} {Q : Exit → Act → World → Prop} {a : Act} {w : World} (B : Base) (E : Env) (hb : cx.nt = B.nt ∧ B.h0 ≤ cx.h0) (hc : CodeP P cx c fr H fun e fr H => e = .normal ∧ K e fr H) (hr : Rel B ⟨fr, H⟩ E a w)
    (hk : ∀ fr' H' E' a' w', K .normal fr' H' → Rel B ⟨fr', H'⟩ E' a' w' → d.wp P Q a' w') : (c.seq d).wp P Q a w := by
  refine wp_seq (Code.wp_mono ?_ (hc.run B E a w hb hr))
  rintro e a' w' ⟨fr', H', E', ⟨rfl, q1⟩, q2⟩
  exact hk fr' H' E' a' w' q1 q2
def itB (W : World) (G : Nat → Prop) : Base := ⟨W, G, 89, 0, fun w E => Laid w E.G, fun _ _ _ _ h1 _ h3 => h3.le h1, fun _ _ _ _ h => h, [], fun _ _ h => h⟩
def firstOf (c : Option Code) : Code := match c with
  | some (.seq c _) => c
  | _ => .skip
set_option maxRecDepth 100000 in
set_option maxHeartbeats 4000000 in
theorem it50_r0 (l many m : Nat) (hm : many ≤ 10000) (F : Int → Option D) (U : List UserD) (hus : Pure Try.prog 24 [.agg [.int .i64 (.nat many), .mg .i64 F (.nat m)]] (.slm 1 (some (.var false)) UserD.c U)) :
    CodeP Try.prog ⟨T, 89, 0⟩ (firstOf Try.f50.body) [(0, .fn (.yield l) [] []), (1, .dp [.int .i64 (.nat many), .mg .i64 F (.nat m)] 0)] [] fun e fr H => e = .normal ∧ (fr.get 0 = .fn (.yield l) [] [] ∧ fr.get 1 = .dp [.int .i64 (.nat many), .mg .i64 F (.nat m)] 0 ∧ fr.get 3 = .slm 1 (some (.var false)) UserD.c U ∧ fr.get 4 = .osl 1 0 1 (.lit false) (.lit 0) (.nat many) ∧ H = [.row 3 1 1 (.rep (.nat many) [.int .i64 (.lit 0)])]) := by
  have hT : T.ok Try.prog := T_ok
  have hmx : Try.prog.follows .mixedOrders = true := follows
  refine vc_sound hT hmx _ ?_
  unfold firstOf Try.f50
  dsimp only
  generalize Try.prog = P at *
  cbv
  refine PureP.mk _ hus rfl ?_
  cbv
  refine ReqP.mk ⟨by show (0 : Int) ≤ (many : Int); omega, Int.le_refl _, by show (many : Int) ≤ _; omega, by show (8 : Int) * (many : Int) ≤ _; omega⟩ (fun _ => ?_)
  rfl
/-! What the walk keeps. -/
structure ItS (S0 : Nat) (W0 : World) (GU : Nat → Prop) (bo bq cap many : Nat) (op : Nat → Int) (L : List Int) (v : Value) (C : Nat → Prop) (A W : World) : Prop where
  quiet : QuietC S0 C A W
  opn : ∃ cs, Blk W bo cs 3 ∧ cs.size = cap ∧ ∀ x, x < many → cs[x]? = some (.int .i64 (op x))
  q : QAt W bq v L
  heap : IsHeap L
  fr : ∀ b, GU b → b < W0.heap.size ∧ W.heap[b]? = W0.heap[b]?
  off : ∀ b, C b → b < A.heap.size ∧ b ≠ bo ∧ b ≠ bq ∧ some b ≠ v.ownBlock ∧ ¬ GU b
  gu : ∀ b, GU b → b ≠ bo ∧ b ≠ bq ∧ some b ≠ v.ownBlock
  own : ∀ b, some b = v.ownBlock → S0 ≤ b ∧ b ≠ bo
  ne : bo ≠ bq ∧ S0 ≤ bo ∧ S0 ≤ bq
section
variable {S0 : Nat} {W0 : World} {GU : Nat → Prop} {bo bq cap many : Nat} {op : Nat → Int} {L : List Int} {v : Value} {C : Nat → Prop} {A W : World}
theorem ItS.bqlt (h : ItS S0 W0 GU bo bq cap many op L v C A W) : bq < W.heap.size := by
  obtain ⟨t, ht⟩ := h.q.1
  exact (Array.getElem?_eq_some_iff.1 ht).1
theorem ItS.queue (h : ItS S0 W0 GU bo bq cap many op L v C A W) {W' : World} {L' : List Int} {v' : Value} (hk : QKept W W' bq v v') (hq : QAt W' bq v' L') (hh : IsHeap L') : ItS S0 W0 GU bo bq cap many op L' v' C A W' := by
  have hCs : ∀ b, C b → b < W.heap.size := fun b hb => there (h.quiet.block b (h.off b hb).1 (.inr hb)) (h.off b hb).1
  have hSl : ∀ b, b < A.heap.size → b < S0 → b < W.heap.size := fun b hb hs => there (h.quiet.block b hb (.inl hs)) hb
  have hbq := h.bqlt
  obtain ⟨cs, hB, hs, hc⟩ := h.opn
  have hbo := hB.lt
  obtain ⟨n1, n2, n3⟩ := h.ne
  have hGs : ∀ b, GU b → b < W.heap.size := fun b hb => there (h.fr b hb).2 (h.fr b hb).1
  refine ⟨⟨hk.os.trans h.quiet.os, hk.tape.trans h.quiet.tape, hk.output.trans h.quiet.output, fun b hb hc => ?_⟩, ⟨cs, (hk.block bo hbo n1 fun e => (h.own bo e).2 rfl).trans hB, hs, hc⟩, hq, hh, fun b hb => ?_, fun b hb => ?_, fun b hb => ?_, fun b hb => ?_, h.ne⟩
  · rw [hk.block b (there (h.quiet.block b hb hc) hb) ?_ ?_]
    · exact h.quiet.block b hb hc
    · rcases hc with q | q
      · omega
      · exact (h.off b q).2.2.1
    · rcases hc with q | q
      · exact fun e => by have := (h.own b e).1; omega
      · exact (h.off b q).2.2.2.1
  · obtain ⟨g1, g2, g3⟩ := h.gu b hb
    obtain ⟨f1, f2⟩ := h.fr b hb
    exact ⟨f1, (hk.block b (hGs b hb) g2 g3).trans f2⟩
  · obtain ⟨o1, o2, o3, o4, o5⟩ := h.off b hb
    refine ⟨o1, o2, o3, fun e => ?_, o5⟩
    rcases hk.new b e with q | q
    · exact o4 q
    · have := hCs b hb; omega
  · obtain ⟨g1, g2, g3⟩ := h.gu b hb
    refine ⟨g1, g2, fun e => ?_⟩
    rcases hk.new b e with q | q
    · exact g3 q
    · have := hGs b hb; omega
  · rcases hk.new b hb with q | q
    · exact h.own b q
    · exact ⟨by omega, by omega⟩
theorem ItS.store (h : ItS S0 W0 GU bo bq cap many op L v C A W) {u : Nat} {z : Int} {op' : Nat → Int} (hu : u < many) (ho : ∀ y, op' y = if y = u then z else op y) : ItS S0 W0 GU bo bq cap many op' L v C A (W.setCell ⟨bo, u, none⟩ (.int .i64 z)) := by
  have hs : ∀ b, b ≠ bo → (W.setCell ⟨bo, u, none⟩ (.int .i64 z)).heap[b]? = W.heap[b]? := fun b hb => Below.heap_setCell W _ _ b hb
  obtain ⟨cs, hB, hcs, hc⟩ := h.opn
  obtain ⟨n1, n2, n3⟩ := h.ne
  refine ⟨⟨h.quiet.os, h.quiet.tape, h.quiet.output, fun b hb hc => (hs b ?_).trans (h.quiet.block b hb hc)⟩, ⟨_, hB.set u _, by simpa using hcs, fun x hx => ?_⟩, ?_, h.heap, fun b hb => ⟨(h.fr b hb).1, (hs b (h.gu b hb).1).trans (h.fr b hb).2⟩, h.off, h.gu, h.own, h.ne⟩
  · rcases hc with q | q
    · omega
    · exact (h.off b q).2.1
  · rw [ho]
    by_cases q : x = u
    · subst q
      have : x < cs.size := (Array.getElem?_eq_some_iff.1 (hc x hx)).1
      simp [this]
    · rw [if_neg q, Array.getElem?_setIfInBounds_ne (by omega)]
      exact hc x hx
  · obtain ⟨⟨t, q1⟩, q2, q3⟩ := h.q
    refine ⟨⟨t, (hs bq (fun e => n1 e.symm)).trans q1⟩, q2, q3.imp id ?_⟩
    rintro ⟨g, cp, cur, rfl, h1, h2, h3⟩
    exact ⟨g, cp, cur, rfl, h1, (hs g (h.own g rfl).2).trans h2, h3⟩
theorem ItS.yield (h : ItS S0 W0 GU bo bq cap many op L v C A W) {W' : World} {C' : Nat → Prop} (hk : KeepsBut C W W') (hC : ∀ b, C' b → (C b ∨ W.heap.size ≤ b) ∧ b < W'.heap.size) : ItS S0 W0 GU bo bq cap many op L v C' W' W' := by
  have hbq := h.bqlt
  obtain ⟨cs, hB, hs, hc⟩ := h.opn
  have hbo := hB.lt
  have hGs : ∀ b, GU b → b < W.heap.size := fun b hb => there (h.fr b hb).2 (h.fr b hb).1
  have hol : ∀ b, some b = v.ownBlock → b < W.heap.size := fun b e => by
    rcases h.q.2.2 with ⟨rfl, _⟩ | ⟨g, cp, cur, rfl, h1, h2, h3⟩
    · cases e
    · cases e
      exact (Array.getElem?_eq_some_iff.1 h2).1
  refine ⟨QuietC.refl _ _ _, ⟨cs, (hk.block bo hbo fun q => (h.off bo q).2.1 rfl).trans hB, hs, hc⟩, ?_, h.heap, fun b hb => ⟨(h.fr b hb).1, (hk.block b (hGs b hb) fun q => (h.off b q).2.2.2.2 hb).trans (h.fr b hb).2⟩, fun b hb => ?_, h.gu, h.own, h.ne⟩
  · obtain ⟨⟨t, q1⟩, q2, q3⟩ := h.q
    refine ⟨⟨t, (hk.block bq hbq fun q => (h.off bq q).2.2.1 rfl).trans q1⟩, q2, q3.imp id ?_⟩
    rintro ⟨g, cp, cur, rfl, h1, h2, h3⟩
    exact ⟨g, cp, cur, rfl, h1, (hk.block g (hol g rfl) fun q => (h.off g q).2.2.2.1 rfl).trans h2, h3⟩
  · obtain ⟨q1, q2⟩ := hC b hb
    rcases q1 with q | q
    · exact ⟨q2, (h.off b q).2⟩
    · refine ⟨q2, by omega, by omega, fun e => by have := hol b e; omega, fun g => by have := hGs b g; omega⟩
theorem QAt.slice {bq : Nat} {v : Value} {L : List Int} {W : World} (h : QAt W bq v L) : ∃ a c, v = .slice a L.length c := by
  rcases h.2.2 with ⟨rfl, rfl⟩ | ⟨g, cp, cur, rfl, _⟩
  · exact ⟨_, _, rfl⟩
  · exact ⟨_, _, rfl⟩
end
/-- who needs whom turned round, as it lies -/
def UsersAt (w : World) (GU : Nat → Prop) (v3 : Value) (many : Nat) (us : Nat → List Int) : Prop :=
  ∃ a3 c3, v3 = .slice a3 many c3 ∧ ∀ x, x < many → ∃ bl ol ai ci, a3 = some ⟨bl, ol, none⟩ ∧ GU bl ∧ w.cell? ⟨bl, ol + x, none⟩ = some (.slice ai (us x).length ci) ∧
    ∀ (i : Nat) z, (us x)[i]? = some z → ∃ bi oi, ai = some ⟨bi, oi, none⟩ ∧ GU bi ∧ w.cell? ⟨bi, oi + i, none⟩ = some (.int .i64 z)
theorem UsersAt.still {w w' : World} {GU : Nat → Prop} {v3 : Value} {many : Nat} {us : Nat → List Int} (h : UsersAt w GU v3 many us) (hb : ∀ b, GU b → w'.heap[b]? = w.heap[b]?) : UsersAt w' GU v3 many us := by
  have hc : ∀ b o, GU b → w'.cell? ⟨b, o, none⟩ = w.cell? ⟨b, o, none⟩ := fun b o hg => by unfold World.cell?; rw [hb b hg]
  obtain ⟨a3, c3, e, h⟩ := h
  refine ⟨a3, c3, e, fun x hx => ?_⟩
  obtain ⟨bl, ol, ai, ci, q1, q2, q3, q4⟩ := h x hx
  refine ⟨bl, ol, ai, ci, q1, q2, (hc _ _ q2).trans q3, fun i z hz => ?_⟩
  obtain ⟨bi, oi, r1, r2, r3⟩ := q4 i z hz
  exact ⟨bi, oi, r1, r2, (hc _ _ r2).trans r3⟩
theorem usersAt_of {w : World} {E : Env} {v3 : Value} {many : Nat} {us : Nat → List Int} (h : DRep w E (.slm 1 (some (.var false)) UserD.c (usersL many us)) v3) : UsersAt w E.G v3 many us := by
  have hl : (usersL many us).length = many := by simp [usersL]
  generalize hd : D.slm 1 (some (.var false)) UserD.c (usersL many us) = d at h
  cases h with
  | @slm E α n nb c l a cp u hnb hc hm hx ha hh =>
    cases hd
    refine ⟨a, cp, by rw [hl], fun x hx => ?_⟩
    have hne : usersL many us ≠ [] := fun e => by rw [e] at hl; simp at hl; omega
    obtain ⟨bl, ol, rfl, hg, hcl⟩ := ha hne
    have hux : (usersL many us)[x]? = some ⟨(us x).isEmpty, us x⟩ := by unfold usersL; rw [List.getElem?_map, List.getElem?_range hx]; rfl
    have h1 := hh x _ 0 _ hux rfl
    have h2 := hcl x 0 (by omega) (by omega)
    rw [show ol + x * 1 + 0 = ol + x by omega] at h2
    generalize u x 0 = uv at h1 h2
    generalize hd2 : D.slm 1 (some (.var (us x).isEmpty)) intC (us x) = d2 at h1
    cases h1 with
    | @slm E2 α2 n2 nb2 c2 l2 a2 cp2 u2 hnb2 hc2 hm2 hx2 ha2 hh2 =>
      cases hd2
      refine ⟨bl, ol, a2, cp2, rfl, hg, h2, fun i z hz => ?_⟩
      have hi : i < (us x).length := (List.getElem?_eq_some_iff.1 hz).1
      obtain ⟨bi, oi, rfl, hg2, hcl2⟩ := ha2 (fun e => by rw [e] at hi; cases hi)
      have h3 := hcl2 i 0 hi (by omega)
      rw [show oi + i * 1 + 0 = oi + i by omega] at h3
      have h4 := hh2 i z 0 _ hz rfl
      generalize u2 i 0 = zz at h3 h4
      cases h4
      exact ⟨bi, oi, rfl, hg2, h3⟩
    | _ => cases hd2
  | _ => cases hd
end Go.Proofs.Ytdhfakajlnidiaa
namespace Go.Proofs.Ytdhfakajlnidiaa
open Go.RowKit Go.Shelf
attribute [local go_sem] Oper.semAt_some

/-! The walk of the iterator, from behind its first region. -/
theorem cnt_part {T1 T2 T3 : Int → Bool} : ∀ n : Nat, (∀ i : Nat, i < n → (if T1 i then 1 else 0) + (if T2 i then 1 else 0) + (if T3 i then 1 else 0) = 1) → cnt n T1 + cnt n T2 + cnt n T3 = n
  | 0, _ => rfl
  | n + 1, h => by
    have ih := cnt_part n fun i hi => h i (by omega)
    have h1 := h n (by omega)
    rw [cnt_succ, cnt_succ, cnt_succ]
    omega
theorem mem_cnt {m : Nat} {L : List Int} {T : Int → Bool} (hn : L.Nodup) (hm : ∀ z, z ∈ L ↔ ∃ i : Nat, i < m ∧ z = i ∧ T i = true) : L.length = cnt m T := by
  have hp : L.Perm (numsL m T) := (List.perm_ext_iff_of_nodup hn ((numsL_sorted m _).imp fun h => by omega)).2 fun x => by
    rw [numsL_mem, hm]
    constructor
    · rintro ⟨i, h1, rfl, h2⟩
      exact ⟨⟨by omega, by omega⟩, h2⟩
    · rintro ⟨⟨h1, h2⟩, h3⟩
      exact ⟨x.toNat, by omega, by omega, by rw [show ((x.toNat : Nat) : Int) = x by omega]; exact h3⟩
  rw [hp.length_eq, numsL_len]
theorem KInv.size {m : Nat} {nd : Int → Int → Bool} {dn : List Int} {op : Nat → Int} {L : List Int} (h : KInv m nd dn op L) (hs : SInv m nd dn) : cnt m (fun x => decide (0 < op x.toNat)) + L.length + dn.length = m := by
  have h1 := mem_cnt (T := fun x => readyB m nd dn x.toNat) h.nodup fun z => by simpa using h.mem z
  have h2 := mem_cnt (T := fun x => dn.contains x) hs.nodup fun z => by
    constructor
    · intro hz
      obtain ⟨i, q1, q2⟩ := hs.rng z hz
      exact ⟨i, q1, q2, by rw [← q2]; simpa using hz⟩
    · rintro ⟨i, _, rfl, q⟩
      simpa using q
  rw [h1, h2]
  refine cnt_part m fun i hi => ?_
  have ho := h.opn i hi
  simp only [Int.toNat_natCast, ho]
  have hr : readyB m nd dn i = (!dn.contains (i : Int) && decide (needC m nd dn i = 0)) := rfl
  simp only [hr]
  by_cases q : (i : Int) ∈ dn
  · have hz : needC m nd dn i = 0 := needC_zero.2 (hs.closed _ q)
    simp [q, hz]
  · by_cases z : needC m nd dn i = 0
    · simp [q, z]
    · have : 0 < needC m nd dn i := by omega
      simp [q, z, this]
/-- the measure: what is open, and what is in the queue -/
def leftM (bo bq many : Nat) (w : World) : Nat :=
  cnt many (fun x => match w.cell? ⟨bo, x.toNat, none⟩ with | some (.int .i64 z) => decide (0 < z) | _ => false) + match w.cell? ⟨bq, 0, none⟩ with | some (.slice _ n _) => n | _ => 0
theorem ItS.left {S0 : Nat} {W0 : World} {GU : Nat → Prop} {bo bq cap many : Nat} {op : Nat → Int} {L : List Int} {v : Value} {C : Nat → Prop} {A W : World} (h : ItS S0 W0 GU bo bq cap many op L v C A W) {nd : Int → Int → Bool} {dn : List Int} (hk : KInv many nd dn op L) (hs : SInv many nd dn) : leftM bo bq many W = many - dn.length := by
  have := hk.size hs
  obtain ⟨cs, hB, _, hc⟩ := h.opn
  obtain ⟨a, c, rfl⟩ := h.q.slice
  obtain ⟨t, ht⟩ := h.q.1
  have e1 : W.cell? ⟨bq, 0, none⟩ = some (.slice a L.length c) := by simp [World.cell?, ht]
  have e2 : cnt many (fun x => match W.cell? ⟨bo, x.toNat, none⟩ with | some (.int .i64 z) => decide (0 < z) | _ => false) = cnt many (fun x => decide (0 < op x.toNat)) := cnt_congr fun i hi => by
    have h1 := (hB.cell i).trans (hc i hi)
    simp only [Int.toNat_natCast]
    rw [h1]
  unfold leftM
  rw [e1, e2]
  show cnt many (fun x => decide (0 < op x.toNat)) + L.length = _
  omega
/-- what the graph's box leads to -/
structure GraphAt (w : World) (G : Nat → Prop) (g : GraphD) (b1 o1 c0 : Nat) (es0 : Array MapEntry) (cl0 : Nat) : Prop where
  g1 : G b1
  c1 : w.cell? ⟨b1, o1, none⟩ = some (.int .i64 (g.many : Int))
  c2 : w.cell? ⟨b1, o1 + 1, none⟩ = some (.map (some c0))
  blk : w.heap[c0]? = some (.map es0 cl0)
  g0 : G c0
  at_ : ∀ y : Int, (g.hd y = false ∧ Instr.findNow (.int .i64) (.int .i64 y) es0.toList 0 = some none) ∨
    ∃ (j c : Nat) (es : Array MapEntry) (cl : Nat), g.hd y = true ∧ Instr.findNow (.int .i64) (.int .i64 y) es0.toList 0 = some (some (j, .map (some c))) ∧ G c ∧ w.heap[c]? = some (.map es cl) ∧ es.size = g.cn y
theorem graphAt {w : World} {E : Env} {g : GraphD} {v : Value} (h : DRep w E (.dp g.c 0) v) : ∃ b1 o1 c0 es0 cl0, v = .pointer (some ⟨b1, o1, none⟩) ∧ GraphAt w E.G g b1 o1 c0 es0 cl0 := by
  generalize hd : D.dp g.c 0 = d at h
  cases h with
  | @dp E cells off b base u hg hu hh =>
    cases hd
    have k0 := hh 0 _ rfl
    have k1 := hh 1 _ rfl
    have u0 := hu 0 (by show 0 < 2; decide)
    have u1 := hu 1 (by show 1 < 2; decide)
    generalize u 0 = v0 at k0 u0
    generalize u 1 = v1 at k1 u1
    cases k0
    cases k1 with
    | @mg _ _ _ _ c es clock hg' hb hn hm hk hh' ha hc hv =>
      refine ⟨b, base, c, es, clock, rfl, hg, u0, u1, hb, hg', fun y => ?_⟩
      have hM : MapOK w E.data .i64 es.toList clock (graphF g) := ⟨fun e he => by
        obtain ⟨x, d, h1, h2, h3⟩ := hk e he
        exact ⟨x, d, h1, h2, h3, hv e x d he h1 h3⟩, hh', ha, hc⟩
      rcases map_find hM y with ⟨h1, h2⟩ | ⟨j, e, d, h1, h2, h3, h4, h5⟩
      · refine .inl ⟨?_, h2⟩
        unfold graphF at h1
        split at h1
        · cases h1
        · simp_all
      · have hy : g.hd y = true := by
          unfold graphF at h4
          split at h4
          · assumption
          · cases h4
        unfold graphF at h4
        rw [if_pos hy] at h4
        cases h4
        obtain ⟨c', es', cl', q1, q2, q3, q4, _⟩ := mgb_inv h5
        rw [q1] at h1
        have q4' : (es'.size : Int) = (g.cn y : Int) := q4
        exact .inr ⟨j, c', es', cl', hy, h1, q2, q3.blk, by omega⟩
  | _ => cases hd
theorem GraphAt.still {w w' : World} {G : Nat → Prop} {g : GraphD} {b1 o1 c0 : Nat} {es0 : Array MapEntry} {cl0 : Nat} (h : GraphAt w G g b1 o1 c0 es0 cl0) (hb : ∀ b, G b → w'.heap[b]? = w.heap[b]?) : GraphAt w' G g b1 o1 c0 es0 cl0 := by
  have hc : ∀ b o, G b → w'.cell? ⟨b, o, none⟩ = w.cell? ⟨b, o, none⟩ := fun b o hg => by unfold World.cell?; rw [hb b hg]
  refine ⟨h.g1, (hc _ _ h.g1).trans h.c1, (hc _ _ h.g1).trans h.c2, (hb _ h.g0).trans h.blk, h.g0, fun y => ?_⟩
  rcases h.at_ y with q | ⟨j, c, es, cl, q1, q2, q3, q4, q5⟩
  · exact .inl q
  · exact .inr ⟨j, c, es, cl, q1, q2, q3, (hb _ q3).trans q4, q5⟩
end Go.Proofs.Ytdhfakajlnidiaa
namespace Go.Proofs.Ytdhfakajlnidiaa
open Go.RowKit Go.Shelf
attribute [local go_sem] Oper.semAt_some

theorem inr_nat14 {n : Nat} (h : n ≤ 9223372036854775807) : InR .i64 (n : Int) := by
  show IntKind.i64.min ≤ (n : Int) ∧ (n : Int) ≤ IntKind.i64.max
  simp [IntKind.min, IntKind.max, IntKind.signed, IntKind.bits]
  omega
theorem u3' : Try.prog.underlying 3 = some (.int .i64) := by kernel_rfl
theorem cons_of_len {n : Nat} {l : List Value} (h : l.length = n + 1) : ∃ x t, l = x :: t ∧ t.length = n := by
  cases l with
  | nil => cases h
  | cons x t => exact ⟨x, t, rfl, by simpa using h⟩
theorem it50_raw {W : World} {G : Nat → Prop} {E : Env} {a : Act} {w : World} {fr : Fr} {l : Nat} {g : GraphD} {us : Nat → List Int} (f0 : fr.get 0 = .fn (.yield l) [] []) (f1 : fr.get 1 = .dp g.c 0)
    (f3 : fr.get 3 = .slm 1 (some (.var false)) UserD.c (usersL g.many us)) (f4 : fr.get 4 = .osl 1 0 1 (.lit false) (.lit 0) (.nat g.many)) (hr : Rel (itB W G) ⟨fr, [.row 3 1 1 (.rep (.nat g.many) [.int .i64 (.lit 0)])]⟩ E a w) :
    a.tmps.size = 89 ∧ a.defers = [] ∧ a.tmps.getD 0 undef = .func (.yield l) #[] #[] ∧ (∃ b1 o1 c0 es0 cl0, a.tmps.getD 1 undef = .pointer (some ⟨b1, o1, none⟩) ∧ GraphAt w E.G g b1 o1 c0 es0 cl0) ∧ UsersAt w E.G (a.tmps.getD 3 undef) g.many us ∧
      (∃ bo cap cs, a.tmps.getD 4 undef = .slice (some ⟨bo, 0, none⟩) g.many cap ∧ Blk w bo cs 3 ∧ cs.size = cap ∧ (∀ x, x < g.many → cs[x]? = some (.int .i64 0)) ∧ ¬ E.G bo ∧ W.heap.size ≤ bo) ∧
      (∀ b, E.G b → b < w.heap.size) ∧ (∀ b, E.G b → G b ∨ W.heap.size ≤ b) ∧ Below W.heap.size W w := by
  have d0 := hr.fr 0
  have d1 := hr.fr 1
  have d3 := hr.fr 3
  have d4 := hr.fr 4
  simp only at d0 d1 d3 d4
  rw [f0] at d0
  rw [f1] at d1
  rw [f3] at d3
  rw [f4] at d4
  refine ⟨hr.sz, hr.df, ?_, graphAt d1, usersAt_of d3, ?_, hr.wr.good, hr.wr.gn, hr.wr.bel⟩
  · generalize a.tmps.getD 0 undef = v at d0
    cases d0 with
    | fn s0 s1 _ _ =>
      rw [Array.eq_empty_of_size_eq_zero s0.symm, Array.eq_empty_of_size_eq_zero s1.symm]
  · have hh := hr.wr.heap 0 _ rfl
    have hown := hr.wr.own 0
    generalize a.tmps.getD 4 undef = v at d4
    generalize hd : D.osl 1 0 1 (.lit false) (.lit 0) (.nat g.many) = d at d4
    cases d4 with
    | @oslc _ n b vr nb' lo len c m cap hk hσ1 hnb hl hn hcc hm hsz =>
      cases hd
      obtain rfl : m = g.many := by
        have : (g.many : Int) = (m : Int) := hn
        omega
      rcases hh with ⟨q, _⟩ | ⟨_, q, _⟩
      · omega
      obtain ⟨cs, t, ht, h1, h2, _, h4⟩ := q c hσ1
      obtain rfl : t = 3 := by
        rcases ht with q | q
        · exact absurd q (by decide)
        · exact q
      obtain ⟨o1, o2, o3⟩ := hown c hσ1
      have hsz' : (0 + cap) * 1 = E.ζ 0 := hsz
      refine ⟨c, cap, cs, rfl, h1, by omega, fun x hx => ?_, o3, o1⟩
      obtain ⟨_, h5⟩ := h4 x [.int .i64 (.lit 0)] (by
        have : (RE.rep (.nat g.many) [D.int .i64 (.lit 0)]).den = List.replicate g.many [.int .i64 (.lit 0)] := by simp [RE.den, IE.den]
        rw [this, List.getElem?_replicate, if_pos hx])
      obtain ⟨u, hu, hru⟩ := h5 0 _ rfl
      cases hru
      simpa [IE.den] using hu
    | osln hk hs hnb hl hn =>
      cases hd
      cases hnb
    | osls hk =>
      cases hd
      rcases hh with ⟨q, _⟩ | ⟨q, _⟩
      · omega
      · have : E.κ 0 = 1 := q
        omega
    | _ => cases hd
theorem usesK_mem {hd : Int → Bool} {nd : Int → Int → Bool} {k x : Nat} {z : Int} : z ∈ usesK hd nd k x ↔ ∃ i : Nat, i < k ∧ z = i ∧ hd i = true ∧ nd i x = true := by
  unfold usesK
  rw [List.mem_filterMap]
  constructor
  · rintro ⟨i, h1, h2⟩
    split at h2
    · next q =>
      rw [Bool.and_eq_true] at q
      exact ⟨i, List.mem_range.1 h1, (Option.some.inj h2).symm, q.1, q.2⟩
    · cases h2
  · rintro ⟨i, h1, rfl, h2, h3⟩
    exact ⟨i, List.mem_range.2 h1, by simp [h2, h3]⟩
theorem usesK_nodup {hd : Int → Bool} {nd : Int → Int → Bool} {x : Nat} : ∀ k, (usesK hd nd k x).Nodup
  | 0 => List.nodup_nil
  | k + 1 => by
    rw [usesK_succ]
    split
    · rw [List.nodup_append]
      refine ⟨usesK_nodup k, by simp, fun a ha b hb => ?_⟩
      simp at hb
      obtain ⟨i, q1, q2, _⟩ := usesK_mem.1 ha
      omega
    · exact usesK_nodup k
set_option maxRecDepth 100000 in
set_option maxHeartbeats 4000000 in
theorem it50 (g : GraphD) (hm : g.many ≤ 10000) (hnd : ∀ h y, g.nd h y = true → g.hd h = true ∧ 0 ≤ y ∧ y < (g.many : Int)) (hcn : ∀ y, g.hd y = true → g.cn y = cnt g.many (g.nd y)) (w : World) (G : Nat → Prop) (hG : ∀ b, G b → b < w.heap.size) (v1 : Value) (h1 : DRep w (Env.of G) (.dp g.c 0) v1) :
    SeqE Fence.wide 2 Try.prog 50 #[v1] (ordR g.many g.nd).length (fun k => .int .i64 (atL (ordR g.many g.nd) k)) w := by
  intro l J C0 W hW hC0 hY hJ0
  have hus := (users_pure g (by omega) fun h y _ q => (hnd h y q).2).pure
  refine callsIn_of_wp Try.func50 rfl trivial ?_ rfl
  simp only [Try.ntmps50, List.size_toArray, List.length_cons, List.length_nil, Nat.reduceAdd, Nat.reduceSub, Array.replicate_succ, Array.replicate_zero, List.push_toArray, List.append_toArray, List.nil_append, List.cons_append]
  refine wpIn_wide.2 ?_
  have hGW : ∀ b, G b → b < W.heap.size := fun b hb => Nat.lt_of_lt_of_le (hG b hb) hW.size
  have h1W := h1.still fun b hb => hW.block b (hG b hb)
  refine wp_eng (itB W G) (Env.of G) ⟨rfl, Nat.le_refl _⟩ (it50_r0 l g.many g.m hm (graphF g) _ hus) ?_ ?_
  · refine ⟨rfl, rfl, fun t => ?_, fun x y c h => by simp [Env.of] at h, fun x c h => by simp [Env.of] at h, fun _ _ => rfl, fun x b h => by simp at h, fun _ _ => ⟨rfl, rfl⟩, hGW, fun _ h => h, fun _ h => .inl h, Below.refl _ _, fun p hp => by cases hp⟩
    match t with
    | 0 => exact .fn rfl rfl (fun i d v q => by simp at q) (fun i d v q => by simp at q)
    | 1 => exact h1W
    | t + 2 => exact .junk
  rintro fr' H' E' a' w' ⟨f0, f1, f3, f4, rfl⟩ hr
  obtain ⟨s1, s2, s3, ⟨b1, o1, c0, es0, cl0, s4, gr⟩, hu, ⟨bo, cap, cs0, s5, hB0, hcs, hz0, hbo, hboW⟩, hEl, hEG, hbel⟩ := it50_raw f0 f1 f3 f4 hr
  clear hr f0 f1 f3 f4 hus
  obtain ⟨tm, df⟩ := a'
  obtain ⟨tl⟩ := tm
  simp only [List.size_toArray] at s1 s2 s3 s4 s5 hu
  subst s2
  iterate 89 (have s9 := cons_of_len s1; clear s1; obtain ⟨_, _, rfl, s1⟩ := s9)
  obtain rfl := List.eq_nil_of_length_eq_zero s1
  simp at s3 s4 s5 hu
  subst s3 s4 s5
  clear s1
  have gr0 := gr.still (w' := w'.alloc (.cells #[.slice none 0 0] 110)) (fun b hb => Below.heap_alloc _ _ b (hEl b hb))
  have hc1 := gr0.c1
  go_wp2
  clear hc1
  obtain ⟨bq, hbq⟩ : ∃ x, x = w'.heap.size := ⟨_, rfl⟩
  obtain ⟨W0, hW0⟩ : ∃ x, x = w'.alloc (.cells #[.slice none 0 0] 110) := ⟨_, rfl⟩
  have hI0 : ItS W.heap.size W0 E'.G bo bq cap g.many (fun _ => 0) [] (.slice none 0 0) C0 W W0 := by
    have hbol := hB0.lt
    have hs := hbel.size
    refine ⟨?_, ⟨cs0, ?_, hcs, hz0⟩, ⟨⟨110, ?_⟩, (fun x hx => by cases hx), .inl ⟨rfl, rfl⟩⟩, (fun k _ hk => by simp at hk), fun b hb => ⟨?_, rfl⟩, fun b hb => ?_, fun b hb => ⟨?_, ?_, ?_⟩, (fun b hb => by cases hb), ?_, hboW, ?_⟩
    · have h5 : Below W.heap.size W W0 := by rw [hW0]; exact hbel.alloc hs _
      exact ⟨h5.os, h5.tape, h5.output, fun b hb _ => h5.block b hb⟩
    · rw [hW0]
      exact hB0.alloc _
    · rw [hW0, hbq]
      exact heap_alloc_new _ _
    · rw [hW0]
      have := hEl b hb
      simp; omega
    · have h6 := hC0 b hb
      refine ⟨h6.2, by omega, by omega, (fun e => by cases e), fun q => ?_⟩
      rcases hEG b q with q2 | q2
      · have := hG b q2; omega
      · omega
    · exact fun e => hbo (e ▸ hb)
    · have := hEl b hb; omega
    · intro e; cases e
    · omega
    · omega
  have hu0 := hu.still (w' := W0) (fun b hb => by rw [hW0]; exact Below.heap_alloc _ _ b (hEl b hb))
  rw [← hW0] at gr0
  simp only [← hbq, ← hW0]
  have HI := Lib.hid hI0
  have HU := Lib.hid hu0
  have HG := Lib.hid gr0
  have HY := Lib.hid hY
  have HJ := Lib.hid hJ0
  clear hI0 hu0 gr0 hbq hW0 hboW hbo hEl hEG hbel hz0 hcs hB0 hu gr hY hJ0 hC0 hG hW h1W hGW h1
  have HN := Lib.hid hnd
  have HC := Lib.hid hcn
  clear hnd hcn
  go_loopw [20] (fun i wr => ∃ (k : Nat), k ≤ g.many ∧ i = .int .i64 k ∧ Hid (∃ op L v, ItS W.heap.size W0 E'.G bo bq cap g.many op L v C0 W wr ∧ (∀ x, x < k → op x = cnt g.many (g.nd x)) ∧ L.Nodup ∧ ∀ z, z ∈ L ↔ ∃ i : Nat, i < k ∧ z = i ∧ op i = 0)) (fun i _ => g.many - (intOf i).toNat)
  case atStart => exact ⟨0, Nat.zero_le _, rfl, _, _, _, HI.out, fun x hx => by omega, List.nodup_nil, fun z => by simp⟩
  case round =>
    obtain ⟨k, hk, rfl, HK⟩ := hrel
    obtain ⟨wo, rfl⟩ : ∃ wo, wo = wr := ⟨_, rfl⟩
    obtain ⟨op, L, v, hI, ho, hLn, hLm⟩ := HK.out
    by_cases hlt : k < g.many
    · have hlt' : (k : Int) < g.many := by omega
      have gr := HG.out.still fun b hb => (hI.fr b hb).2
      have cG := gr.c2
      obtain ⟨mv, n, hn, hlk, hlen⟩ : ∃ mv n, n = cnt g.many (g.nd k) ∧ (Instr.lookup 51 (.map (some c0)) (.int .i64 (k : Int)) false).run Try.prog wo = .ok mv wo ∧ ∀ ty, (Builtin.len_ #[40] ty #[mv]).run Try.prog wo = .ok (.int .i64 (n : Int)) wo := by
        rcases gr.at_ (k : Int) with ⟨hd0, hfind⟩ | ⟨j, c, es, cl, hd1, hfind, hGc, hb, hs⟩
        · refine ⟨.map none, 0, ?_, lookup_runM (T_ok 51 _ rfl) (T_ok 3 _ rfl) (T_ok 40 _ rfl) gr.blk hfind, fun ty => run_len_nilMap _ _ _ (by kernel_rfl)⟩
          · refine (List.length_eq_zero_iff.2 (List.filter_eq_nil_iff.2 fun y _ hq => ?_)).symm
            have := (HN.out _ _ hq).1
            rw [hd0] at this
            cases this
        · refine ⟨.map (some c), es.size, by rw [hs, HC.out _ hd1], lookup_runM (T_ok 51 _ rfl) (T_ok 3 _ rfl) (T_ok 40 _ rfl) gr.blk hfind, fun ty => run_len_map _ _ _ _ _ _ (by kernel_rfl) hb⟩
      obtain ⟨cs, hB, hcs, hcz⟩ := hI.opn
      have hcx := (hB.cell k).trans (hcz k hlt)
      have hfx := hB.frozen k
      have hI1 := hI.store (z := (n : Int)) (op' := fun y => if y = k then (n : Int) else op y) hlt (fun y => rfl)
      have HI1 := Lib.hid hI1
      have HNn := Lib.hid hn
      clear hB hcs hcz hI1 hI gr hn
      by_cases hz : n = 0
      · have hq : ((n : Int) == 0) = true := by simp [hz]
        have hl1 := HI1.out.q
        have hLlen : L.length ≤ 10000 := Nat.le_trans (nodup_len hLn fun z hz => by obtain ⟨i, q1, q2, _⟩ := (hLm z).1 hz; exact ⟨i, by omega, q2⟩) hm
        have hph := Lib.hid (hpush_raw HI1.out.q (k : Int) (inr_nat14 (by omega)) hLlen HI1.out.heap)
        have HZ := Lib.hid hz
        clear hl1 hz
        go_wp2_with (go_at_call 51; refine hph.out.mono ?_; rintro e W2 ⟨L', v', rfl, hp, hh, hq', hkq⟩)
        have h2 := HI1.out.queue hkq hq' hh
        have hNK := Lib.hid (show ∃ op L v, ItS W.heap.size W0 E'.G bo bq cap g.many op L v C0 W W2 ∧ (∀ x, x < k + 1 → op x = cnt g.many (g.nd x)) ∧ L.Nodup ∧ ∀ z, z ∈ L ↔ ∃ i : Nat, i < k + 1 ∧ z = i ∧ op i = 0 from by
          refine ⟨_, _, _, h2, fun x hx => ?_, ?_, fun z => ?_⟩
          · by_cases q : x = k
            · simp only [q, if_true]
              rw [HNn.out]
            · simp only [q, if_false]
              exact ho x (by omega)
          · rw [hp.nodup_iff, List.nodup_append]
            refine ⟨hLn, by simp, fun a ha b hb => ?_⟩
            simp at hb
            obtain ⟨i, q1, q2, _⟩ := (hLm a).1 ha
            omega
          · rw [hp.mem_iff, List.mem_append, hLm]
            constructor
            · rintro (⟨i, q1, q2, q3⟩ | q)
              · exact ⟨i, by omega, q2, by simp only [show ¬ i = k by omega, if_false]; exact q3⟩
              · simp at q
                exact ⟨k, by omega, q, by simp only [if_true, HZ.out]; rfl⟩
            · rintro ⟨i, q1, q2, q3⟩
              by_cases q : i = k
              · right; subst q; simp [q2]
              · left
                simp only [q, if_false] at q3
                exact ⟨i, by omega, q2, q3⟩)
        clear hkq hq' hh hp h2 hph ho hLn hLm hlk hlen hcx hfx cG
        go_wp2
        go_roundw
        case rel => exact ⟨k + 1, by omega, by go_num, hNK⟩
        case measure => simp [intOf]; omega
      · have hq : ((n : Int) == 0) = false := by simp [hz]
        have hNK := Lib.hid (show ∃ op L v, ItS W.heap.size W0 E'.G bo bq cap g.many op L v C0 W (wo.setCell ⟨bo, k, none⟩ (.int .i64 (n : Int))) ∧ (∀ x, x < k + 1 → op x = cnt g.many (g.nd x)) ∧ L.Nodup ∧ ∀ z, z ∈ L ↔ ∃ i : Nat, i < k + 1 ∧ z = i ∧ op i = 0 from by
          refine ⟨_, _, _, HI1.out, fun x hx => ?_, hLn, fun z => ?_⟩
          · by_cases q : x = k
            · simp only [q, if_true]
              rw [HNn.out]
            · simp only [q, if_false]
              exact ho x (by omega)
          · rw [hLm]
            constructor
            · rintro ⟨i, q1, q2, q3⟩
              exact ⟨i, by omega, q2, by simp only [show ¬ i = k by omega, if_false]; exact q3⟩
            · rintro ⟨i, q1, q2, q3⟩
              by_cases q : i = k
              · simp only [q, if_true] at q3
                omega
              · simp only [q, if_false] at q3
                exact ⟨i, by omega, q2, q3⟩)
        clear ho hLn hLm
        go_wp2
        go_roundw
        case rel => exact ⟨k + 1, by omega, by go_num, hNK⟩
        case measure => simp [intOf]; omega
    · obtain rfl : k = g.many := by omega
      have hNK := Lib.hid (show KInv g.many g.nd [] op L from ⟨fun x hx => by rw [ho x hx]; unfold needC; simp, hLn, fun z => by
        rw [hLm]
        constructor
        · rintro ⟨i, q1, q2, q3⟩
          exact ⟨i, q1, q2, by unfold readyB; simp; rw [ho i q1] at q3; unfold needC; simpa using q3⟩
        · rintro ⟨i, q1, q2, q3⟩
          refine ⟨i, q1, q2, ?_⟩
          rw [ho i q1]
          unfold readyB needC at q3
          simpa using q3⟩)
      have HIt := Lib.hid hI
      clear hI ho hLn hLm
      have HK0 := Lib.hid (show ∃ k op L v C A, k ≤ (ordR g.many g.nd).length ∧ J k C A ∧ ItS W.heap.size W0 E'.G bo bq cap g.many op L v C A wo ∧ KInv g.many g.nd (seqR g.many g.nd k) op L from ⟨0, op, L, v, C0, W, Nat.zero_le _, HJ.out, HIt.out, hNK.out⟩)
      clear hNK HIt HK HJ HI HG hlt hk
      go_wp2
      refine (wpIn_wide (n := 2)).1 ?_
      gi_loopw [] (fun wr => Hid (∃ k op L v C A, k ≤ (ordR g.many g.nd).length ∧ J k C A ∧ ItS W.heap.size W0 E'.G bo bq cap g.many op L v C A wr ∧ KInv g.many g.nd (seqR g.many g.nd k) op L)) (leftM bo bq g.many)
      case atStart => exact HK0
      case round =>
        clear HK0
        obtain ⟨wo', rfl⟩ : ∃ wo, wo = wr := ⟨_, rfl⟩
        obtain ⟨k, op, L, v, C, A, hk, hj, hI, hKI⟩ := hrel.out
        have hSI := seqR_inv (m := g.many) (nd := g.nd) k
        have hlen := (seq_at hk).1
        have hmeas := hI.left hKI hSI
        obtain ⟨va, vc, rfl⟩ := hI.q.slice
        obtain ⟨tq, htq⟩ := hI.q.1
        have cq : wo'.cell? ⟨bq, 0, none⟩ = some (.slice va L.length vc) := by simp [World.cell?, htq]
        clear htq
        have hql := Lib.hid (qlen_raw va L.length vc wo')
        have f52 : Fence.wide.fn 52 := trivial
        by_cases h0 : L.length = 0
        · have hq : decide ((L.length : Int) > 0) = false := by simp [h0]
          obtain rfl := List.eq_nil_of_length_eq_zero h0
          have hNk := Lib.hid (seq_end hk hKI.empty)
          have HQ := Lib.hid hI.quiet
          have HJ' := Lib.hid hj
          clear hI hKI hSI hj hlen hmeas hq
          gi_wp2_with (gi_at_call 52; refine (callsIn_wide.2 hql.out).mono ?_; rintro e W2 ⟨rfl, rfl⟩)
          go_end0
          refine ⟨⟨_, rfl⟩, C, A, ?_, HQ.out⟩
          rw [← hNk.out]
          exact HJ'.out
        · have hq : decide ((L.length : Int) > 0) = true := by simp; omega
          obtain ⟨x, hx0, hnx⟩ := hKI.pop hI.heap (by omega)
          obtain ⟨hkN, hok, hsq⟩ := seq_next hk hnx
          obtain ⟨hrx, hxm, _⟩ := nextR_some.1 hnx
          have hLlen : L.length ≤ 10000 := Nat.le_trans hKI.len hm
          have hpp := hpop_raw hI.q hLlen (by omega) hI.heap
          rw [hx0] at hpp
          have hov : atL (ordR g.many g.nd) k = (x : Int) := atL_get hok
          have hyy : ∀ W3, QuietC W.heap.size C A W3 → YieldAt Fence.wide 1 Try.prog l #[.int .i64 (x : Int)] W3 fun e W' => e = .returned (.bool true) ∧ KeepsBut C W3 W' ∧ ∃ C', J (k + 1) C' W' ∧ ∀ b, C' b → (C b ∨ W3.heap.size ≤ b) ∧ b < W'.heap.size := fun W3 h => by
            have := HY.out k C A W3 hkN hj h
            simp only [hov] at this
            exact this
          have HYY := Lib.hid hyy
          have HPP := Lib.hid hpp
          have f53 : Fence.wide.fn 53 := trivial
          have f51 : Fence.wide.fn 51 := trivial
          have HKI := Lib.hid hKI
          have HSI := Lib.hid hSI
          have HIt := Lib.hid hI
          have HJ' := Lib.hid hj
          have Hsq := Lib.hid hsq
          have Hrx := Lib.hid hrx
          have Hov := Lib.hid hov
          have Hlen := Lib.hid hlen
          have Hme := Lib.hid hmeas
          clear hKI hSI hI hj hsq hrx hov hpp hyy hx0 hnx hok hlen hmeas hrel
          have hta : ∀ W3, (Instr.typeAssert (.iface 3 (.int .i64 (x : Int))) 20 3 true).run Try.prog W3 = .ok (.tuple #[.int .i64 (x : Int), .bool true]) W3 := fun W3 => by simp [Instr.typeAssert, run_underlying u3']
          gi_wp2_with (first
            | (gi_at_call 52; refine (callsIn_wide.2 hql.out).mono ?_; rintro e W2 ⟨rfl, rfl⟩)
            | (gi_at_call 53; refine (callsIn_wide.2 HPP.out).mono ?_; rintro e W3 ⟨L', v', rfl, hp, hh, hq', hkq⟩; have hI3 := HIt.out.queue hkq hq' hh; obtain ⟨fn, tmps, assign, body, hy, hR⟩ := HYY.out W3 hI3.quiet; have HI3 := Lib.hid hI3; have HP := Lib.hid hp; clear hI3 hp hh hq' hkq))
          refine hR.mono ?_
          clear hR hy
          rintro e W4 ⟨rfl, hkp, C', hj', hC'⟩
          have hI4 := HI3.out.yield hkp hC'
          obtain ⟨U, hUe⟩ : ∃ U, U = usesL g x := ⟨_, rfl⟩
          have hUl : U.length ≤ 10000 := by rw [hUe]; exact Nat.le_trans (usesK_len _ _ _ _) hm
          obtain ⟨a3, c3, hv3, hux⟩ := HU.out
          obtain ⟨bl, ol, ai, ci, rfl, hgbl, hcl, hel⟩ := hux x hxm
          rw [← hUe] at hcl hel
          rw [← World.cell?_of_block (a := ⟨bl, ol + x, none⟩) (hI4.fr bl hgbl).2] at hcl
          have hM0 : MInv g.many g.nd (seqR g.many g.nd k) x U 0 op L' := MInv.start HKI.out HP.out U
          have HIM := Lib.hid (show ∃ op L v, ItS W.heap.size W0 E'.G bo bq cap g.many op L v C' W4 W4 ∧ MInv g.many g.nd (seqR g.many g.nd k) x U 0 op L from ⟨op, L', v', hI4, hM0⟩)
          have HE := Lib.hid hel
          have HUe := Lib.hid hUe
          have HJ4 := Lib.hid hj'
          clear hI4 hM0 hel hUe hj' hC' hkp hux HI3 HP HKI HIt HYY HPP HJ' cq hql
          subst hv3
          gi_wp2
          have HT := Lib.hid hta
          clear hcl hta
          gi_loopw [68] (fun m wr => ∃ i : Nat, i ≤ U.length ∧ m = .int .i64 i ∧ Hid (∃ op L v, ItS W.heap.size W0 E'.G bo bq cap g.many op L v C' W4 wr ∧ MInv g.many g.nd (seqR g.many g.nd k) x U i op L)) (fun m _ => U.length - (intOf m).toNat)
          case atStart => exact ⟨0, Nat.zero_le _, rfl, HIM⟩
          case round =>
            clear HIM
            obtain ⟨i, hi, rfl, HR⟩ := hrel
            obtain ⟨w5, rfl⟩ : ∃ wo, wo = wr := ⟨_, rfl⟩
            obtain ⟨op2, L2, v2, hI5, hM5⟩ := HR.out
            by_cases hlt2 : i < U.length
            · have hlt2' : (i : Int) < U.length := by omega
              obtain ⟨z, hz⟩ : ∃ z, U[i]? = some z := ⟨_, List.getElem?_eq_getElem hlt2⟩
              obtain ⟨u, hum, rfl, _, hnu⟩ := usesK_mem.1 (show z ∈ usesK g.hd g.nd g.many x from by rw [show usesK g.hd g.nd g.many x = U from HUe.out.symm]; exact List.mem_of_getElem? hz)
              obtain ⟨bi, oi, rfl, hgbi, hce⟩ := HE.out i u hz
              rw [← World.cell?_of_block (a := ⟨bi, oi + i, none⟩) (hI5.fr bi hgbi).2] at hce
              have hUn : U.Nodup := by rw [HUe.out]; exact usesK_nodup _
              have hf := hM5.met HSI.out Hrx.out hxm hUn hum hz hnu
              have hle : op2 u ≤ 10000 := by
                rw [hf.2.1]
                have := cnt_le g.many fun b => g.nd u b && !(seqR g.many g.nd k).contains b
                have h9 : needC g.many g.nd (seqR g.many g.nd k) u = cnt g.many fun b => g.nd u b && !(seqR g.many g.nd k).contains b := rfl
                omega
              obtain ⟨cs, hB, hcs, hcz⟩ := hI5.opn
              have hcx := (hB.cell u).trans (hcz u hum)
              have hfx := hB.frozen u
              obtain ⟨zz, hzz⟩ : ∃ z, z = op2 u := ⟨_, rfl⟩
              rw [← hzz] at hcx
              obtain ⟨w1, hw1⟩ : ∃ y, y = zz - 1 := ⟨_, rfl⟩
              have hge := hf.2.2.1
              have hwr : IntKind.i64.wrap (zz - 1) = w1 := by rw [hw1]; exact w64 (by omega) (by omega)
              have hum' : (u : Int) < g.many := by omega
              have hI6 := hI5.store (z := w1) (op' := fun y => if y = u then w1 else op2 y) hum (fun y => rfl)
              have hLl := Nat.le_trans hM5.len hm
              have HW1 := Lib.hid (show w1 = op2 u - 1 by rw [hw1, hzz])
              have HI6 := Lib.hid hI6
              have HM5 := Lib.hid hM5
              have HF := Lib.hid hf
              have HUn := Lib.hid hUn
              have HZ := Lib.hid hz
              clear hI6 hI5 hM5 hf hUn hB hcs hcz hzz hge hle hw1 HR hz hnu
              by_cases hw0 : w1 = 0
              · subst hw0
                have hph := Lib.hid (hpush_raw HI6.out.q (u : Int) (inr_nat14 (by omega)) hLl HI6.out.heap)
                gi_wp2_with (gi_at_call 51; refine (callsIn_wide.2 hph.out).mono ?_; rintro e W6 ⟨L6, v6, rfl, hp6, hh6, hq6, hkq6⟩)
                have h7 := HI6.out.queue hkq6 hq6 hh6
                have hM7 := HM5.out.step HUn.out hum HZ.out HF.out (op' := fun y => if y = u then 0 else op2 y) (L' := L6) (fun y => by rw [← HW1.out]) (by
                  have h1 := HW1.out
                  rw [if_pos (by omega)]
                  exact hp6)
                have HIM := Lib.hid (show ∃ op L v, ItS W.heap.size W0 E'.G bo bq cap g.many op L v C' W4 W6 ∧ MInv g.many g.nd (seqR g.many g.nd k) x U (i + 1) op L from ⟨_, _, _, h7, hM7⟩)
                clear h7 hM7 hp6 hh6 hq6 hkq6 hph HI6 HM5 HF hcx hfx hce
                gi_wp2
                go_roundw
                case rel => exact ⟨i + 1, by omega, by go_num, HIM⟩
                case measure => simp [intOf]; omega
              · have hq0 : (w1 == 0) = false := by simp [hw0]
                have hM7 := HM5.out.step HUn.out hum HZ.out HF.out (op' := fun y => if y = u then w1 else op2 y) (L' := L2) (fun y => by rw [← HW1.out]) (by
                  have h1 := HW1.out
                  rw [if_neg (by omega)])
                have HIM := Lib.hid (show ∃ op L v, ItS W.heap.size W0 E'.G bo bq cap g.many op L v C' W4 (w5.setCell ⟨bo, u, none⟩ (.int .i64 w1)) ∧ MInv g.many g.nd (seqR g.many g.nd k) x U (i + 1) op L from ⟨_, _, _, HI6.out, hM7⟩)
                clear hM7 HI6 HM5 HF hw0
                gi_wp2
                go_roundw
                case rel => exact ⟨i + 1, by omega, by go_num, HIM⟩
                case measure => simp [intOf]; omega
            · obtain rfl : i = U.length := by omega
              obtain ⟨r1, r2⟩ := readyB_t.1 Hrx.out
              have hK7 := hM5.done hxm r1 fun y hy => by
                rw [show U = usesK g.hd g.nd g.many x from HUe.out, usesK_mem]
                constructor
                · rintro ⟨i, q1, q2, q3, q4⟩
                  rw [q2]
                  exact q4
                · exact fun h => ⟨y, hy, rfl, (HN.out _ _ h).1, h⟩
              rw [← Hsq.out] at hK7
              have hme7 := hI5.left hK7 (seqR_inv (k + 1))
              have hl7 : (seqR g.many g.nd (k + 1)).length = k + 1 := by rw [Hsq.out]; simp [Hlen.out]
              have HK8 := Lib.hid (show ∃ k op L v C A, k ≤ (ordR g.many g.nd).length ∧ J k C A ∧ ItS W.heap.size W0 E'.G bo bq cap g.many op L v C A w5 ∧ KInv g.many g.nd (seqR g.many g.nd k) op L from ⟨k + 1, _, _, _, _, _, hkN, HJ4.out, hI5, hK7⟩)
              have hkm := (seqR_inv (m := g.many) (nd := g.nd) (k + 1)).len
              have HL := Lib.hid (show leftM bo bq g.many w5 < leftM bo bq g.many W2 from by rw [hme7, Hme.out, hl7, Hlen.out]; omega)
              clear hK7 hme7 hl7 hkm hI5 hM5 r1 r2 HR
              gi_wp2
              go_roundw
              case rel => exact HK8
              case measure => exact HL.out
end Go.Proofs.Ytdhfakajlnidiaa
namespace Go.Proofs.Ytdhfakajlnidiaa
open Go.RowKit

/-! A region, operation by operation. -/
theorem CodeP.ops {P : Program} {cx : Cx} {id : Nat} {ops : Array Oper} {fr : Fr} {H : List Bk} {K : Exit → Fr → List Bk → Prop} (h : OpsP P cx ops ops.toList fr H (K .normal)) : CodeP P cx (.region id ops false) fr H K :=
  ⟨fun B E a w hnt hr => wp_region_list (h.run B E a w hnt.1 hnt.2 hr _ fun fr' H' E' a' w' q1 q2 => ⟨fr', H', E', q1, q2⟩)⟩
theorem OpsP.done {P : Program} {cx : Cx} {ops : Array Oper} {fr : Fr} {H : List Bk} {K : Fr → List Bk → Prop} (h : K fr H) : OpsP P cx ops [] fr H K := ⟨fun B E a w _ _ hr Q hQ => hQ _ _ _ _ _ h hr⟩
theorem OpsP.step {P : Program} {cx : Cx} (hT : cx.T.ok P) {ops : Array Oper} {o : Oper} {os : List Oper} {fr : Fr} {H : List Bk} {K : Fr → List Bk → Prop} (h : vopsH P cx ops o fr H fun fr H => OpsP P cx ops os fr H K) : OpsP P cx ops (o :: os) fr H K :=
  ⟨fun B E a w hnt hh0 hr Q hQ => vopsH_sound hT hnt hh0 h hr fun fr' H' E' a' w' q1 q2 => q1.run B E' a' w' hnt hh0 q2 Q hQ⟩
theorem OpsP.rest {P : Program} {cx : Cx} (hT : cx.T.ok P) {ops : Array Oper} {os : List Oper} {fr : Fr} {H : List Bk} {K : Fr → List Bk → Prop} (h : vops P cx ops os fr H K) : OpsP P cx ops os fr H K :=
  ⟨fun _ _ _ _ hnt hh0 hr _ hQ => vops_sound hT hnt hh0 os h hr hQ⟩
/-- a slice that is built is kept as an own row -/
theorem OpsP.own {P : Program} {cx : Cx} (hT : cx.T.ok P) {ops : Array Oper} {o : Oper} {os : List Oper} {fr : Fr} {H : List Bk} {K : Fr → List Bk → Prop} (hg : o.guard = none) (h : vop P cx true o fr H fun fr H => OpsP P cx ops os fr H K) : OpsP P cx ops (o :: os) fr H K := by
  refine ⟨fun B E a w hnt hh0 hr Q hQ => ?_⟩
  unfold wpList
  rw [if_pos (by unfold Region.wanted; rw [hg])]
  exact .inl (Oper.wp_mono (fun a' w' ⟨fr2, H2, E2, q1, q2⟩ => q1.run B E2 a' w' hnt hh0 q2 Q hQ) (vop_sound hT hnt hh0 h hr (Q := Q)))
end Go.Proofs.Ytdhfakajlnidiaa
namespace Go.Proofs.Ytdhfakajlnidiaa
open Go.RowKit

/-! Cycle, of the program. -/
theorem osl_step1 {H H' : List Bk} {n b v : Nat} (k : Nat) : SnD H H' (.osl n b v (.lit false) (.lit 0) (.sum (.nat k) (.lit 1))) (.osl n b v (.lit false) (.lit 0) (.nat (k + 1))) := by
  refine .eq (.osl rfl rfl ?_)
  show (k : Int) + 1 = ((k + 1 : Nat) : Int)
  omega
def ungotoK (K : Exit → Fr → List Bk → Prop) (e : Exit) (fr : Fr) (H : List Bk) : Prop := match e with
  | .goto _ => False
  | e => K e fr H
theorem CodeP.scope {P : Program} {cx : Cx} {c : Code} {fr : Fr} {H : List Bk} {K : Exit → Fr → List Bk → Prop} (h : CodeP P cx c fr H (ungotoK K)) : CodeP P cx (.scope c) fr H K := by
  refine ⟨fun B E a w hnt hr => wp_scope_straight (Code.wp_mono (fun e a' w' ⟨fr', H', E', q1, q2⟩ => ?_) (h.run B E a w hnt hr))⟩
  cases e <;> first | exact q1.elim | exact ⟨fr', H', E', q1, q2⟩
/-- the head of the shortest circle, and its length -/
def bestStep (D : Int → FI) (s : Int × Int) (i : Nat) : Int × Int := match D i i with
  | some d => if d < s.1 then (d, (i : Int)) else s
  | none => s
def bestAt (n : Nat) (D : Int → FI) (k : Nat) : Int × Int := (List.range k).foldl (bestStep D) ((n : Int) + 1, 0)
theorem bestAt_succ (n : Nat) (D : Int → FI) (k : Nat) : bestAt n D (k + 1) = bestStep D (bestAt n D k) k := by
  unfold bestAt
  rw [List.range_succ, List.foldl_append]
  rfl
def walkP (ks : Int → List Int) (DA : FI) : Nat → Int → List Int
  | 0, _ => []
  | m + 1, here => match (ks here).find? fun x => decide ((DA x).getD 0 = ((m + 1 : Nat) : Int)) with
    | some x => x :: walkP ks DA m x
    | none => []
def needKs (S : SourceD) (y : Int) : List Int := numsL S.schemas.length (needsB S.rules y)
def bestS (S : SourceD) : Int × Int := bestAt S.schemas.length (distS S) S.schemas.length
def hasCyc (S : SourceD) : Bool := numberedB S.schemas.length S.rules && decide ((bestS S).1 ≤ (S.schemas.length : Int))
def cycL (S : SourceD) : List Int := if hasCyc S then (bestS S).2 :: walkP (needKs S) (distS S (bestS S).2) ((bestS S).1.toNat - 1) (bestS S).2 else []
/-- who has a distance needs somebody -/
theorem fi_head {L : Nat → List Int} {to : Int} {Q : Int → Prop} (hL : ∀ y u, u ∈ L y → Q u) : ∀ t x, fiB (fiAt L to t).1 x = true → Q x
  | 0, x, hx => by cases hx
  | t + 1, x, hx => by
    have hstep : ∀ {n : Int} {s : FI × List Int} {u : Int}, Q u → (∀ x, fiB s.1 x = true → Q x) → ∀ x, fiB (fiStep n s u).1 x = true → Q x := fun {n s u} hu h x hx => by
      unfold fiStep at hx
      split at hx
      · exact h x hx
      · by_cases q : x = u
        · subst q; exact hu
        · refine h x ?_
          unfold fiB at hx ⊢
          simpa [q] using hx
    have hrow : ∀ {n : Int} (us : List Int) (s : FI × List Int), (∀ u, u ∈ us → Q u) → (∀ x, fiB s.1 x = true → Q x) → ∀ x, fiB (fiRow n s us).1 x = true → Q x := fun {n} us => by
      induction us with
      | nil => exact fun s _ h => h
      | cons u us ih => exact fun s hu h => ih (fiStep n s u) (fun v hv => hu v (by simp [hv])) (hstep (hu u (by simp)) h)
    have hrnd : ∀ {n : Int} (layer : List Int) (s : FI × List Int), (∀ x, fiB s.1 x = true → Q x) → ∀ x, fiB (layer.foldl (fun s x => fiRow n s (L x.toNat)) s).1 x = true → Q x := fun {n} layer => by
      induction layer with
      | nil => exact fun s h => h
      | cons y layer ih => exact fun s h => ih _ (hrow (L y.toNat) s (hL y.toNat) h)
    exact hrnd (fiAt L to t).2 ((fiAt L to t).1, []) (fun x hx => fi_head hL t x hx) x hx
theorem fi_pos {L : Nat → List Int} {to : Int} : ∀ t x d, (fiAt L to t).1 x = some d → 1 ≤ d
  | 0, x, d, hx => by cases hx
  | t + 1, x, d, hx => by
    have hstep : ∀ {n : Int} {s : FI × List Int} {u : Int}, 1 ≤ n → (∀ x d, s.1 x = some d → 1 ≤ d) → ∀ x d, (fiStep n s u).1 x = some d → 1 ≤ d := fun {n s u} hu h x d hx => by
      unfold fiStep at hx
      split at hx
      · exact h x d hx
      · by_cases q : x = u
        · simp only [q, if_true, Option.some.injEq] at hx
          omega
        · simp only [q, if_false] at hx
          exact h x d hx
    have hrow : ∀ {n : Int} (us : List Int) (s : FI × List Int), 1 ≤ n → (∀ x d, s.1 x = some d → 1 ≤ d) → ∀ x d, (fiRow n s us).1 x = some d → 1 ≤ d := fun {n} us => by
      induction us with
      | nil => exact fun s _ h => h
      | cons u us ih => exact fun s hu h => ih (fiStep n s u) hu (hstep hu h)
    have hrnd : ∀ {n : Int} (layer : List Int) (s : FI × List Int), 1 ≤ n → (∀ x d, s.1 x = some d → 1 ≤ d) → ∀ x d, (layer.foldl (fun s x => fiRow n s (L x.toNat)) s).1 x = some d → 1 ≤ d := fun {n} layer => by
      induction layer with
      | nil => exact fun s _ h => h
      | cons y layer ih => exact fun s hu h => ih _ hu (hrow (L y.toNat) s hu h)
    exact hrnd (n := ((t + 1 : Nat) : Int)) (fiAt L to t).2 ((fiAt L to t).1, []) (by omega) (fun x d hx => fi_pos t x d hx) x d hx
theorem dist_head {S : SourceD} {to x : Int} (h : fiB (distS S to) x = true) : heads S.rules x = true := by
  refine fi_head (Q := fun x => heads S.rules x = true) (fun y u hu => ?_) _ x h
  unfold usesL usesK at hu
  rw [List.mem_filterMap] at hu
  obtain ⟨i, _, h2⟩ := hu
  split at h2
  · next q =>
    cases h2
    simp only [Bool.and_eq_true] at q
    exact q.1
  · cases h2
theorem bestAt_in {n : Nat} {D : Int → FI} : ∀ k, (bestAt n D k).1 ≤ (n : Int) → (∃ i : Nat, i < k ∧ (bestAt n D k).2 = (i : Int) ∧ D i i = some (bestAt n D k).1)
  | 0, h => by
    have : (bestAt n D 0).1 = (n : Int) + 1 := rfl
    omega
  | k + 1, h => by
    rw [bestAt_succ] at h ⊢
    unfold bestStep at h ⊢
    split at h
    · next d hd =>
      split at h
      · next hlt =>
        try rw [hd]
        simp only [hlt, if_true]
        exact ⟨k, by omega, rfl, hd⟩
      · next hlt =>
        obtain ⟨i, h1, h2, h3⟩ := bestAt_in k h
        try rw [hd]
        simp only [hlt, if_false]
        exact ⟨i, by omega, h2, h3⟩
    · next hd =>
      obtain ⟨i, h1, h2, h3⟩ := bestAt_in k h
      try rw [hd]
      exact ⟨i, by omega, h2, h3⟩
set_option maxHeartbeats 8000000 in
set_option maxRecDepth 100000 in
set_option maxHeartbeats 4000000 in
theorem Cycle_pure (S : SourceD) (h : SmallS S) : Pure Try.prog 11 [.agg S.c] (.tup [.slm 1 (some (.var (cycL S).isEmpty)) intC (cycL S), boolD (hasCyc S), i64 (if numberedB S.schemas.length S.rules then 0 else 140)]) := by
  have hn7 := h.n
  have hread := (read_pure S (by omega) (by have := h.r; omega) (fun r hr => by have := h.f r hr; omega)).pure
  have huse : numberedB S.schemas.length S.rules = true → Pure Try.prog 24 [.agg (graphOf S).c] (.slm 1 (some (.var false)) UserD.c (usersL S.schemas.length (usesL (graphOf S)))) := fun hb => (users_pure (graphOf S) (by show S.schemas.length ≤ 100000; omega) (fun a b _ hn => (numbered_in hb hn).2)).pure
  have hst : ∀ x : Int, 0 ≤ x ∧ x < (S.schemas.length : Int) → Pure Try.prog 25 [.agg (graphOf S).c, .slm 1 (some (.var false)) UserD.c (usersL S.schemas.length (usesL (graphOf S))), i64 x] (.mapd .i64 .i64 (distS S x) (.nat (distNS S x))) := fun x hx => steps_pure (graphOf S) (usesL (graphOf S)) x S.schemas.length (by omega) hx uses_ok
  have hhd := @dist_head S
  have hpos : ∀ to x d, distS S to x = some d → 1 ≤ d := fun to x d hd => fi_pos _ x d hd
  have hks1 : ∀ y, (needKs S y).Pairwise fun a b => a < b := fun y => numsL_sorted _ _
  have hks2 : ∀ y, ∀ x ∈ needKs S y, InR .i64 x := fun y => numsL_in (by omega)
  have hks3 : numberedB S.schemas.length S.rules = true → ∀ y x, x ∈ needKs S y ↔ needsB S.rules y x = true := fun hb y x => by
    unfold needKs
    rw [numsL_mem]
    exact ⟨fun h => h.2, fun h => ⟨(numbered_in hb h).2, h⟩⟩
  have hks4 : ∀ y, (needKs S y).length ≤ 7 := fun y => by
    unfold needKs
    rw [numsL_len]
    have := cnt_le S.schemas.length (needsB S.rules y)
    omega
  have hcn : ∀ y, (graphOf S).cn y ≤ 1000 := fun y => by
    have : (graphOf S).cn y ≤ S.schemas.length := cnt_le _ _
    omega
  have hGF : ∀ y, graphF (graphOf S) y = if heads S.rules y then some (.mg .i64 (boolF (needsB S.rules y)) (.nat ((graphOf S).cn y))) else none := fun y => rfl
  have hsort := @sorted_mg
  have hb0 : bestAt S.schemas.length (distS S) 0 = ((S.schemas.length : Int) + 1, 0) := rfl
  have hbS := fun k => bestAt_succ S.schemas.length (distS S) k
  have hbI := fun k => bestAt_in (n := S.schemas.length) (D := distS S) k
  unfold hasCyc cycL hasCyc
  unfold bestS
  have hG : (graphOf S).c = [.int .i64 (.nat S.schemas.length), .mg .i64 (graphF (graphOf S)) (.nat (graphOf S).m)] := rfl
  rw [hG] at huse hst
  have hr1 : numberedB S.schemas.length S.rules = true → Pure Try.prog 23 [.agg S.c] (.tup [.agg [.int .i64 (.nat S.schemas.length), .mg .i64 (graphF (graphOf S)) (.nat (graphOf S).m)], .int .i64 (.lit 0)]) := fun hb => by
    unfold readD at hread
    rw [hb, hG] at hread
    exact hread
  have hr0 : numberedB S.schemas.length S.rules = false → Pure Try.prog 23 [.agg S.c] (.tup [.agg [.int .i64 (.lit 0), .nilm], .int .i64 (.lit 140)]) := fun hb => by
    unfold readD at hread
    rw [hb] at hread
    exact hread
  clear hread hG
  obtain ⟨U, hU⟩ : ∃ U, U = usersL S.schemas.length (usesL (graphOf S)) := ⟨_, rfl⟩
  rw [← hU] at huse hst
  obtain ⟨GF, hGF'⟩ : ∃ U, U = graphF (graphOf S) := ⟨_, rfl⟩
  obtain ⟨gm, hgm⟩ : ∃ U, U = (graphOf S).m := ⟨_, rfl⟩
  rw [← hGF', ← hgm] at huse hst hr1
  rw [← hGF'] at hGF
  obtain ⟨CN, hCN⟩ : ∃ U, U = (graphOf S).cn := ⟨_, rfl⟩
  rw [← hCN] at hcn hGF
  obtain ⟨DS, hDS⟩ : ∃ U, U = distS S := ⟨_, rfl⟩
  obtain ⟨DN, hDN⟩ : ∃ U, U = distNS S := ⟨_, rfl⟩
  obtain ⟨KS, hKS⟩ : ∃ U, U = needKs S := ⟨_, rfl⟩
  obtain ⟨HD, hHD⟩ : ∃ U, U = heads S.rules := ⟨_, rfl⟩
  obtain ⟨ND, hND⟩ : ∃ U, U = needsB S.rules := ⟨_, rfl⟩
  rw [← hDS, ← hDN] at hst
  rw [← hDS] at hhd hpos hb0 hbS hbI ⊢
  rw [← hKS] at hks1 hks2 hks3 hks4 ⊢
  rw [← hHD] at hhd hGF
  rw [← hND] at hGF hks3
  obtain ⟨BA, hBA⟩ : ∃ U, U = bestAt S.schemas.length DS := ⟨_, rfl⟩
  rw [← hBA] at hb0 hbS hbI ⊢
  obtain ⟨rb, hrb⟩ : ∃ b, b = numberedB S.schemas.length S.rules := ⟨_, rfl⟩
  rw [← hrb] at hr0 hr1 huse hks3 ⊢
  obtain ⟨n, hn⟩ : ∃ n, n = S.schemas.length := ⟨_, rfl⟩
  rw [← hn] at hr1 huse hst hn7 hb0 hbI ⊢
  obtain ⟨hc, hhc⟩ : ∃ b, b = (rb && decide ((BA n).1 ≤ (n : Int))) := ⟨_, rfl⟩
  obtain ⟨WP, hWP⟩ : ∃ f, f = walkP KS := ⟨_, rfl⟩
  have hW0 : ∀ D x, walkP KS D 0 x = [] := fun D x => rfl
  have hWs : ∀ (D : FI) m x y, (KS x).find? (fun y => decide ((D y).getD 0 = ((m + 1 : Nat) : Int))) = some y → walkP KS D (m + 1) x = y :: walkP KS D m y := fun D m x y h => by simp only [walkP, h]
  have hWn : ∀ (D : FI) m x, (KS x).find? (fun y => decide ((D y).getD 0 = ((m + 1 : Nat) : Int))) = none → walkP KS D (m + 1) x = [] := fun D m x h => by simp only [walkP, h]
  rw [← hWP] at hW0 hWs hWn
  rw [← hhc, ← hWP]
  obtain ⟨l, hl⟩ : ∃ l, l = if hc = true then (BA n).2 :: WP (DS (BA n).2) ((BA n).1.toNat - 1) (BA n).2 else [] := ⟨_, rfl⟩
  obtain ⟨lb, hlb⟩ : ∃ lb, lb = l.isEmpty := ⟨_, rfl⟩
  obtain ⟨e, he⟩ : ∃ e : Int, e = if rb = true then 0 else 140 := ⟨_, rfl⟩
  rw [← hl, ← hlb, ← he]
  clear hWP hU hGF' hgm hDS hDN hrb h hn hHD hND hKS hBA hCN
  obtain ⟨ni, is, nu, us, ns, ss, nr, rs, nc, cs, np, ps⟩ := S
  refine Pure.intro (want := [.slm 1 (some (.var lb)) intC l, boolD hc, i64 e]) T_ok follows Try.func11 rfl (by kernel_rfl) (rs := [.tmp 2, .tmp 3, .tmp 4]) rfl (by kernel_rfl) ?_
  generalize hP : Try.prog = P at *
  have hT : T.ok P := hP ▸ T_ok
  have hm : P.follows .mixedOrders = true := hP ▸ follows
  unfold Try.f11
  dsimp only
  cbv
  refine CodeP.scope ?_
  cases rb with
  | false =>
    have hcf : hc = false := hhc
    subst hcf
    replace hl : l = [] := hl
    refine CodeP.seq (vc_sound hT hm _ ?_)
    cbv
    refine CallP.pure _ (hr0 rfl) rfl ?_
    cbv
    refine CodeP.seq (vc_sound hT hm _ ?_)
    cbv
    refine .mk (.cons (.eq (.nilv hl ?_)) (.cons (.eq (.bool rfl)) (.cons (.eq (.int ?_)) .nil))) rfl
    · rw [BE.var_d, hlb, hl]; rfl
    · rw [IE.lit_d, IE.var_d, he]; rfl
  | true =>
    refine CodeP.seq (vc_sound hT hm _ ?_)
    cbv
    refine CallP.pure _ (hr1 rfl) rfl ?_
    cbv
    refine CodeP.seq (vc_sound hT hm _ ?_)
    cbv
    refine CodeP.seq (vc_sound hT hm _ ?_)
    cbv
    refine CallP.pure _ (huse rfl) rfl ?_
    cbv
    refine CodeP.seq (vc_sound hT hm _ ?_)
    cbv
    refine CodeP.seq (vc_sound hT hm _ ?_)
    cbv
    refine CodeP.keep [2, 3, 4, 5, 6, 7, 8, 31, 32] ?_
    refine CodeP.loopc hT hm (X := Nat × Int × Int) (fun x => [(32, .int .i64 (.nat x.1)), (7, i64 x.2.1), (8, i64 x.2.2)]) (fun x => x.1 ≤ n ∧ (x.2.1, x.2.2) = BA x.1) (fun x => n - x.1) (0, (n : Int) + 1, 0) ⟨Nat.zero_le _, hb0.symm⟩ (Nat.zero_le _) ?_ rfl ?_
    · (cbv; (repeat' (first | exact SnD.refl _ | exact trivial | exact SnD.nat0 | refine And.intro ?_ ?_)))
      · refine .eq (.int ?_)
        show IntKind.i64.wrap ((n : Int) + 1) = (n : Int) + 1
        exact w64 (by omega) (by omega)
      · exact .eq (.int rfl)
    intro ⟨k, least, at_⟩ ⟨hk, hq⟩
    simp only at hk hq
    cbv
    refine SplitP.mk (fun hs => ?_) (fun hs => ?_)
    · have hkn : k < n := by
        have h1 : decide ((k : Int) < (n : Int)) = true := hs
        have := of_decide_eq_true h1
        omega
      refine CallP.pre [.agg [.int .i64 (.nat n), .mg .i64 GF (.nat gm)], .slm 1 (some (.var false)) UserD.c U, i64 (k : Int)] _ (.cons (.eq (.refl _)) (.cons (.eq (.refl _)) (.cons (.eq (.int (e' := .var (k : Int)) rfl)) .nil))) (HEnt.refl _) rfl rfl (CallP.pure _ (hst (k : Int) ⟨Int.natCast_nonneg k, Int.ofNat_lt.2 hkn⟩) rfl ?_)
      have hq2 := hbS k
      rw [← hq] at hq2
      unfold bestStep at hq2
      cbv
      refine LetOP.mk (fun hd => ?_) (fun d hd => ?_)
      · replace hd : DS (k : Int) (k : Int) = none := hd
        rw [hd] at hq2
        cbv
        refine BackP.intro (k + 1, least, at_) ⟨by show k + 1 ≤ n; omega, hq2.symm⟩ (by show n - (k + 1) < n - k; omega) ⟨?_, HEnt.refl _, rfl⟩
        (cbv; (repeat' (first | exact SnD.refl _ | exact trivial | exact SnD.nat0 | refine And.intro ?_ ?_)))
        exact .inc (by omega)
      · replace hd : DS (k : Int) (k : Int) = some d := hd
        rw [hd] at hq2
        simp only at hq2
        cbv
        refine SplitP.mk (fun hs => ?_) (fun hs => ?_)
        · have h1 := of_decide_eq_true (show decide (d < least) = true from hs)
          rw [if_pos h1] at hq2
          refine BackP.intro (k + 1, d, (k : Int)) ⟨by show k + 1 ≤ n; omega, hq2.symm⟩ (by show n - (k + 1) < n - k; omega) ⟨?_, HEnt.refl _, rfl⟩
          (cbv; (repeat' (first | exact SnD.refl _ | exact trivial | exact SnD.nat0 | refine And.intro ?_ ?_)))
          · exact .inc (by omega)
          · exact .eq (.int rfl)
        · have h1 := of_decide_eq_false (show decide (d < least) = false from hs)
          rw [if_neg h1] at hq2
          refine BackP.intro (k + 1, least, at_) ⟨by show k + 1 ≤ n; omega, hq2.symm⟩ (by show n - (k + 1) < n - k; omega) ⟨?_, HEnt.refl _, rfl⟩
          (cbv; (repeat' (first | exact SnD.refl _ | exact trivial | exact SnD.nat0 | refine And.intro ?_ ?_)))
          exact .inc (by omega)
    · have hkn : k = n := by
        have h1 : decide ((k : Int) < (n : Int)) = false := hs
        have := of_decide_eq_false h1
        omega
      subst hkn
      rw [← hq] at hhc hl
      simp only [Bool.true_and] at hhc
      have hbI2 := hbI k
      rw [← hq] at hbI2
      simp only at hbI2 hl
      try simp only [ncast] at hbI2
      try simp only [ncast] at hhc
      refine CodeP.keep [2, 3, 4, 5, 6, 7, 8] ?_
      refine CodeP.seq (vc_sound hT hm _ ?_)
      cbv
      refine SplitP.mk (fun hs => ?_) (fun hs => ?_)
      · have h1 : least > (k : Int) := of_decide_eq_true (show decide (least > (k : Int)) = true from hs)
        try simp only [ncast] at h1
        have h2 : hc = false := by rw [hhc]; exact decide_eq_false (Int.not_le.2 h1)
        subst h2
        replace hl : l = [] := hl
        refine .mk (.cons (.eq (.nilv hl ?_)) (.cons (.eq (.bool rfl)) (.cons (.eq (.int ?_)) .nil))) rfl
        · rw [BE.var_d, hlb, hl]; rfl
        · rw [IE.lit_d, IE.var_d, he]; rfl
      have h1 : ¬ least > (k : Int) := of_decide_eq_false (show decide (least > (k : Int)) = false from hs)
      try simp only [ncast] at h1
      have h2 : hc = true := by rw [hhc]; exact decide_eq_true (Int.not_lt.1 h1)
      subst h2
      simp only [if_true] at hl
      obtain ⟨a, ha, rfl, hda⟩ := hbI2 (Int.not_lt.1 h1)
      refine CodeP.seq (vc_sound hT hm _ ?_)
      cbv
      refine CallP.pre [.agg [.int .i64 (.nat k), .mg .i64 GF (.nat gm)], .slm 1 (some (.var false)) UserD.c U, i64 (a : Int)] _ (.cons (.eq (.refl _)) (.cons (.eq (.refl _)) (.cons (.eq (.int rfl)) .nil))) (HEnt.refl _) rfl rfl (CallP.pure _ (hst (a : Int) ⟨Int.natCast_nonneg a, Int.ofNat_lt.2 ha⟩) rfl ?_)
      cbv
      refine CodeP.seq (CodeP.ops ?_)
      refine OpsP.step hT ?_
      cbv
      refine OpsP.own hT rfl ?_
      cbv
      refine OpsP.rest hT ?_
      cbv
      refine CodeP.seq (vc_sound hT hm _ ?_)
      cbv
      have hl7 : least ≤ 7 := Int.le_trans (show least ≤ Int.ofNat k from Int.not_lt.1 h1) (Int.ofNat_le.2 hn7)
      have hl1 : 1 ≤ least := hpos _ _ _ hda
      obtain ⟨DA, hDA⟩ : ∃ D, D = DS (a : Int) := ⟨_, rfl⟩
      have hha : HD (a : Int) = true := hhd (to := (a : Int)) (by unfold fiB; rw [hda]; rfl)
      have hhx : ∀ x, fiB DA x = true → HD x = true := fun x hx => hhd (to := (a : Int)) (by rw [← hDA]; exact hx)
      rw [← hDA] at hl ⊢
      refine CodeP.keep [2, 3, 4, 5, 7, 8, 12] ?_
      refine CodeP.seq (vc_sound hT hm _ ?_)
      cbv
      refine CodeP.keep [2, 3, 4, 5, 12, 13, 14] ?_
      refine CodeP.loopm hT hm (X := Nat × Int × List Int × Nat) (fun x => [(2, .osl 1 2 x.2.2.2 (.lit false) (.lit 0) (.nat x.2.2.2)), (13, i64 x.2.1), (14, .int .i64 (.nat (x.1 + 1)))]) (fun x => [.dead, .cells [.int .i64 (.nat k), .mg .i64 GF (.nat gm)], .row 3 1 x.2.2.2 (.map intC x.2.2.1)])
        (fun x => x.2.2.1 ++ WP DA x.1 x.2.1 = l ∧ x.2.2.1.length = x.2.2.2 ∧ x.1 + x.2.2.2 ≤ 100 ∧ 1 ≤ x.2.2.2 ∧ HD x.2.1 = true) (fun x => x.1) (least.toNat - 1, (a : Int), [(a : Int)], 1) ⟨hl.symm, rfl, by simp only; omega, Nat.le_refl _, hha⟩ (fun _ => by simp) ⟨?_, ?_, rfl⟩ ?_
      · (cbv; (repeat' (first | exact SnD.refl _ | exact trivial | exact SnD.nat0 | refine And.intro ?_ ?_)))
        · exact .eq (.osl rfl rfl rfl)
        · refine .eq (.int ?_)
          show least = ((least.toNat - 1 + 1 : Nat) : Int)
          omega
      · exact ⟨.dead _, .refl _, .row rfl, trivial⟩
      intro ⟨m, here, acc, q⟩ ⟨hacc, hql, hmq, hq1, hh⟩
      simp only at hacc hql hmq hq1 hh
      cbv
      refine SplitP.mk (fun hs => ?_) (fun hs => ?_)
      · have hm0 : 0 < m := by
          have h1 := of_decide_eq_true (show decide (((m + 1 : Nat) : Int) > 1) = true from hs)
          omega
        obtain ⟨m, rfl⟩ : ∃ m', m = m' + 1 := ⟨m - 1, by omega⟩
        cbv
        refine LetDP.mk (fun hn => ?_) (fun d hd => ?_)
        · exfalso
          replace hn : GF here = none := hn
          rw [hGF, hh] at hn
          cases hn
        replace hd : GF here = some d := hd
        rw [hGF, hh] at hd
        obtain rfl : D.mg .i64 (boolF (ND here)) (.nat (CN here)) = d := Option.some.inj hd
        cbv
        refine (CallP.inl hT hm (hP ▸ Try.func27) rfl (by kernel_rfl) (rs := [.tmp 2]) rfl (by kernel_rfl) ?_)
        unfold Try.f27
        dsimp only
        cbv
        refine hsort (KS here) rfl (fun x => hks3 rfl here x) (hks1 here) (by show ((CN here : Nat) : Int) ≤ 1000; exact Int.ofNat_le.2 (hcn here)) (hks2 here) ?_
        cbv
        have hks5 := hks4 here
        obtain ⟨ks, hks⟩ : ∃ ks, ks = KS here := ⟨_, rfl⟩
        have hWs1 := fun y => hWs DA m here y
        have hWn1 := hWn DA m here
        rw [← hks] at hks5 hWs1 hWn1 ⊢
        obtain ⟨kl, hkl⟩ : ∃ n : Nat, n = ks.length := ⟨_, rfl⟩
        refine CodeP.loopc hT hm (X := Nat) (fun i => [(76, .int .i64 (.nat i)), (2, .osl 1 2 q (.lit false) (.lit 0) (.nat q))]) (fun i => i ≤ ks.length ∧ ks.find? (fun y => decide ((DA y).getD 0 = ((m + 1 : Nat) : Int))) = (ks.drop i).find? (fun y => decide ((DA y).getD 0 = ((m + 1 : Nat) : Int)))) (fun i => kl - i) 0 ⟨Nat.zero_le _, rfl⟩ (Nat.zero_le _) ?_ rfl ?_
        · (cbv; (repeat' (first | exact SnD.refl _ | exact trivial | exact SnD.nat0 | refine And.intro ?_ ?_)))
        have hsub : binDen .sub .i64 (((m + 2 : Nat)) : Int) 1 = ((m + 1 : Nat) : Int) := by rw [sub64 (by omega) (by omega)]; omega
        intro i ⟨hi, hfi⟩
        cbv
        refine SplitP.mk (fun hs => ?_) (fun hs => ?_)
        · have hkn : i < ks.length := by
            have h5 : decide ((i : Int) < (ks.length : Int)) = true := hs
            have := of_decide_eq_true h5
            omega
          refine ElemP.mk (by show (0 : Int) ≤ (i : Int) ∧ (i : Int) < (ks.length : Int); omega) (fun y hy => ?_)
          replace hy : ks[i]? = some y := hy
          rw [drop_cons hy, List.find?_cons] at hfi
          cbv
          refine LetOP.mk (fun hn => ?_) (fun d hd => ?_)
          · replace hn : DA y = none := hn
            have hne : decide ((DA y).getD 0 = ((m + 1 : Nat) : Int)) = false := by rw [hn]; exact decide_eq_false (by simp; omega)
            rw [hne] at hfi
            simp only at hfi
            cbv
            refine SplitP.mk (fun hs => ?_) (fun hs => ?_)
            · exfalso
              have h5 : ((0 : Int) == binDen .sub .i64 (((m + 2 : Nat)) : Int) 1) = true := hs
              rw [hsub] at h5
              exact absurd (eq_of_beq h5).symm (Int.natCast_ne_zero.2 (Nat.succ_ne_zero m))
            refine BackP.intro (i + 1) ⟨by omega, hfi⟩ (by show kl - (i + 1) < kl - i; omega) ⟨?_, HEnt.refl _, rfl⟩
            (cbv; (repeat' (first | exact SnD.refl _ | exact trivial | exact SnD.nat0 | refine And.intro ?_ ?_)))
            exact .inc (by omega)
          · replace hd : DA y = some d := hd
            rw [hd] at hfi
            cbv
            refine SplitP.mk (fun hs => ?_) (fun hs => ?_)
            · have h5 : (d == binDen .sub .i64 (((m + 2 : Nat)) : Int) 1) = true := hs
              rw [hsub] at h5
              have h6 := eq_of_beq h5
              rw [decide_eq_true (p := (some d).getD 0 = ((m + 1 : Nat) : Int)) h6] at hfi
              simp only at hfi
              rw [hWs1 y hfi] at hacc
              refine ReqP.mk (app_ok hql (by omega) (fun _ => rfl) rfl (by decide)) (fun _ => ?_)
              refine BackP.intro (m, y, acc ++ [y], q + 1) ⟨by show acc ++ [y] ++ WP DA m y = l; rw [List.append_assoc]; exact hacc, by show (acc ++ [y]).length = q + 1; rw [List.length_append, hql]; rfl, by show m + (q + 1) ≤ 100; omega, by show 1 ≤ q + 1; omega, hhx y (by unfold fiB; rw [hd]; rfl)⟩ (by show m < m + 1; omega) ⟨?_, ?_, rfl⟩
              · refine ⟨osl_step1 q, ?_⟩
                (cbv; (repeat' (first | exact SnD.refl _ | exact trivial | exact SnD.nat0 | refine And.intro ?_ ?_)))
                exact .eq (.int hsub)
              · exact ⟨.refl _, .refl _, row_app y rfl (.cons (.refl _) .nil), trivial⟩
            · have h5 : (d == binDen .sub .i64 (((m + 2 : Nat)) : Int) 1) = false := hs
              rw [hsub] at h5
              have h6 := beq_eq_false_iff_ne.1 h5
              rw [decide_eq_false (p := (some d).getD 0 = ((m + 1 : Nat) : Int)) h6] at hfi
              simp only at hfi
              refine BackP.intro (i + 1) ⟨by omega, hfi⟩ (by show kl - (i + 1) < kl - i; omega) ⟨?_, HEnt.refl _, rfl⟩
              (cbv; (repeat' (first | exact SnD.refl _ | exact trivial | exact SnD.nat0 | refine And.intro ?_ ?_)))
              exact .inc (by omega)
        · have hkn : ks.length ≤ i := by
            have h5 : decide ((i : Int) < (ks.length : Int)) = false := hs
            have := of_decide_eq_false h5
            omega
          rw [List.drop_of_length_le hkn] at hfi
          rw [hWn1 hfi, List.append_nil] at hacc
          refine CodeP.seq (vc_sound hT hm _ ?_)
          cbv
          refine vc_sound hT hm _ ?_
          cbv
          refine .mk (.cons (.slm rfl (.inl ⟨_, _, rfl, ?_⟩) rfl ?_ (fun e he => ?_)) (.cons (.eq (.bool rfl)) (.cons (.eq (.int ?_)) .nil))) rfl
          · show acc.map intC = l.map intC
            rw [hacc]
          · show (q : Int) = (l.length : Int)
            rw [← hacc, hql]
          · cases he
            show lb = false
            rw [hlb, ← hacc]
            cases acc with
            | nil => simp at hql; omega
            | cons _ _ => rfl
          · rw [IE.lit_d, IE.var_d, he]; rfl
      · have hm0 : m = 0 := by
          have h1 := of_decide_eq_false (show decide (((m + 1 : Nat) : Int) > 1) = false from hs)
          omega
        subst hm0
        rw [hW0, List.append_nil] at hacc
        refine CodeP.seq (vc_sound hT hm _ ?_)
        cbv
        refine vc_sound hT hm _ ?_
        cbv
        refine .mk (.cons (.slm rfl (.inl ⟨_, _, rfl, ?_⟩) rfl ?_ (fun e he => ?_)) (.cons (.eq (.bool rfl)) (.cons (.eq (.int ?_)) .nil))) rfl
        · show acc.map intC = l.map intC
          rw [hacc]
        · show (q : Int) = (l.length : Int)
          rw [← hacc, hql]
        · cases he
          show lb = false
          rw [hlb, ← hacc]
          cases acc with
          | nil => simp at hql; omega
          | cons _ _ => rfl
        · rw [IE.lit_d, IE.var_d, he]; rfl
end Go.Proofs.Ytdhfakajlnidiaa
namespace Go.Proofs.Ytdhfakajlnidiaa
open Go.RowKit

/-! Who has a distance: just those from whom a chain leads there. -/
inductive Rch (N : Int → Int → Bool) (to : Int) : Int → Prop
  | one {y : Int} (h : N y to = true) : Rch N to y
  | step {y z : Int} (h : N y z = true) (k : Rch N to z) : Rch N to y
section
variable {many : Nat} {L : Nat → List Int}
theorem FiOK.step {F : FI} {next : List Int} {c0 c : Nat} (h : FiOK many F next c0 c) {u n : Int} (hu : 0 ≤ u ∧ u < (many : Int)) : ∃ c', FiOK many (fiStep n (F, next) u).1 (fiStep n (F, next) u).2 c0 c' := by
  unfold fiStep
  show ∃ c', FiOK many (if (F u).isSome = true then (F, next) else (fun y => if y = u then some n else F y, next ++ [u])).1 (if (F u).isSome = true then (F, next) else (fun y => if y = u then some n else F y, next ++ [u])).2 c0 c'
  by_cases q : (F u).isSome = true
  · rw [if_pos q]; exact ⟨c, h⟩
  · have hF : F u = none := by
      cases hF : F u with
      | none => rfl
      | some y => rw [hF] at q; exact absurd rfl q
    rw [if_neg q]; exact ⟨c + 1, h.put hu hF⟩
theorem FiOK.row {n : Int} {c0 : Nat} : ∀ (us : List Int) {s : FI × List Int} {c : Nat}, FiOK many s.1 s.2 c0 c → (∀ u, u ∈ us → 0 ≤ u ∧ u < (many : Int)) → ∃ c', FiOK many (fiRow n s us).1 (fiRow n s us).2 c0 c'
  | [], s, c, h, _ => ⟨c, h⟩
  | u :: us, s, c, h, hu => by
    obtain ⟨c1, h1⟩ := FiOK.step (n := n) h (hu u (by simp))
    exact FiOK.row us h1 fun v hv => hu v (by simp [hv])
theorem FiOK.rnd {n : Int} {c0 : Nat} (hL : ∀ x, x < many → ∀ u, u ∈ L x → 0 ≤ u ∧ u < (many : Int)) : ∀ (layer : List Int) {s : FI × List Int} {c : Nat}, FiOK many s.1 s.2 c0 c → (∀ x, x ∈ layer → 0 ≤ x ∧ x < (many : Int)) → ∃ c', FiOK many (layer.foldl (fun s x => fiRow n s (L x.toNat)) s).1 (layer.foldl (fun s x => fiRow n s (L x.toNat)) s).2 c0 c'
  | [], s, c, h, _ => ⟨c, h⟩
  | y :: layer, s, c, h, hl => by
    have hy := hl y (by simp)
    obtain ⟨c1, h1⟩ := FiOK.row (n := n) (L y.toNat) h (hL y.toNat (by omega))
    exact FiOK.rnd hL layer h1 fun v hv => hl v (by simp [hv])
theorem fi_stops (hL : ∀ x, x < many → ∀ u, u ∈ L x → 0 ≤ u ∧ u < (many : Int)) {to : Int} (hto : 0 ≤ to ∧ to < (many : Int)) : ∃ t, t ≤ many + 1 ∧ (fiAt L to t).2 = [] := by
  refine Classical.byContradiction fun hno => ?_
  have hne : ∀ t, t ≤ many + 1 → (fiAt L to t).2 ≠ [] := fun t ht he => hno ⟨t, ht, he⟩
  have hc : ∀ t, t ≤ many + 1 → t ≤ cnt many (fiB (fiAt L to t).1) := fun t => by
    induction t with
    | zero => exact fun _ => Nat.zero_le _
    | succ t ih =>
      intro ht
      have h1 := ih (by omega)
      obtain ⟨g1, g2⟩ := fiAt_key hL hto t
      obtain ⟨c', h2⟩ := FiOK.rnd (n := ((t + 1 : Nat) : Int)) (c0 := cnt many (fiB (fiAt L to t).1)) hL (fiAt L to t).2 (s := ((fiAt L to t).1, [])) (c := cnt many (fiB (fiAt L to t).1)) ⟨g1, (fun x hx => by cases hx), rfl, rfl⟩ g2
      have h3 : (fiAt L to (t + 1)).2 ≠ [] := hne (t + 1) ht
      have h4 := List.length_pos_iff.2 h3
      have h5 := h2.len
      have h6 := h2.cnt
      have h7 : cnt many (fiB (fiAt L to (t + 1)).1) = c' := h6.symm
      have h8 : c' = cnt many (fiB (fiAt L to t).1) + (fiAt L to (t + 1)).2.length := h5
      omega
  have := hc (many + 1) (Nat.le_refl _)
  have := cnt_le many (fiB (fiAt L to (many + 1)).1)
  omega
theorem fiStep_mono {n : Int} {s : FI × List Int} {u y : Int} (h : fiB s.1 y = true) : fiB (fiStep n s u).1 y = true := by
  unfold fiStep
  split
  · exact h
  · unfold fiB at h ⊢
    by_cases q : y = u <;> simp [q, h]
theorem fiStep_has {n : Int} {s : FI × List Int} {u : Int} : fiB (fiStep n s u).1 u = true := by
  unfold fiStep
  split
  · assumption
  · unfold fiB; simp
theorem fiStep_new {n : Int} {s : FI × List Int} {u y : Int} (h : fiB (fiStep n s u).1 y = true) : fiB s.1 y = true ∨ y ∈ (fiStep n s u).2 := by
  unfold fiStep at h ⊢
  split at h
  · exact .inl h
  · next q =>
    rw [if_neg q]
    by_cases e : y = u
    · exact .inr (by simp [e])
    · refine .inl ?_
      unfold fiB at h ⊢
      simpa [e] using h
theorem fiStep_list {n : Int} {s : FI × List Int} {u y : Int} (h : y ∈ s.2) : y ∈ (fiStep n s u).2 := by
  unfold fiStep
  split
  · exact h
  · simp [h]
theorem fiRow_all {n : Int} : ∀ (us : List Int) (s : FI × List Int), (∀ y, fiB s.1 y = true → fiB (fiRow n s us).1 y = true) ∧ (∀ y, y ∈ us → fiB (fiRow n s us).1 y = true) ∧ (∀ y, y ∈ s.2 → y ∈ (fiRow n s us).2) ∧ ∀ y, fiB (fiRow n s us).1 y = true → fiB s.1 y = true ∨ y ∈ (fiRow n s us).2
  | [], s => ⟨fun _ h => h, (fun y hy => by cases hy), fun _ h => h, fun _ h => .inl h⟩
  | u :: us, s => by
    obtain ⟨h1, h2, h3, h4⟩ := fiRow_all (n := n) us (fiStep n s u)
    refine ⟨fun y hy => h1 y (fiStep_mono hy), fun y hy => ?_, fun y hy => h3 y (fiStep_list hy), fun y hy => ?_⟩
    · rcases List.mem_cons.1 hy with rfl | q
      · exact h1 _ fiStep_has
      · exact h2 y q
    · rcases h4 y hy with q | q
      · rcases fiStep_new q with q | q
        · exact .inl q
        · exact .inr (h3 y q)
      · exact .inr q
theorem fiRnd_all {n : Int} : ∀ (layer : List Int) (s : FI × List Int), (∀ y, fiB s.1 y = true → fiB (layer.foldl (fun s x => fiRow n s (L x.toNat)) s).1 y = true) ∧ (∀ x, x ∈ layer → ∀ y, y ∈ L x.toNat → fiB (layer.foldl (fun s x => fiRow n s (L x.toNat)) s).1 y = true) ∧
    (∀ y, y ∈ s.2 → y ∈ (layer.foldl (fun s x => fiRow n s (L x.toNat)) s).2) ∧ ∀ y, fiB (layer.foldl (fun s x => fiRow n s (L x.toNat)) s).1 y = true → fiB s.1 y = true ∨ y ∈ (layer.foldl (fun s x => fiRow n s (L x.toNat)) s).2
  | [], s => ⟨fun _ h => h, (fun y hy => by cases hy), fun _ h => h, fun _ h => .inl h⟩
  | x :: layer, s => by
    obtain ⟨h1, h2, h3, h4⟩ := fiRnd_all (n := n) layer (fiRow n s (L x.toNat))
    obtain ⟨g1, g2, g3, g4⟩ := fiRow_all (n := n) (L x.toNat) s
    refine ⟨fun y hy => h1 y (g1 y hy), fun z hz y hy => ?_, fun y hy => h3 y (g3 y hy), fun y hy => ?_⟩
    · rcases List.mem_cons.1 hz with rfl | q
      · exact h1 y (g2 y hy)
      · exact h2 z q y hy
    · rcases h4 y hy with q | q
      · rcases g4 y q with q | q
        · exact .inl q
        · exact .inr (h3 y q)
      · exact .inr q
theorem fiAt_mono {to : Int} {t : Nat} {y : Int} (h : fiB (fiAt L to t).1 y = true) : fiB (fiAt L to (t + 1)).1 y = true := (fiRnd_all (fiAt L to t).2 ((fiAt L to t).1, [])).1 y h
theorem fi_closed {to : Int} : ∀ t y, (y = to ∨ fiB (fiAt L to t).1 y = true) → y ∉ (fiAt L to t).2 → ∀ u, u ∈ L y.toNat → fiB (fiAt L to t).1 u = true
  | 0, y, h, hn, u, hu => by
    rcases h with rfl | h
    · exact absurd (by show y ∈ [y]; simp) hn
    · cases h
  | t + 1, y, h, hn, u, hu => by
    obtain ⟨g1, g2, g3, g4⟩ := fiRnd_all (n := ((t + 1 : Nat) : Int)) (L := L) (fiAt L to t).2 ((fiAt L to t).1, [])
    have h2 : y = to ∨ fiB (fiAt L to t).1 y = true := by
      rcases h with q | q
      · exact .inl q
      · rcases g4 y q with q | q
        · exact .inr q
        · exact absurd q hn
    by_cases hy : y ∈ (fiAt L to t).2
    · exact g2 y hy u hu
    · exact g1 u (fi_closed t y h2 hy u hu)
end
theorem fiAt_rch {L : Nat → List Int} {N : Int → Int → Bool} {to : Int} (hN : ∀ y u, u ∈ L y → N u (y : Int) = true) {many : Nat} (hL : ∀ x, x < many → ∀ u, u ∈ L x → 0 ≤ u ∧ u < (many : Int)) (hto : 0 ≤ to ∧ to < (many : Int)) : ∀ t, (∀ y, fiB (fiAt L to t).1 y = true → Rch N to y) ∧ ∀ y, y ∈ (fiAt L to t).2 → y = to ∨ Rch N to y
  | 0 => ⟨fun y hy => (by cases hy), fun y hy => .inl (List.mem_singleton.1 hy)⟩
  | t + 1 => by
    obtain ⟨h1, h2⟩ := fiAt_rch hN hL hto t
    have hk := (fiAt_key hL hto t).2
    have hstep : ∀ {n : Int} {s : FI × List Int} {u : Int}, Rch N to u → (∀ y, fiB s.1 y = true → Rch N to y) ∧ (∀ y, y ∈ s.2 → y = to ∨ Rch N to y) → (∀ y, fiB (fiStep n s u).1 y = true → Rch N to y) ∧ ∀ y, y ∈ (fiStep n s u).2 → y = to ∨ Rch N to y := fun {n s u} hu h => by
      unfold fiStep
      split
      · exact h
      · refine ⟨fun y hy => ?_, fun y hy => ?_⟩
        · by_cases e : y = u
          · rw [e]; exact hu
          · refine h.1 y ?_
            unfold fiB at hy ⊢
            simpa [e] using hy
        · rcases List.mem_append.1 hy with q | q
          · exact h.2 y q
          · rw [List.mem_singleton.1 q]; exact .inr hu
    have hrow : ∀ {n : Int} (us : List Int) (s : FI × List Int), (∀ u, u ∈ us → Rch N to u) → (∀ y, fiB s.1 y = true → Rch N to y) ∧ (∀ y, y ∈ s.2 → y = to ∨ Rch N to y) → (∀ y, fiB (fiRow n s us).1 y = true → Rch N to y) ∧ ∀ y, y ∈ (fiRow n s us).2 → y = to ∨ Rch N to y := fun {n} us => by
      induction us with
      | nil => exact fun s _ h => h
      | cons u us ih => exact fun s hu h => ih (fiStep n s u) (fun v hv => hu v (by simp [hv])) (hstep (hu u (by simp)) h)
    have hrnd : ∀ {n : Int} (layer : List Int) (s : FI × List Int), (∀ x, x ∈ layer → (x = to ∨ Rch N to x) ∧ 0 ≤ x) → (∀ y, fiB s.1 y = true → Rch N to y) ∧ (∀ y, y ∈ s.2 → y = to ∨ Rch N to y) →
        (∀ y, fiB (layer.foldl (fun s x => fiRow n s (L x.toNat)) s).1 y = true → Rch N to y) ∧ ∀ y, y ∈ (layer.foldl (fun s x => fiRow n s (L x.toNat)) s).2 → y = to ∨ Rch N to y := fun {n} layer => by
      induction layer with
      | nil => exact fun s _ h => h
      | cons z layer ih =>
        intro s hz h
        refine ih _ (fun v hv => hz v (by simp [hv])) (hrow (L z.toNat) s (fun u hu => ?_) h)
        obtain ⟨q, hz0⟩ := hz z (by simp)
        have := hN z.toNat u hu
        rw [Int.toNat_of_nonneg hz0] at this
        rcases q with rfl | q
        · exact .one this
        · exact .step this q
    exact hrnd (fiAt L to t).2 ((fiAt L to t).1, []) (fun x hx => ⟨h2 x hx, (hk x hx).1⟩) ⟨h1, fun y hy => by cases hy⟩
/-- distance, and chain -/
theorem dist_rch {S : SourceD} (hb : numberedB S.schemas.length S.rules = true) {to : Int} (hto : 0 ≤ to ∧ to < (S.schemas.length : Int)) (y : Int) : fiB (distS S to) y = true ↔ Rch (needsB S.rules) to y := by
  have hL : ∀ x, x < S.schemas.length → ∀ u, u ∈ usesL (graphOf S) x → 0 ≤ u ∧ u < (S.schemas.length : Int) := fun x hx => (uses_ok x hx).2
  have hin : ∀ x : Nat, ∀ u : Int, u ∈ usesL (graphOf S) x → needsB S.rules u x = true := fun x u hu => by
    unfold usesL usesK at hu
    rw [List.mem_filterMap] at hu
    obtain ⟨i, _, h2⟩ := hu
    split at h2
    · next q =>
      cases h2
      simp only [Bool.and_eq_true] at q
      exact q.2
    · cases h2
  constructor
  · exact fun h => (fiAt_rch hin hL hto _).1 y h
  · obtain ⟨t, ht, hs⟩ := fi_stops hL hto
    have e := (fiAt_stop hs (S.schemas.length + 1 - t)).1
    rw [show t + (S.schemas.length + 1 - t) = S.schemas.length + 1 by omega] at e
    have hcl : ∀ z u, (z = to ∨ fiB (distS S to) z = true) → needsB S.rules u z = true → fiB (distS S to) u = true := fun z u hz hu => by
      have hz2 : z = to ∨ fiB (fiAt (usesL (graphOf S)) to t).1 z = true := by
        rw [← e]; exact hz
      obtain ⟨hu1, hz1⟩ := numbered_in hb hu
      have hmem : u ∈ usesL (graphOf S) z.toNat := by
        unfold usesL usesK
        rw [List.mem_filterMap]
        refine ⟨u.toNat, List.mem_range.2 (by show u.toNat < S.schemas.length; omega), ?_⟩
        have e1 : ((u.toNat : Nat) : Int) = u := Int.toNat_of_nonneg hu1.1
        have e2 : ((z.toNat : Nat) : Int) = z := Int.toNat_of_nonneg hz1.1
        have hh : heads S.rules u = true := by
          refine Classical.byContradiction fun q => ?_
          have := heads_no (R := S.rules) (x := u) (by simpa using q) z
          rw [hu] at this
          cases this
        rw [e1, e2]
        have h3 : ((graphOf S).hd u && (graphOf S).nd u z) = true := by
          show (heads S.rules u && needsB S.rules u z) = true
          rw [hh, hu]
          rfl
        rw [if_pos h3]
      have := fi_closed (L := usesL (graphOf S)) (to := to) t z hz2 (by rw [hs]; simp) u hmem
      show fiB (fiAt (usesL (graphOf S)) to (S.schemas.length + 1)).1 u = true
      rw [e]
      exact this
    intro h
    induction h with
    | one h => exact hcl to _ (.inl rfl) h
    | step h _ ih => exact hcl _ _ (.inr ih) h
end Go.Proofs.Ytdhfakajlnidiaa
namespace Go.Proofs.Ytdhfakajlnidiaa
open Go.RowKit

/-! Above, of the reference. -/
abbrev boolC (b : Bool) : List D := [.bool (.var b)]
theorem rep_rowB {H H' : List Bk} {ty ver m : Nat} {l : List Bool} {n : IE} (hl : l = List.replicate m false) (hn : n.den = (m : Int)) : BkEq H H' (.row ty 1 ver (.rep n [.bool (.lit false)])) (.row ty 1 ver (.map boolC l)) := by
  subst hl
  have h1 : (RE.rep n [.bool (.lit false)]).den = List.replicate m [.bool (.lit false)] := by simp only [RE.den, hn, Int.toNat_natCast]
  have h2 : (RE.map boolC (List.replicate m false)).den = List.replicate m (boolC false) := List.map_replicate
  refine .rowe (by rw [h1, h2, List.length_replicate, List.length_replicate]) fun i e e' he he' => ?_
  rw [h1, List.getElem?_replicate] at he
  rw [h2, List.getElem?_replicate] at he'
  split at he
  · next q =>
    rw [if_pos q] at he'
    simp only [Option.some.injEq] at he he'
    subst he
    subst he'
    refine ⟨rfl, fun j d d' hd hd' => ?_⟩
    cases j with
    | zero =>
      simp only [boolC, List.getElem?_cons_zero, Option.some.injEq] at hd hd'
      subst hd
      subst hd'
      exact .bool rfl
    | succ j => simp at hd
  · cases he
theorem upd_rowB {H H' : List Bk} {ty ver k : Nat} {l l' : List Bool} {i : IE} {e : BE} {v : Bool} (hk : i.den.toNat = k) (he : e.den = v) (hl : l.set k v = l') : BkEq H H' (.row ty 1 ver (.upd (.map boolC l) i 0 [.bool e])) (.row ty 1 ver (.map boolC l')) := by
  subst hl
  have h1 : (RE.upd (.map boolC l) i 0 [.bool e]).den = (l.map boolC).modify k (fun cs => over cs 0 [.bool e]) := by simp only [RE.den, hk]
  have h2 : (RE.map boolC (l.set k v)).den = (l.set k v).map boolC := rfl
  refine .rowe (by rw [h1, h2]; simp) fun j a b ha hb => ?_
  rw [h1, List.getElem?_modify, List.getElem?_map] at ha
  rw [h2, List.getElem?_map, List.getElem?_set] at hb
  by_cases q : k = j
  · subst q
    cases hx : l[k]? with
    | none => rw [hx] at ha; simp at ha
    | some x =>
      have hlt := (List.getElem?_eq_some_iff.1 hx).1
      rw [hx] at ha
      simp only [Option.map_some, Option.map_eq_map, if_true, Option.some.injEq] at ha
      simp only [if_true, hlt, Option.map_some, Option.some.injEq] at hb
      subst ha
      subst hb
      refine ⟨rfl, fun j d d' hd hd' => ?_⟩
      cases j with
      | zero =>
        simp only [over, boolC, List.take_zero, List.nil_append, List.cons_append, List.getElem?_cons_zero, Option.some.injEq] at hd hd'
        subst hd
        subst hd'
        exact .bool he
      | succ j => simp [over, boolC] at hd
  · rw [if_neg q] at hb
    simp only [q, if_false, Option.map_eq_map, Option.map_id_fun', id_eq] at ha
    rw [ha] at hb
    cases hb
    exact ⟨rfl, fun j d d' hd hd' => by rw [hd] at hd'; cases hd'; exact .refl _⟩
/-- the marks of what was found -/
def marksL (n : Nat) (acc : List Int) : List Bool := (List.range n).map fun j : Nat => decide ((j : Int) ∈ acc)
theorem marksL_nil (n : Nat) : marksL n [] = List.replicate n false := by
  unfold marksL
  refine List.ext_getElem (by simp) fun i h1 h2 => ?_
  simp
theorem marksL_len (n : Nat) (acc : List Int) : (marksL n acc).length = n := by simp [marksL]
theorem marksL_get {n : Nat} {acc : List Int} {j : Nat} (h : j < n) : (marksL n acc)[j]? = some (decide ((j : Int) ∈ acc)) := by
  unfold marksL
  rw [List.getElem?_map, List.getElem?_range h]
  rfl
theorem marksL_set {n : Nat} {acc : List Int} {j : Nat} : (marksL n acc).set j true = marksL n (acc ++ [(j : Int)]) := by
  refine List.ext_getElem? fun k => ?_
  rw [List.getElem?_set, marksL_len]
  by_cases hk : k < n
  · by_cases q : j = k
    · subst q
      rw [if_pos rfl, if_pos hk, marksL_get hk]
      simp
    · rw [if_neg q, marksL_get hk, marksL_get hk]
      have : decide ((k : Int) ∈ acc ++ [(j : Int)]) = decide ((k : Int) ∈ acc) := decide_eq_decide.2 ⟨fun h => by
        rcases List.mem_append.1 h with h | h
        · exact h
        · have := List.mem_singleton.1 h; omega, fun h => List.mem_append_left _ h⟩
      rw [this]
  · have e1 : (marksL n acc)[k]? = none := List.getElem?_eq_none (by rw [marksL_len]; omega)
    have e2 : (marksL n (acc ++ [(j : Int)]))[k]? = none := List.getElem?_eq_none (by rw [marksL_len]; omega)
    rw [e1, e2]
    split
    · rw [if_neg (by omega)]
    · rfl
/-- what holds while the reference gathers what is above x -/
structure AbvOK (n : Nat) (N : Int → Int → Bool) (x : Int) (acc : List Int) : Prop where
  rng : ∀ y, y ∈ acc → 0 ≤ y ∧ y < (n : Int)
  rch : ∀ y, y ∈ acc → Rch N x y
  len : acc.length = cnt n fun y => decide (y ∈ acc)
theorem AbvOK.le {n : Nat} {N : Int → Int → Bool} {x : Int} {acc : List Int} (h : AbvOK n N x acc) : acc.length ≤ n := by
  rw [h.len]
  exact cnt_le _ _
theorem AbvOK.nil (n : Nat) (N : Int → Int → Bool) (x : Int) : AbvOK n N x [] := by
  refine ⟨(fun y hy => by cases hy), (fun y hy => by cases hy), ?_⟩
  unfold cnt
  symm
  rw [List.length_nil, List.length_eq_zero_iff, List.filter_eq_nil_iff]
  intro i _
  simp
theorem AbvOK.put {n : Nat} {N : Int → Int → Bool} {x : Int} {acc : List Int} (h : AbvOK n N x acc) {j : Nat} (hj : j < n) (hn : (j : Int) ∉ acc) (hr : Rch N x (j : Int)) : AbvOK n N x (acc ++ [(j : Int)]) := by
  refine ⟨fun y hy => ?_, fun y hy => ?_, ?_⟩
  · rcases List.mem_append.1 hy with q | q
    · exact h.rng y q
    · rw [List.mem_singleton.1 q]; omega
  · rcases List.mem_append.1 hy with q | q
    · exact h.rch y q
    · rw [List.mem_singleton.1 q]; exact hr
  · have e := cnt_ins (n := n) (T := fun y => decide (y ∈ acc)) (T' := fun y => decide (y ∈ acc ++ [(j : Int)])) (x := j) hj (fun y => by
      rw [Bool.eq_iff_iff]
      simp)
    rw [e, decide_eq_false hn, List.length_append, h.len]
    rfl
/-- the first i of x :: acc are dealt with -/
def AbvDone (n : Nat) (N : Int → Int → Bool) (x : Int) (acc : List Int) (i : Nat) : Prop := ∀ i' z, i' < i → (x :: acc)[i']? = some z → ∀ y, N y z = true → y ∈ acc
theorem AbvDone.app {n : Nat} {N : Int → Int → Bool} {x : Int} {acc : List Int} {i : Nat} (h : AbvDone n N x acc i) (hi : i ≤ acc.length + 1) (z : Int) : AbvDone n N x (acc ++ [z]) i := fun i' w hi' hw y hy => by
  have e : (x :: (acc ++ [z]))[i']? = (x :: acc)[i']? := by
    rw [← List.cons_append, List.getElem?_append_left (by simp; omega)]
  rw [e] at hw
  exact List.mem_append_left _ (h i' w hi' hw y hy)
theorem AbvDone.all {n : Nat} {N : Int → Int → Bool} {x : Int} {acc : List Int} (h : AbvDone n N x acc (acc.length + 1)) (hk : AbvOK n N x acc) (y : Int) : y ∈ acc ↔ Rch N x y := by
  refine ⟨hk.rch y, fun hr => ?_⟩
  induction hr with
  | one hy => exact h 0 x (by omega) rfl _ hy
  | step hy _ ih =>
    obtain ⟨i, hi⟩ := List.getElem?_of_mem ih
    have hlt := (List.getElem?_eq_some_iff.1 hi).1
    exact h (i + 1) _ (by omega) (by simpa using hi) _ hy
theorem numsL_succ (n : Nat) (T : Int → Bool) : numsL (n + 1) T = if T n then numsL n T ++ [(n : Int)] else numsL n T := by
  unfold numsL
  rw [List.range_succ, List.filter_append, List.map_append]
  cases h : T (n : Int) <;> simp [h]
set_option maxHeartbeats 8000000 in
set_option maxRecDepth 100000 in
set_option maxHeartbeats 4000000 in
theorem RAbove_pure (S : SourceD) (h : SmallS S) (x : Int) : Pure Try.prog 14 [.agg S.c, i64 x] (.tup [.slm 1 none intC (aboveL S x), i64 (aboveE S x)]) := by
  have hn7 := h.n
  have hNum := numbered_pure S (by omega) (by have := h.r; omega) (fun r hr => by have := h.f r hr; omega)
  have hNd := fun a b => Needs_pure S a b (by have := h.r; omega) (fun r hr => by have := h.f r hr; omega)
  have hrange : numberedB S.schemas.length S.rules = true → ∀ a b, needsB S.rules a b = true → (0 ≤ a ∧ a < (S.schemas.length : Int)) := fun hb a b hn => (numbered_in hb hn).1
  have hdist : numberedB S.schemas.length S.rules = true → numB S.schemas.length x = true → ∀ y, fiB (distS S x) y = true ↔ Rch (needsB S.rules) x y := fun hb hx => dist_rch hb (of_decide_eq_true hx)
  obtain ⟨l, hl⟩ : ∃ l, l = aboveL S x := ⟨_, rfl⟩
  obtain ⟨e, he⟩ : ∃ e, e = aboveE S x := ⟨_, rfl⟩
  rw [← hl, ← he]
  unfold aboveL at hl
  unfold aboveE at he
  obtain ⟨ND, hND⟩ : ∃ N, N = needsB S.rules := ⟨_, rfl⟩
  obtain ⟨DB, hDB⟩ : ∃ N, N = fiB (distS S x) := ⟨_, rfl⟩
  rw [← hDB] at hl hdist
  rw [← hND] at hNd hrange hdist
  obtain ⟨rb, hrb⟩ : ∃ b, b = numberedB S.schemas.length S.rules := ⟨_, rfl⟩
  rw [← hrb] at hNum hrange hdist hl he
  clear h hND hDB hrb
  obtain ⟨ni, is, nu, us, ns, ss, nr, rs, nc, cs, np, ps⟩ := S
  simp only at hn7 hrange hdist hl he
  obtain ⟨n, hn⟩ : ∃ n : Nat, n = ss.length := ⟨_, rfl⟩
  refine Pure.introC (want := [.slm 1 none intC l, i64 e]) T_ok Try.func14 rfl (by kernel_rfl) (rs := [.tmp 4, .tmp 5]) rfl (by kernel_rfl) ?_
  generalize hP : Try.prog = P at *
  have hT : T.ok P := hP ▸ T_ok
  have hm : P.follows .mixedOrders = true := hP ▸ follows
  unfold Try.f14
  dsimp only
  refine CodeP.seq (vc_sound hT hm _ ?_)
  cbv
  refine CodeP.seq (vc_sound hT hm _ ?_)
  cbv
  refine CallP.pure _ hNum rfl ?_
  cbv
  cases rb with
  | false =>
    refine SplitP.mk (fun hs => ?_) (fun hs => by cases hs)
    refine .mk (.cons (.eq (.nil0 hl)) (.cons (.eq (.int ?_)) .nil)) rfl
    rw [IE.lit_d, IE.var_d, he]; rfl
  | true =>
  refine SplitP.mk (fun hs => by cases hs) (fun hs => ?_)
  clear hs
  refine CodeP.seq (vc_sound hT hm _ ?_)
  cbv
  refine SplitP.mk (fun hs => ?_) (fun hs => ?_)
  · have h1 : x < 0 := of_decide_eq_true (show decide (x < 0) = true from hs)
    have h2 : numB ss.length x = false := decide_eq_false (by omega)
    rw [h2] at hl he
    refine .mk (.cons (.eq (.nil0 hl)) (.cons (.eq (.int ?_)) .nil)) rfl
    rw [IE.lit_d, IE.var_d, he]; rfl
  have hx0 : ¬ x < 0 := of_decide_eq_false (show decide (x < 0) = false from hs)
  refine SplitP.mk (fun hs => ?_) (fun hs => ?_)
  · have h1 : x ≥ (ss.length : Int) := of_decide_eq_true (show decide (x ≥ (ss.length : Int)) = true from hs)
    have h2 : numB ss.length x = false := decide_eq_false (by omega)
    rw [h2] at hl he
    refine .mk (.cons (.eq (.nil0 hl)) (.cons (.eq (.int ?_)) .nil)) rfl
    rw [IE.lit_d, IE.var_d, he]; rfl
  have hx1 : ¬ x ≥ (ss.length : Int) := of_decide_eq_false (show decide (x ≥ (ss.length : Int)) = false from hs)
  have h2 : numB ss.length x = true := decide_eq_true (by omega)
  rw [h2] at hl he
  replace hl : l = numsL ss.length DB := hl
  replace hdist := hdist rfl h2
  replace hrange := hrange rfl
  refine CodeP.seq (vc_sound hT hm _ ?_)
  cbv
  refine ReqP.mk ⟨by show (0 : Int) ≤ (ss.length : Int); omega, Int.le_refl _, by show (ss.length : Int) ≤ _; omega, by show (1 : Int) * (ss.length : Int) ≤ _; omega⟩ (fun _ => ?_)
  refine CodeP.seq (CodeP.ops ?_)
  refine OpsP.step hT ?_
  cbv
  refine OpsP.own hT rfl ?_
  cbv
  refine OpsP.rest hT ?_
  cbv
  refine CodeP.keep [1, 2, 4, 5, 6, 7, 8] ?_
  refine CodeP.seq (vc_sound hT hm _ ?_)
  cbv
  rw [← hn] at hl hrange hn7
  obtain ⟨M, hM⟩ : ∃ M, M = marksL n := ⟨_, rfl⟩
  have hM0 : M [] = List.replicate n false := by rw [hM]; exact marksL_nil n
  have hMl : ∀ acc, (M acc).length = n := fun acc => by rw [hM]; exact marksL_len n acc
  have hMg : ∀ acc j, j < n → (M acc)[j]? = some (decide ((j : Int) ∈ acc)) := fun acc j h => by rw [hM]; exact marksL_get h
  have hMs : ∀ acc (j : Nat), (M acc).set j true = M (acc ++ [(j : Int)]) := fun acc j => by rw [hM]; exact marksL_set
  clear hM
  refine CodeP.loopP (X := Nat × List Int × Nat) (fun y => [(2, .ptr 0 1 0), (8, .int .i64 (.nat y.1)), (6, .osl 1 1 1 (.lit false) (.lit 0) (.nat n)), (7, .osl 1 2 y.2.2 (.lit false) (.lit 0) (.nat y.2.2))])
    (fun y => [.cells (SourceD.c ⟨ni, is, nu, us, ns, ss, nr, rs, nc, cs, np, ps⟩), .row 4 1 1 (.map boolC (M y.2.1)), .row 3 1 y.2.2 (.map intC (x :: y.2.1))])
    (fun y => y.1 ≤ y.2.2 ∧ y.2.1.length + 1 = y.2.2 ∧ AbvOK n ND x y.2.1 ∧ AbvDone n ND x y.2.1 y.1) (fun y => n + 1 - y.1) (0, [], 1) ⟨Nat.zero_le _, rfl, AbvOK.nil _ _ _, fun i' z h => absurd h (Nat.not_lt_zero _)⟩ (fun _ => by simp) ⟨?_, ?_, rfl⟩ ?_
  · (cbv; (repeat' (first | exact SnD.refl _ | exact trivial | exact SnD.nat0 | refine And.intro ?_ ?_)))
    · exact .eq (.osl rfl rfl (by show (ss.length : Int) = (n : Int); rw [hn]))
    · exact .eq (.osl rfl rfl rfl)
  · exact ⟨.refl _, rep_rowB hM0 (by show (ss.length : Int) = (n : Int); rw [hn]), .row rfl, trivial⟩
  intro ⟨i, acc, q⟩ ⟨hi, hq, hOK, hDn⟩
  simp only at hi hq hOK hDn
  have hle := hOK.le
  refine vc_sound hT hm _ ?_
  cbv
  refine SplitP.mk (fun hs => ?_) (fun hs => ?_)
  · have hiq : i < q := by
      have h5 := of_decide_eq_true (show decide ((i : Int) < (q : Int)) = true from hs)
      omega
    obtain ⟨z, hz⟩ : ∃ z, (x :: acc)[i]? = some z := ⟨_, List.getElem?_eq_getElem (by simp; omega)⟩
    have hzr : z = x ∨ Rch ND x z := by
      rcases List.mem_cons.1 (List.mem_of_getElem? hz) with h | h
      · exact .inl h
      · exact .inr (hOK.rch z h)
    refine CodeP.loopP (X := Nat × List Int × Nat) (fun y => [(2, .ptr 0 1 0), (8, .int .i64 (.nat i)), (9, .int .i64 (.nat y.1)), (6, .osl 1 1 1 (.lit false) (.lit 0) (.nat n)), (7, .osl 1 2 y.2.2 (.lit false) (.lit 0) (.nat y.2.2))])
      (fun y => [.cells (SourceD.c ⟨ni, is, nu, us, ns, ss, nr, rs, nc, cs, np, ps⟩), .row 4 1 1 (.map boolC (M y.2.1)), .row 3 1 y.2.2 (.map intC (x :: y.2.1))])
      (fun y => y.1 ≤ n ∧ y.2.1.length + 1 = y.2.2 ∧ i < y.2.2 ∧ AbvOK n ND x y.2.1 ∧ AbvDone n ND x y.2.1 i ∧ (x :: y.2.1)[i]? = some z ∧ ∀ u : Nat, u < y.1 → ND (u : Int) z = true → (u : Int) ∈ y.2.1) (fun y => n - y.1) (0, acc, q) ⟨Nat.zero_le _, hq, hiq, hOK, hDn, hz, fun u h => absurd h (Nat.not_lt_zero _)⟩ (fun _ => by simp) ⟨?_, HEnt.refl _, rfl⟩ ?_
    · (cbv; (repeat' (first | exact SnD.refl _ | exact trivial | exact SnD.nat0 | refine And.intro ?_ ?_)))
    intro ⟨j, ac, p⟩ ⟨hj, hp, hip, hOK2, hDn2, hz2, hU⟩
    simp only at hj hp hip hOK2 hDn2 hz2 hU
    have hle2 := hOK2.le
    refine vc_sound hT hm _ ?_
    cbv
    refine SplitP.mk (fun hs => ?_) (fun hs => ?_)
    · have hjn : j < n := by
        have h5 := of_decide_eq_true (show decide ((j : Int) < (ss.length : Int)) = true from hs)
        omega
      refine ReqP.mk ⟨by show (0 : Int) ≤ (j : Int); omega, by show (j : Int) < (n : Int); omega⟩ (fun _ => ?_)
      refine ElemP.mk (by show (0 : Int) ≤ (j : Int) ∧ (j : Int) < ((M ac).length : Int); rw [hMl]; omega) (fun b hb => ?_)
      obtain rfl : decide ((j : Int) ∈ ac) = b := by
        have h5 : (M ac)[j]? = some b := hb
        rw [hMg ac j hjn] at h5
        exact Option.some.inj h5
      obtain ⟨bj, hbj⟩ : ∃ b, b = decide ((j : Int) ∈ ac) := ⟨_, rfl⟩
      rw [← hbj]
      cbv
      have hU2 : (ND (j : Int) z = true → (j : Int) ∈ ac) → ∀ u : Nat, u < j + 1 → ND (u : Int) z = true → (u : Int) ∈ ac := fun h u hu => by
        by_cases e : u = j
        · subst e; exact h
        · exact hU u (by omega)
      refine SplitP.mk (fun hs => ?_) (fun hs => ?_)
      rotate_left
      · have hbt : bj = true := by
          have h5 : (!bj) = false := hs
          simpa using h5
        rw [hbt] at hbj
        refine BackP.intro (j + 1, ac, p) ⟨by show j + 1 ≤ n; omega, hp, hip, hOK2, hDn2, hz2, hU2 fun _ => of_decide_eq_true hbj.symm⟩ (by show n - (j + 1) < n - j; omega) ⟨?_, HEnt.refl _, rfl⟩
        (cbv; (repeat' (first | exact SnD.refl _ | exact trivial | exact SnD.nat0 | refine And.intro ?_ ?_)))
        exact .inc (by omega)
      have hbf : bj = false := by
        have h5 : (!bj) = true := hs
        simpa using h5
      have hnot : (j : Int) ∉ ac := of_decide_eq_false (hbj.symm.trans hbf)
      refine ReqP.mk ⟨by show (0 : Int) ≤ (i : Int); omega, by show (i : Int) < (p : Int); omega⟩ (fun _ => ?_)
      refine ElemP.mk (by show (0 : Int) ≤ (i : Int) ∧ (i : Int) < (((x :: ac).length : Nat) : Int); simp only [List.length_cons]; omega) (fun zz hzz => ?_)
      obtain rfl : z = zz := by
        have h5 : (x :: ac)[i]? = some zz := hzz
        rw [hz2] at h5
        exact Option.some.inj h5
      cbv
      refine CallP.pre [.agg (SourceD.c ⟨ni, is, nu, us, ns, ss, nr, rs, nc, cs, np, ps⟩), i64 (j : Int), i64 z] _ (.cons (.eq (.refl _)) (.cons (.eq (.int rfl)) (.cons (.eq (.refl _)) .nil))) (HEnt.refl _) rfl rfl (CallP.pure _ (hNd (j : Int) z) rfl ?_)
      obtain ⟨nd, hnd⟩ : ∃ b, b = ND (j : Int) z := ⟨_, rfl⟩
      rw [← hnd]
      cbv
      refine SplitP.mk (fun hs => ?_) (fun hs => ?_)
      · replace hs : nd = true := hs
        rw [hs] at hnd
        have hput := hOK2.put hjn hnot (by
          rcases hzr with h | h
          · rw [h] at hnd; exact .one hnd.symm
          · exact .step hnd.symm h)
        refine ReqP.mk ⟨by show (0 : Int) ≤ (j : Int); omega, by show (j : Int) < (n : Int); omega⟩ (fun _ => ?_)
        refine ReqP.mk (by show j < ((M ac).map boolC).length; rw [List.length_map, hMl]; exact hjn) (fun _ => ?_)
        refine ReqP.mk (app_ok (by show (x :: ac).length = p; exact hp) (by omega) (fun _ => rfl) rfl (by decide)) (fun _ => ?_)
        refine BackP.intro (j + 1, ac ++ [(j : Int)], p + 1) ⟨by show j + 1 ≤ n; omega, by show (ac ++ [(j : Int)]).length + 1 = p + 1; rw [List.length_append]; simp; omega, by show i < p + 1; omega, hput, hDn2.app (by omega) _, ?_, fun u hu hN => ?_⟩ (by show n - (j + 1) < n - j; omega) ⟨?_, ⟨.refl _, upd_rowB (l := M ac) (k := j) (v := true) (i := .nat j) (e := .lit true) rfl rfl (hMs ac j), row_app (j : Int) rfl (.cons (.int rfl) .nil), trivial⟩, rfl⟩
        · show (x :: (ac ++ [(j : Int)]))[i]? = some z
          rw [← List.cons_append, List.getElem?_append_left (by simp; omega)]
          exact hz2
        · show (u : Int) ∈ ac ++ [(j : Int)]
          by_cases e : u = j
          · subst e; simp
          · exact List.mem_append_left _ (hU u (by have h9 : u < j + 1 := hu; omega) hN)
        · (cbv; (repeat' (first | exact SnD.refl _ | exact trivial | exact SnD.nat0 | refine And.intro ?_ ?_)))
          all_goals first | exact .inc (by omega) | exact osl_step1 _ | exact .eq (.osl rfl rfl rfl)
      · replace hs : nd = false := hs
        rw [hs] at hnd
        refine BackP.intro (j + 1, ac, p) ⟨by show j + 1 ≤ n; omega, hp, hip, hOK2, hDn2, hz2, hU2 fun h => by rw [← hnd] at h; cases h⟩ (by show n - (j + 1) < n - j; omega) ⟨?_, HEnt.refl _, rfl⟩
        (cbv; (repeat' (first | exact SnD.refl _ | exact trivial | exact SnD.nat0 | refine And.intro ?_ ?_)))
        exact .inc (by omega)
    · have hjn : j = n := by
        have h5 := of_decide_eq_false (show decide ((j : Int) < (ss.length : Int)) = false from hs)
        omega
      subst hjn
      refine BackP.intro (i + 1, ac, p) ⟨by show i + 1 ≤ p; omega, hp, hOK2, fun i' w hi' hw y hy => ?_⟩ (by show j + 1 - (i + 1) < j + 1 - i; omega) ⟨?_, HEnt.refl _, rfl⟩
      · by_cases q : i' = i
        · subst q
          rw [hz2] at hw
          cases hw
          have hr : (0 : Int) ≤ y ∧ y < (j : Int) := hrange y z hy
          have e7 : ((y.toNat : Nat) : Int) = y := Int.toNat_of_nonneg hr.1
          have h7 : ((y.toNat : Nat) : Int) ∈ ac := hU y.toNat (by omega) (by show ND ((y.toNat : Nat) : Int) z = true; rw [e7]; exact hy)
          show y ∈ ac
          rw [e7] at h7
          exact h7
        · exact hDn2 i' w (by omega) hw y hy
      · (cbv; (repeat' (first | exact SnD.refl _ | exact trivial | exact SnD.nat0 | refine And.intro ?_ ?_)))
        exact .inc (by omega)
  · have hiq : i = q := by
      have h5 := of_decide_eq_false (show decide ((i : Int) < (q : Int)) = false from hs)
      omega
    subst hiq
    rw [← hq] at hDn
    have hall := hDn.all hOK
    have hTT : ∀ y, decide (y ∈ acc) = DB y := fun y => by
      rw [Bool.eq_iff_iff, hdist y, ← hall y]
      simp
    refine CodeP.keep [6] ?_
    refine CodeP.seq (CodeP.ops ?_)
    refine OpsP.own hT rfl ?_
    cbv
    refine OpsP.rest hT ?_
    cbv
    refine CodeP.seq (vc_sound hT hm _ ?_)
    cbv
    refine CodeP.loopP (X := Nat × List Int × Nat) (fun y => [(6, .osl 1 1 1 (.lit false) (.lit 0) (.nat n)), (10, .osl 1 3 (y.2.2 + 1) (.lit false) (.lit 0) (.nat y.2.2)), (11, .int .i64 (.nat y.1))])
      (fun y => [.dead, .row 4 1 1 (.map boolC (M acc)), .dead, .row 3 1 (y.2.2 + 1) (.map intC y.2.1)]) (fun y => y.1 ≤ n ∧ y.2.1 = numsL y.1 DB ∧ y.2.1.length = y.2.2) (fun y => n - y.1) (0, [], 0) ⟨Nat.zero_le _, rfl, rfl⟩ (fun _ => by simp) ⟨?_, ⟨.dead _, .refl _, .dead _, .row rfl, trivial⟩, rfl⟩ ?_
    · (cbv; (repeat' (first | exact SnD.refl _ | exact trivial | exact SnD.nat0 | refine And.intro ?_ ?_)))
      all_goals first | exact .eq (.osl rfl rfl rfl) | exact .eq (.int rfl)
    intro ⟨j, out, c⟩ ⟨hj, hout, hc⟩
    simp only at hj hout hc
    have hns := numsL_succ j DB
    rw [← hout] at hns
    have hcj : c ≤ j := by
      rw [← hc, hout, numsL_len]
      exact cnt_le _ _
    refine vc_sound hT hm _ ?_
    cbv
    refine SplitP.mk (fun hs => ?_) (fun hs => ?_)
    · have hjn : j < n := by
        have h5 := of_decide_eq_true (show decide ((j : Int) < (n : Int)) = true from hs)
        omega
      refine ReqP.mk ⟨by show (0 : Int) ≤ (j : Int); omega, by show (j : Int) < (n : Int); omega⟩ (fun _ => ?_)
      refine ElemP.mk (by show (0 : Int) ≤ (j : Int) ∧ (j : Int) < ((M acc).length : Int); rw [hMl]; omega) (fun b hb => ?_)
      have hbb : b = DB (j : Int) := by
        have h5 : (M acc)[j]? = some b := hb
        rw [hMg acc j hjn, hTT] at h5
        exact (Option.some.inj h5).symm
      rw [← hbb] at hns
      clear hbb hb
      cbv
      cases b with
      | true =>
        refine SplitP.mk (fun hs => ?_) (fun hs => by cases hs)
        refine ReqP.mk (app_ok hc (by omega) (fun _ => rfl) rfl (by decide)) (fun _ => ?_)
        refine BackP.intro (j + 1, out ++ [(j : Int)], c + 1) ⟨by show j + 1 ≤ n; omega, hns.symm, by show (out ++ [(j : Int)]).length = c + 1; rw [List.length_append, hc]; rfl⟩ (by show n - (j + 1) < n - j; omega) ⟨?_, ⟨.dead _, .refl _, .dead _, row_app (j : Int) rfl (.cons (.int rfl) .nil), trivial⟩, rfl⟩
        (cbv; (repeat' (first | exact SnD.refl _ | exact trivial | exact SnD.nat0 | refine And.intro ?_ ?_)))
        all_goals first | exact .inc (by omega) | exact osl_step1 _
      | false =>
        refine SplitP.mk (fun hs => by cases hs) (fun hs => ?_)
        refine BackP.intro (j + 1, out, c) ⟨by show j + 1 ≤ n; omega, hns.symm, hc⟩ (by show n - (j + 1) < n - j; omega) ⟨?_, HEnt.refl _, rfl⟩
        (cbv; (repeat' (first | exact SnD.refl _ | exact trivial | exact SnD.nat0 | refine And.intro ?_ ?_)))
        exact .inc (by omega)
    · have hjn : j = n := by
        have h5 := of_decide_eq_false (show decide ((j : Int) < (n : Int)) = false from hs)
        omega
      subst hjn
      have hol : out = l := by rw [hout, hl]
      refine vc_sound hT hm _ ?_
      cbv
      refine .mk (.cons (.slm rfl (.inl ⟨_, _, rfl, ?_⟩) rfl ?_ (fun e he => by cases he)) (.cons (.eq (.int ?_)) .nil)) rfl
      · show out.map intC = l.map intC
        rw [hol]
      · show (c : Int) = (l.length : Int)
        rw [← hol, hc]
      · rw [IE.lit_d, IE.var_d, he]; rfl
end Go.Proofs.Ytdhfakajlnidiaa
namespace Go.Proofs.Ytdhfakajlnidiaa
open Go.RowKit

/-! Circles, of the reference. -/
def findN {α : Type} (F : Nat → Option α) : Nat → Nat → Option α
  | 0, _ => none
  | r + 1, k => match F k with | some y => some y | none => findN F r (k + 1)
def lastI (cs : List Int) : Int := cs.getD (cs.length - 1) 0
def tryE (N : Int → Int → Bool) (rec_ : List Int → Option (List Int)) (cs : List Int) (z : Nat) : Option (List Int) :=
  if decide ((z : Int) ∈ cs) then none else if (decide (cs.length = 0) || N (lastI cs) (z : Int)) then rec_ (cs ++ [(z : Int)]) else none
def extR (N : Int → Int → Bool) (n : Nat) : Nat → List Int → Option (List Int)
  | 0, cs => if N (lastI cs) (cs.getD 0 0) then some cs else none
  | f + 1, cs => findN (tryE N (extR N n f) cs) n 0
def optD (o : Option (List Int)) : D := .slm 1 (some (.var o.isNone)) intC (o.getD [])
theorem int_cell (l : List Int) : ∀ e ∈ (RE.map intC l).den, e.all D.cellB = true := fun e he => by
  simp only [RE.den, List.mem_map] at he
  obtain ⟨a, _, rfl⟩ := he
  rfl
theorem app_first (cs : List Int) (h : cs.length ≤ 100000) : (IE.len cs).den = ((RE.map intC cs).den.length : Int) ∧ (IE.lit 0).den = ((RE.lits []).den.length : Int) ∧ (∀ e ∈ (RE.map intC cs).den, e.all D.cellB = true) ∧ (∀ e ∈ (RE.lits []).den, e.all D.cellB = true) ∧ (IE.lit 0).den + (IE.len cs).den ≤ 9223372036854775807 ∧ ((IE.lit 0).den + (IE.len cs).den) * ((8 : Nat) : Int) ≤ 140737488355328 := by
  refine ⟨by simp [IE.den, RE.den], rfl, int_cell cs, fun e he => by simp [RE.den] at he, by simp only [IE.den]; omega, by simp only [IE.den]; omega⟩
theorem app_second (cs : List Int) (e : IE) (h : cs.length ≤ 100000) : (IE.lit 1).den = ((RE.lits [[.int .i64 e]]).den.length : Int) ∧ (IE.len cs).den = (((RE.lits []).apps (RE.map intC cs)).den.length : Int) ∧ (∀ e' ∈ (RE.lits [[.int .i64 e]]).den, e'.all D.cellB = true) ∧ (∀ e ∈ ((RE.lits []).apps (RE.map intC cs)).den, e.all D.cellB = true) ∧ (IE.len cs).den + (IE.lit 1).den ≤ 9223372036854775807 ∧ ((IE.len cs).den + (IE.lit 1).den) * ((8 : Nat) : Int) ≤ 140737488355328 := by
  refine ⟨rfl, by simp [IE.den, RE.den], fun e he => ?_, fun e he => ?_, by simp only [IE.den]; omega, by simp only [IE.den]; omega⟩
  · simp [RE.den] at he
    subst he
    rfl
  · simp only [RE.den, List.nil_append] at he
    exact int_cell cs e he
set_option maxHeartbeats 8000000 in
set_option maxRecDepth 100000 in
set_option maxHeartbeats 4000000 in
theorem extend_pure (S : SourceD) (h : SmallS S) (m : Nat) (hm1 : 1 ≤ m) (hm7 : m ≤ 7) : ∀ (f : Nat) (cs : List Int), cs.length + f = m → Pure Try.prog 29 [.agg S.c, .slm 1 (some (.lit false)) intC cs, i64 (m : Int)] (optD (extR (needsB S.rules) S.schemas.length f cs))
  | 0, cs, hcf => by
    have hNd := fun a b => Needs_pure S a b (by have := h.r; omega) (fun r hr => by have := h.f r hr; omega)
    obtain ⟨ND, hND⟩ : ∃ N, N = needsB S.rules := ⟨_, rfl⟩
    rw [← hND] at hNd ⊢
    obtain ⟨res, hres⟩ : ∃ r, r = extR ND S.schemas.length 0 cs := ⟨_, rfl⟩
    rw [← hres]
    replace hres : res = if ND (lastI cs) (cs.getD 0 0) then some cs else none := hres
    unfold optD
    obtain ⟨ro, hro⟩ : ∃ b, b = res.isNone := ⟨_, rfl⟩
    obtain ⟨rl, hrl⟩ : ∃ b, b = res.getD [] := ⟨_, rfl⟩
    rw [← hro, ← hrl]
    clear hND h
    obtain ⟨ni, is, nu, us, ns, ss, nr, rs, nc, cs', np, ps⟩ := S
    have hmm : m = cs.length := by omega
    have hlast : cs[m - 1]? = some (lastI cs) := by
      unfold lastI
      rw [hmm]
      simp [show cs.length - 1 < cs.length by omega]
    have hhead : cs[0]? = some (cs.getD 0 0) := by simp [show 0 < cs.length by omega]
    obtain ⟨a, ha⟩ : ∃ a, a = lastI cs := ⟨_, rfl⟩
    obtain ⟨b, hb⟩ : ∃ b, b = cs.getD 0 0 := ⟨_, rfl⟩
    rw [← ha] at hlast hres
    rw [← hb] at hhead hres
    clear ha hb
    refine Pure.intro (want := [.slm 1 (some (.var ro)) intC rl]) T_ok follows Try.func29 rfl (by kernel_rfl) (rs := [.tmp 6]) rfl (by kernel_rfl) ?_
    generalize hP : Try.prog = P at *
    have hT : T.ok P := hP ▸ T_ok
    have hm : P.follows .mixedOrders = true := hP ▸ follows
    unfold Try.f29
    dsimp only
    cbv
    refine SplitP.mk (fun hs => ?_) (fun hs => ?_)
    rotate_left
    · exfalso
      have h4 : ((cs.length : Int) == (m : Int)) = false := hs
      rw [hmm] at h4
      simp at h4
    clear hs
    have hsub : binDen .sub .i64 (m : Int) 1 = ((m - 1 : Nat) : Int) := by rw [sub64 (by omega) (by omega)]; omega
    refine ElemP.mk (by show (0 : Int) ≤ binDen .sub .i64 (m : Int) 1 ∧ binDen .sub .i64 (m : Int) 1 < (cs.length : Int); rw [hsub]; omega) (fun y hy => ?_)
    obtain rfl : a = y := by
      have h5 : cs[(binDen .sub .i64 (m : Int) 1).toNat]? = some y := hy
      rw [hsub, Int.toNat_natCast, hlast] at h5
      exact Option.some.inj h5
    cbv
    refine ElemP.mk (by show (0 : Int) ≤ 0 ∧ (0 : Int) < (cs.length : Int); omega) (fun y hy => ?_)
    obtain rfl : b = y := by
      have h5 : cs[0]? = some y := hy
      rw [hhead] at h5
      exact Option.some.inj h5
    cbv
    first | refine CallP.pure _ (hNd a b) rfl ?_ | refine PureP.mk _ (hNd a b) rfl ?_
    obtain ⟨nd, hnd⟩ : ∃ c, c = ND a b := ⟨_, rfl⟩
    rw [← hnd] at hres ⊢
    cbv
    refine SplitP.mk (fun hs => ?_) (fun hs => ?_)
    · replace hs : nd = true := hs
      rw [if_pos hs] at hres
      subst hres
      exact .mk (.cons (.eq (.slmb (by rw [BE.var_d, hro]; rfl) (by rw [hrl]; rfl))) .nil) rfl
    · replace hs : nd = false := hs
      rw [if_neg (by rw [hs]; exact Bool.false_ne_true)] at hres
      subst hres
      refine .mk (.cons (.eq (.nilv ?_ ?_)) .nil) rfl
      · rw [hrl]; rfl
      · rw [BE.var_d, hro]; rfl
  | f + 1, cs, hcf => by
    have ih := extend_pure S h m hm1 hm7 f
    have hn7 := h.n
    have hNd := fun a b => Needs_pure S a b (by have := h.r; omega) (fun r hr => by have := h.f r hr; omega)
    have hHas := fun z : Int => has_pure cs (some (.lit false)) z (by omega)
    obtain ⟨ND, hND⟩ : ∃ N, N = needsB S.rules := ⟨_, rfl⟩
    rw [← hND] at hNd ih ⊢
    obtain ⟨n, hn⟩ : ∃ n, n = S.schemas.length := ⟨_, rfl⟩
    rw [← hn] at ih hn7 ⊢
    obtain ⟨rc, hrc⟩ : ∃ r, r = extR ND n f := ⟨_, rfl⟩
    obtain ⟨res, hres⟩ : ∃ r, r = extR ND n (f + 1) cs := ⟨_, rfl⟩
    rw [← hres]
    replace hres : res = findN (tryE ND (extR ND n f) cs) n 0 := hres
    rw [← hrc] at ih hres
    obtain ⟨rcN, hrcN⟩ : ∃ f : List Int → Bool, f = fun cs => (rc cs).isNone := ⟨_, rfl⟩
    obtain ⟨rcL, hrcL⟩ : ∃ f : List Int → List Int, f = fun cs => (rc cs).getD [] := ⟨_, rfl⟩
    have ih : ∀ cs, cs.length + f = m → Pure Try.prog 29 [.agg S.c, .slm 1 (some (.lit false)) intC cs, i64 (m : Int)] (.slm 1 (some (.var (rcN cs))) intC (rcL cs)) := fun cs h => by rw [hrcN, hrcL]; exact ih cs h
    obtain ⟨F, hF⟩ : ∃ F, F = tryE ND rc cs := ⟨_, rfl⟩
    rw [← hF] at hres
    have hF' : ∀ z : Nat, F z = if decide ((z : Int) ∈ cs) then none else if (decide (cs.length = 0) || ND (lastI cs) (z : Int)) then rc (cs ++ [(z : Int)]) else none := fun z => by rw [hF]; rfl
    have hlast : 0 < cs.length → cs[cs.length - 1]? = some (lastI cs) := fun h => by
      unfold lastI
      rw [List.getD_eq_getElem?_getD, List.getElem?_eq_getElem (show cs.length - 1 < cs.length by omega)]
      rfl
    obtain ⟨la, hla⟩ : ∃ a, a = lastI cs := ⟨_, rfl⟩
    rw [← hla] at hF' hlast
    clear hF hrc hla hND
    unfold optD
    obtain ⟨ro, hro⟩ : ∃ b, b = res.isNone := ⟨_, rfl⟩
    obtain ⟨rl, hrl⟩ : ∃ b, b = res.getD [] := ⟨_, rfl⟩
    rw [← hro, ← hrl]
    clear h
    obtain ⟨ni, is, nu, us, ns, ss, nr, rs, nc, cs', np, ps⟩ := S
    replace hn : n = ss.length := hn
    have next : ∀ z, z < n → res = findN F (n - z) z → F z = none → res = findN F (n - (z + 1)) (z + 1) := fun z h1 h2 h3 => by
      rw [show n - z = (n - (z + 1)) + 1 by omega] at h2
      simp only [findN, h3] at h2
      exact h2
    have found : ∀ z, z < n → res = findN F (n - z) z → ∀ y, F z = some y → res = some y := fun z h1 h2 y h3 => by
      rw [show n - z = (n - (z + 1)) + 1 by omega] at h2
      simp only [findN, h3] at h2
      exact h2
    have h00 : res = findN F (n - 0) 0 := hres
    have hend : ∀ z, res = findN F 0 z → res = none := fun z h => h
    obtain ⟨FN, hFN⟩ : ∃ f, f = findN F := ⟨_, rfl⟩
    rw [← hFN] at next found h00 hend
    clear hFN hres
    refine Pure.intro (want := [.slm 1 (some (.var ro)) intC rl]) T_ok follows Try.func29 rfl (by kernel_rfl) (rs := [.tmp 6]) rfl (by kernel_rfl) ?_
    generalize hP : Try.prog = P at *
    have hT : T.ok P := hP ▸ T_ok
    have hm : P.follows .mixedOrders = true := hP ▸ follows
    unfold Try.f29
    dsimp only
    cbv
    refine SplitP.mk (fun hs => ?_) (fun hs => ?_)
    · exfalso
      have h4 : ((cs.length : Int) == (m : Int)) = true := hs
      have h5 := eq_of_beq h4
      omega
    clear hs
    have hinc : ∀ z : Nat, z < 1000 → binDen .add .i64 (z : Int) 1 = ((z + 1 : Nat) : Int) := fun z h => by rw [add64 (by omega) (by omega)]; rfl
    refine CodeP.loopc hT hm (X := Nat) (fun z => [(7, i64 (z : Int))]) (fun z => z ≤ n ∧ res = FN (n - z) z) (fun z => n - z) 0 ⟨Nat.zero_le _, h00⟩ (Nat.zero_le _) ?_ rfl ?_
    · (cbv; (repeat' (first | exact SnD.refl _ | exact trivial | exact SnD.nat0 | refine And.intro ?_ ?_)))
      exact .eq (.int rfl)
    intro z ⟨hz, hq⟩
    cbv
    refine SplitP.mk (fun hs => ?_) (fun hs => ?_)
    rotate_left
    · have hzn : z = n := by
        have h5 := of_decide_eq_false (show decide ((z : Int) < (ss.length : Int)) = false from hs)
        omega
      subst hzn
      rw [Nat.sub_self] at hq
      have h6 := hend _ hq
      refine .mk (.cons (.eq (.nilv ?_ ?_)) .nil) rfl
      · rw [hrl, h6]; rfl
      · rw [BE.var_d, hro, h6]; rfl
    have hzn : z < n := by
      have h5 := of_decide_eq_true (show decide ((z : Int) < (ss.length : Int)) = true from hs)
      omega
    have hFz := hF' z
    have hnx : F z = none → res = FN (n - (z + 1)) (z + 1) := next z hzn hq
    have hfd := found z hzn hq
    clear hq next found hF' hend h00
    obtain ⟨inn, hinn⟩ : ∃ b, b = decide ((z : Int) ∈ cs) := ⟨_, rfl⟩
    have hH := hHas (z : Int)
    rw [← hinn] at hFz hH
    clear hs
    refine PureP.lend [.slm 1 (some (.lit false)) intC cs, i64 (z : Int)] _ hH (.cons (.eq (.refl _)) (.cons (.eq (.int rfl)) .nil)) rfl rfl ?_
    cbv
    refine SplitP.mk (fun hs => ?_) (fun hs => ?_)
    rotate_left
    · have hi : inn = true := by simpa using (show (!inn) = false from hs)
      rw [if_pos hi] at hFz
      refine BackP.intro (z + 1) ⟨by omega, hnx hFz⟩ (by show n - (z + 1) < n - z; omega) ⟨?_, HEnt.refl _, rfl⟩
      (cbv; (repeat' (first | exact SnD.refl _ | exact trivial | exact SnD.nat0 | refine And.intro ?_ ?_)))
      exact .eq (.int (hinc z (by omega)))
    have hi : inn = false := by simpa using (show (!inn) = true from hs)
    rw [if_neg (by rw [hi]; exact Bool.false_ne_true)] at hFz
    clear hs
    refine SplitP.mk (fun hs => ?_) (fun hs => ?_)
    · have hl0 : cs.length = 0 := by
        have h4 : ((cs.length : Int) == 0) = true := hs
        have h5 := eq_of_beq h4
        omega
      rw [decide_eq_true hl0, Bool.true_or, if_pos rfl] at hFz
      clear hs
      refine FootP.intro hT hm [(3, [1]), (6, [1]), (8, [1])] (by kernel_rfl) ?_
      cbv
      refine ReqP.mk (app_first cs (by omega)) (fun _ => ?_)
      refine ReqP.mk (app_second cs _ (by omega)) (fun _ => ?_)
      refine GiveP.mk [.agg (SourceD.c ⟨ni, is, nu, us, ns, ss, nr, rs, nc, cs', np, ps⟩), .slm 1 (some (.lit false)) intC (cs ++ [(z : Int)]), i64 (m : Int)] _ (ih (cs ++ [(z : Int)]) (by simp; omega)) (.cons (.eq (.refl _)) (.cons (.slm rfl (.inl ⟨_, _, rfl, by simp [RE.den]⟩) rfl (by simp [IE.den]) (fun e he => by cases he; rfl)) (.cons (.eq (.refl _)) .nil))) rfl ?_
      have hN : rcN (cs ++ [(z : Int)]) = (rc (cs ++ [(z : Int)])).isNone := by rw [hrcN]
      have hL : rcL (cs ++ [(z : Int)]) = (rc (cs ++ [(z : Int)])).getD [] := by rw [hrcL]
      obtain ⟨oN, hoN⟩ : ∃ b, b = rcN (cs ++ [(z : Int)]) := ⟨_, rfl⟩
      obtain ⟨oL, hoL⟩ : ∃ b, b = rcL (cs ++ [(z : Int)]) := ⟨_, rfl⟩
      rw [← hoN] at hN ⊢
      rw [← hoL] at hL ⊢
      clear hoN hoL
      cbv
      refine SplitP.mk (fun h5 => ?_) (fun h5 => ?_)
      · replace h5 : oN = false := by simpa using (show (!oN) = true from h5)
        obtain ⟨y, hy⟩ : ∃ y, rc (cs ++ [(z : Int)]) = some y := by
          rw [h5] at hN
          cases hr : rc (cs ++ [(z : Int)]) with
          | none => rw [hr] at hN; cases hN
          | some y => exact ⟨y, rfl⟩
        rw [hy] at hL hFz
        have hr := hfd y hFz
        refine .mk (.cons (.eq (.slmb ?_ ?_)) .nil) rfl
        · rw [BE.var_d, BE.var_d, h5, hro, hr]; rfl
        · rw [hL, hrl, hr]
      · replace h5 : oN = true := by simpa using (show (!oN) = false from h5)
        have hk2 : F z = none := by
          rw [hFz]
          rw [h5] at hN
          cases hr : rc (cs ++ [(z : Int)]) with
          | none => rfl
          | some y => rw [hr] at hN; cases hN
        refine BackP.intro (z + 1) ⟨by omega, hnx hk2⟩ (by show n - (z + 1) < n - z; omega) ⟨?_, ⟨.refl _, trivial⟩, rfl⟩
        (cbv; (repeat' (first | exact SnD.refl _ | exact trivial | exact SnD.nat0 | refine And.intro ?_ ?_)))
        exact .eq (.int (hinc z (by omega)))
    have hl0 : cs.length ≠ 0 := by
      have h4 : ((cs.length : Int) == 0) = false := hs
      have h5 := beq_eq_false_iff_ne.1 h4
      omega
    rw [decide_eq_false hl0, Bool.false_or] at hFz
    clear hs
    have hsub : binDen .sub .i64 (cs.length : Int) 1 = ((cs.length - 1 : Nat) : Int) := by rw [sub64 (by omega) (by omega)]; omega
    refine ElemP.mk (by show (0 : Int) ≤ binDen .sub .i64 (cs.length : Int) 1 ∧ binDen .sub .i64 (cs.length : Int) 1 < (cs.length : Int); rw [hsub]; omega) (fun y hy => ?_)
    obtain rfl : la = y := by
      have h5 : cs[(binDen .sub .i64 (cs.length : Int) 1).toNat]? = some y := hy
      rw [hsub, Int.toNat_natCast, hlast (by omega)] at h5
      exact Option.some.inj h5
    clear hy
    cbv
    first
      | refine PureP.lend [.agg (SourceD.c ⟨ni, is, nu, us, ns, ss, nr, rs, nc, cs', np, ps⟩), i64 la, i64 (z : Int)] _ (hNd la (z : Int)) (.cons (.eq (.refl _)) (.cons (.eq (.refl _)) (.cons (.eq (.int rfl)) .nil))) rfl rfl ?_
      | refine CallP.pre [.agg (SourceD.c ⟨ni, is, nu, us, ns, ss, nr, rs, nc, cs', np, ps⟩), i64 la, i64 (z : Int)] _ (.cons (.eq (.refl _)) (.cons (.eq (.refl _)) (.cons (.eq (.int rfl)) .nil))) (HEnt.refl _) rfl rfl (CallP.pure _ (hNd la (z : Int)) rfl ?_)
    obtain ⟨nd, hnd⟩ : ∃ c, c = ND la (z : Int) := ⟨_, rfl⟩
    rw [← hnd] at hFz ⊢
    cbv
    refine SplitP.mk (fun hs => ?_) (fun hs => ?_)
    · replace hs : nd = true := hs
      rw [if_pos hs] at hFz
      clear hs
      refine FootP.intro hT hm [(3, [1]), (6, [1]), (8, [1])] (by kernel_rfl) ?_
      cbv
      refine ReqP.mk (app_first cs (by omega)) (fun _ => ?_)
      refine ReqP.mk (app_second cs _ (by omega)) (fun _ => ?_)
      refine GiveP.mk [.agg (SourceD.c ⟨ni, is, nu, us, ns, ss, nr, rs, nc, cs', np, ps⟩), .slm 1 (some (.lit false)) intC (cs ++ [(z : Int)]), i64 (m : Int)] _ (ih (cs ++ [(z : Int)]) (by simp; omega)) (.cons (.eq (.refl _)) (.cons (.slm rfl (.inl ⟨_, _, rfl, by simp [RE.den]⟩) rfl (by simp [IE.den]) (fun e he => by cases he; rfl)) (.cons (.eq (.refl _)) .nil))) rfl ?_
      have hN : rcN (cs ++ [(z : Int)]) = (rc (cs ++ [(z : Int)])).isNone := by rw [hrcN]
      have hL : rcL (cs ++ [(z : Int)]) = (rc (cs ++ [(z : Int)])).getD [] := by rw [hrcL]
      obtain ⟨oN, hoN⟩ : ∃ b, b = rcN (cs ++ [(z : Int)]) := ⟨_, rfl⟩
      obtain ⟨oL, hoL⟩ : ∃ b, b = rcL (cs ++ [(z : Int)]) := ⟨_, rfl⟩
      rw [← hoN] at hN ⊢
      rw [← hoL] at hL ⊢
      clear hoN hoL
      cbv
      refine SplitP.mk (fun h5 => ?_) (fun h5 => ?_)
      · replace h5 : oN = false := by simpa using (show (!oN) = true from h5)
        obtain ⟨y, hy⟩ : ∃ y, rc (cs ++ [(z : Int)]) = some y := by
          rw [h5] at hN
          cases hr : rc (cs ++ [(z : Int)]) with
          | none => rw [hr] at hN; cases hN
          | some y => exact ⟨y, rfl⟩
        rw [hy] at hL hFz
        have hr := hfd y hFz
        refine .mk (.cons (.eq (.slmb ?_ ?_)) .nil) rfl
        · rw [BE.var_d, BE.var_d, h5, hro, hr]; rfl
        · rw [hL, hrl, hr]
      · replace h5 : oN = true := by simpa using (show (!oN) = false from h5)
        have hk2 : F z = none := by
          rw [hFz]
          rw [h5] at hN
          cases hr : rc (cs ++ [(z : Int)]) with
          | none => rfl
          | some y => rw [hr] at hN; cases hN
        refine BackP.intro (z + 1) ⟨by omega, hnx hk2⟩ (by show n - (z + 1) < n - z; omega) ⟨?_, ⟨.refl _, trivial⟩, rfl⟩
        (cbv; (repeat' (first | exact SnD.refl _ | exact trivial | exact SnD.nat0 | refine And.intro ?_ ?_)))
        exact .eq (.int (hinc z (by omega)))
    · replace hs : nd = false := hs
      rw [if_neg (by rw [hs]; exact Bool.false_ne_true)] at hFz
      refine BackP.intro (z + 1) ⟨by omega, hnx hFz⟩ (by show n - (z + 1) < n - z; omega) ⟨?_, HEnt.refl _, rfl⟩
      (cbv; (repeat' (first | exact SnD.refl _ | exact trivial | exact SnD.nat0 | refine And.intro ?_ ?_)))
      exact .eq (.int (hinc z (by omega)))
end Go.Proofs.Ytdhfakajlnidiaa
namespace Go.Proofs.Ytdhfakajlnidiaa
open Go.RowKit

/-! The shortest circle, of the reference. -/
def rcycO (S : SourceD) : Option (List Int) := findN (fun k => extR (needsB S.rules) S.schemas.length (k + 1) []) S.schemas.length 0
def rcycL (S : SourceD) : List Int := if numberedB S.schemas.length S.rules then (rcycO S).getD [] else []
def rcycB (S : SourceD) : Bool := numberedB S.schemas.length S.rules && !(rcycO S).isNone
set_option maxHeartbeats 8000000 in
set_option maxRecDepth 100000 in
set_option maxHeartbeats 4000000 in
theorem RCycle_pure (S : SourceD) (h : SmallS S) : Pure Try.prog 12 [.agg S.c] (.tup [.slm 1 none intC (rcycL S), boolD (rcycB S), i64 (if numberedB S.schemas.length S.rules then 0 else 140)]) := by
  have hn7 := h.n
  have hNum := numbered_pure S (by omega) (by have := h.r; omega) (fun r hr => by have := h.f r hr; omega)
  obtain ⟨n, hn⟩ : ∃ n, n = S.schemas.length := ⟨_, rfl⟩
  have hE : ∀ k, k < n → Pure Try.prog 29 [.agg S.c, .slm 1 (some (.lit false)) intC [], i64 ((k + 1 : Nat) : Int)] (optD (extR (needsB S.rules) S.schemas.length (k + 1) [])) := fun k hk => extend_pure S h (k + 1) (by omega) (by omega) (k + 1) [] (by simp)
  unfold optD at hE
  obtain ⟨l, hl⟩ : ∃ l, l = rcycL S := ⟨_, rfl⟩
  obtain ⟨b, hb⟩ : ∃ l, l = rcycB S := ⟨_, rfl⟩
  rw [← hl, ← hb]
  unfold rcycL at hl
  unfold rcycB at hb
  obtain ⟨e, he⟩ : ∃ e : Int, e = if numberedB S.schemas.length S.rules then 0 else 140 := ⟨_, rfl⟩
  rw [← he]
  obtain ⟨O, hO⟩ : ∃ o, o = rcycO S := ⟨_, rfl⟩
  rw [← hO] at hl hb
  unfold rcycO at hO
  obtain ⟨F, hF⟩ : ∃ F : Nat → Option (List Int), F = fun k => extR (needsB S.rules) S.schemas.length (k + 1) [] := ⟨_, rfl⟩
  rw [← hF] at hO
  obtain ⟨FNone, hFNone⟩ : ∃ f : Nat → Bool, f = fun k => (F k).isNone := ⟨_, rfl⟩
  obtain ⟨FL, hFL⟩ : ∃ f : Nat → List Int, f = fun k => (F k).getD [] := ⟨_, rfl⟩
  have hE : ∀ k, k < n → Pure Try.prog 29 [.agg S.c, .slm 1 (some (.lit false)) intC [], i64 ((k + 1 : Nat) : Int)] (.slm 1 (some (.var (FNone k))) intC (FL k)) := fun k hk => by rw [hFNone, hFL, hF]; exact hE k hk
  clear hF
  rw [← hn] at hO
  have next : ∀ z, z < n → O = findN F (n - z) z → F z = none → O = findN F (n - (z + 1)) (z + 1) := fun z h1 h2 h3 => by
    rw [show n - z = (n - (z + 1)) + 1 by omega] at h2
    simp only [findN, h3] at h2
    exact h2
  have found : ∀ z, z < n → O = findN F (n - z) z → ∀ y, F z = some y → O = some y := fun z h1 h2 y h3 => by
    rw [show n - z = (n - (z + 1)) + 1 by omega] at h2
    simp only [findN, h3] at h2
    exact h2
  have h00 : O = findN F (n - 0) 0 := hO
  have hend : ∀ z, O = findN F 0 z → O = none := fun z h => h
  obtain ⟨FN, hFN⟩ : ∃ f, f = findN F := ⟨_, rfl⟩
  rw [← hFN] at next found h00 hend
  clear hFN hO h
  obtain ⟨rb, hrb⟩ : ∃ b, b = numberedB S.schemas.length S.rules := ⟨_, rfl⟩
  rw [← hrb] at hNum hl hb he
  clear hrb
  obtain ⟨ni, is, nu, us, ns, ss, nr, rs, nc, cs, np, ps⟩ := S
  replace hn : n = ss.length := hn
  replace hn7 : ss.length ≤ 7 := hn7
  refine Pure.intro (want := [.slm 1 none intC l, boolD b, i64 e]) T_ok follows Try.func12 rfl (by kernel_rfl) (rs := [.tmp 2, .tmp 3, .tmp 4]) rfl (by kernel_rfl) ?_
  generalize hP : Try.prog = P at *
  have hT : T.ok P := hP ▸ T_ok
  have hm : P.follows .mixedOrders = true := hP ▸ follows
  unfold Try.f12
  dsimp only
  cbv
  refine CallP.pure _ hNum rfl ?_
  cbv
  cases rb with
  | false =>
    refine SplitP.mk (fun hs => ?_) (fun hs => by cases hs)
    refine .mk (.cons (.eq (.nil0 hl)) (.cons (.eq (.bool ?_)) (.cons (.eq (.int ?_)) .nil))) rfl
    · rw [BE.lit_d, BE.var_d, hb]; rfl
    · rw [IE.lit_d, IE.var_d, he]; rfl
  | true =>
  refine SplitP.mk (fun hs => by cases hs) (fun hs => ?_)
  clear hs
  replace hl : l = O.getD [] := hl
  replace hb : b = !O.isNone := hb
  refine CodeP.loopc hT hm (X := Nat) (fun z => [(5, .int .i64 (.nat (z + 1)))]) (fun z => z ≤ n ∧ O = FN (n - z) z) (fun z => n - z) 0 ⟨Nat.zero_le _, h00⟩ (Nat.zero_le _) ?_ rfl ?_
  · (cbv; (repeat' (first | exact SnD.refl _ | exact trivial | exact SnD.nat0 | refine And.intro ?_ ?_)))
    exact .eq (.int rfl)
  intro z ⟨hz, hq⟩
  cbv
  refine SplitP.mk (fun hs => ?_) (fun hs => ?_)
  rotate_left
  · have hzn : z = n := by
      have h5 := of_decide_eq_false (show decide (((z + 1 : Nat) : Int) ≤ (ss.length : Int)) = false from hs)
      omega
    subst hzn
    rw [Nat.sub_self] at hq
    have h6 := hend _ hq
    refine .mk (.cons (.eq (.nil0 ?_)) (.cons (.eq (.bool ?_)) (.cons (.eq (.int ?_)) .nil))) rfl
    · rw [hl, h6]; rfl
    · rw [BE.lit_d, BE.var_d, hb, h6]; rfl
    · rw [IE.lit_d, IE.var_d, he]; rfl
  have hzn : z < n := by
    have h5 := of_decide_eq_true (show decide (((z + 1 : Nat) : Int) ≤ (ss.length : Int)) = true from hs)
    omega
  have hnx := next z hzn hq
  have hfd := found z hzn hq
  have hEz := hE z hzn
  have hN : FNone z = (F z).isNone := by rw [hFNone]
  have hL : FL z = (F z).getD [] := by rw [hFL]
  obtain ⟨oN, hoN⟩ : ∃ b, b = FNone z := ⟨_, rfl⟩
  obtain ⟨oL, hoL⟩ : ∃ b, b = FL z := ⟨_, rfl⟩
  rw [← hoN] at hN hEz
  rw [← hoL] at hL hEz
  clear hoN hoL hs hq next found hE hend h00
  refine CallP.pre [.agg (SourceD.c ⟨ni, is, nu, us, ns, ss, nr, rs, nc, cs, np, ps⟩), .slm 1 (some (.lit false)) intC [], i64 ((z + 1 : Nat) : Int)] [.cells (SourceD.c ⟨ni, is, nu, us, ns, ss, nr, rs, nc, cs, np, ps⟩), .dead] (.cons (.eq (.refl _)) (.cons (.slm rfl (.inl ⟨_, _, rfl, rfl⟩) rfl rfl (fun e he => by cases he; rfl)) (.cons (.eq (.int rfl)) .nil))) ⟨.refl _, .dead _, trivial⟩ rfl rfl (CallP.pure _ hEz rfl ?_)
  cbv
  refine SplitP.mk (fun h5 => ?_) (fun h5 => ?_)
  · replace h5 : oN = false := by simpa using (show (!oN) = true from h5)
    obtain ⟨y, hy⟩ : ∃ y, F z = some y := by
      rw [h5] at hN
      cases hr : F z with
      | none => rw [hr] at hN; cases hN
      | some y => exact ⟨y, rfl⟩
    rw [hy] at hL
    have hr := hfd y hy
    refine .mk (.cons (.eq (.slm (.inl rfl) ?_)) (.cons (.eq (.bool ?_)) (.cons (.eq (.int ?_)) .nil))) rfl
    · rw [hL, hl, hr]
    · rw [BE.lit_d, BE.var_d, hb, hr]; rfl
    · rw [IE.lit_d, IE.var_d, he]; rfl
  · replace h5 : oN = true := by simpa using (show (!oN) = false from h5)
    have hk2 : F z = none := by
      rw [h5] at hN
      cases hr : F z with
      | none => rfl
      | some y => rw [hr] at hN; cases hN
    refine BackP.intro (z + 1) ⟨by omega, hnx hk2⟩ (by show n - (z + 1) < n - z; omega) ⟨?_, ⟨.refl _, trivial⟩, rfl⟩
    (cbv; (repeat' (first | exact SnD.refl _ | exact trivial | exact SnD.nat0 | refine And.intro ?_ ?_)))
    exact .inc (by omega)
end Go.Proofs.Ytdhfakajlnidiaa
namespace Go.Proofs.Ytdhfakajlnidiaa
open Go.RowKit

/-! A distance is the length of the shortest chain. -/
/-- a chain of just k+1 steps leads from y there -/
inductive Chn (N : Int → Int → Bool) (to : Int) : Nat → Int → Prop
  | one {y : Int} (h : N y to = true) : Chn N to 1 y
  | step {k : Nat} {y z : Int} (h : N y z = true) (c : Chn N to k z) : Chn N to (k + 1) y
theorem Chn.pos {N : Int → Int → Bool} {to : Int} {k : Nat} {y : Int} (h : Chn N to k y) : 1 ≤ k := by cases h <;> omega
/-- what one round does -/
structure RndInv (F0 : FI) (n : Int) (Q : Int → Prop) (s : FI × List Int) : Prop where
  old : ∀ y d, F0 y = some d → s.1 y = some d
  new : ∀ y d, s.1 y = some d → F0 y = some d ∨ (F0 y = none ∧ d = n ∧ Q y)
  lst : ∀ y, y ∈ s.2 ↔ F0 y = none ∧ s.1 y = some n
theorem RndInv.step {F0 : FI} {n : Int} {Q : Int → Prop} {s : FI × List Int} (h : RndInv F0 n Q s) {u : Int} (hu : Q u) : RndInv F0 n Q (fiStep n s u) := by
  unfold fiStep
  split
  · exact h
  · next q =>
    have hn : s.1 u = none := by
      cases hF : s.1 u with
      | none => rfl
      | some y => rw [hF] at q; exact absurd rfl q
    have h0 : F0 u = none := by
      cases hF : F0 u with
      | none => rfl
      | some y => rw [h.old u y hF] at hn; cases hn
    refine ⟨fun y d hy => ?_, fun y d hy => ?_, fun y => ?_⟩
    · show (if y = u then some n else s.1 y) = some d
      by_cases e : y = u
      · rw [e, h0] at hy; cases hy
      · rw [if_neg e]; exact h.old y d hy
    · replace hy : (if y = u then some n else s.1 y) = some d := hy
      by_cases e : y = u
      · rw [if_pos e] at hy
        cases hy
        rw [e]
        exact .inr ⟨h0, rfl, hu⟩
      · rw [if_neg e] at hy
        exact h.new y d hy
    · show y ∈ s.2 ++ [u] ↔ F0 y = none ∧ (if y = u then some n else s.1 y) = some n
      rw [List.mem_append, h.lst y, List.mem_singleton]
      by_cases e : y = u
      · subst e
        simp [h0]
      · simp [e]
theorem RndInv.row {F0 : FI} {n : Int} {Q : Int → Prop} : ∀ (us : List Int) {s : FI × List Int}, RndInv F0 n Q s → (∀ u, u ∈ us → Q u) → RndInv F0 n Q (fiRow n s us)
  | [], _, h, _ => h
  | u :: us, s, h, hu => RndInv.row us (h.step (hu u (by simp))) fun v hv => hu v (by simp [hv])
theorem RndInv.rnd {F0 : FI} {n : Int} {Q : Int → Prop} {L : Nat → List Int} : ∀ (layer : List Int) {s : FI × List Int}, RndInv F0 n Q s → (∀ x, x ∈ layer → ∀ u, u ∈ L x.toNat → Q u) → RndInv F0 n Q (layer.foldl (fun s x => fiRow n s (L x.toNat)) s)
  | [], _, h, _ => h
  | x :: layer, s, h, hu => RndInv.rnd layer (h.row (L x.toNat) (hu x (by simp))) fun v hv => hu v (by simp [hv])
theorem fiAt_rnd (L : Nat → List Int) (to : Int) (t : Nat) : RndInv (fiAt L to t).1 ((t + 1 : Nat) : Int) (fun u => ∃ x, x ∈ (fiAt L to t).2 ∧ u ∈ L x.toNat) (fiAt L to (t + 1)) :=
  RndInv.rnd (fiAt L to t).2 (s := ((fiAt L to t).1, [])) ⟨fun _ _ h => h, fun _ _ h => .inl h, fun y => ⟨fun h => (by cases h), fun ⟨h1, h2⟩ => (by rw [h1] at h2; cases h2)⟩⟩ fun x hx u hu => ⟨x, hx, hu⟩
/-- the layers are what they should be -/
structure LayOK (L : Nat → List Int) (N : Int → Int → Bool) (to : Int) (t : Nat) : Prop where
  val : ∀ y d, (fiAt L to t).1 y = some d → ∃ k : Nat, d = (k : Int) ∧ 1 ≤ k ∧ k ≤ t ∧ Chn N to k y ∧ ∀ j, Chn N to j y → k ≤ j
  all : ∀ k y, k ≤ t → Chn N to k y → ∃ d, (fiAt L to t).1 y = some d
  lay : ∀ y, 1 ≤ t → (y ∈ (fiAt L to t).2 ↔ (fiAt L to t).1 y = some (t : Int))
theorem layOK {L : Nat → List Int} {N : Int → Int → Bool} {to : Int} {many : Nat} (hL : ∀ x, x < many → ∀ u, u ∈ L x → 0 ≤ u ∧ u < (many : Int)) (hto : 0 ≤ to ∧ to < (many : Int)) (hLN : ∀ z u : Int, 0 ≤ z → (u ∈ L z.toNat ↔ N u z = true)) : ∀ t, LayOK L N to t
  | 0 => ⟨fun y d h => (by cases h), fun k y hk h => (by have := h.pos; omega), fun y h => (by omega)⟩
  | t + 1 => by
    have ih := layOK hL hto hLN t
    have R := fiAt_rnd L to t
    have hge : ∀ x, x ∈ (fiAt L to t).2 → 0 ≤ x := fun x hx => ((fiAt_key hL hto t).2 x hx).1
    obtain ⟨m1, m2, _, _⟩ := fiRnd_all (n := ((t + 1 : Nat) : Int)) (L := L) (fiAt L to t).2 ((fiAt L to t).1, [])
    refine ⟨fun y d hd => ?_, fun k y hk hc => ?_, fun y _ => ?_⟩
    · rcases R.new y d hd with h | ⟨h1, h2, x, hx, hu⟩
      · obtain ⟨k, e1, e2, e3, e4, e5⟩ := ih.val y d h
        exact ⟨k, e1, e2, by omega, e4, e5⟩
      · have hN := (hLN x y (hge x hx)).1 hu
        refine ⟨t + 1, h2, by omega, Nat.le_refl _, ?_, fun j hj => ?_⟩
        · rcases Nat.eq_zero_or_pos t with rfl | ht
          · have : x = to := List.mem_singleton.1 hx
            subst this
            exact .one hN
          · obtain ⟨k, e1, _, _, e4, _⟩ := ih.val x _ ((ih.lay x ht).1 hx)
            have : k = t := by omega
            subst this
            exact .step hN e4
        · refine Classical.byContradiction fun q => ?_
          obtain ⟨d', hd'⟩ := ih.all j y (by omega) hj
          rw [h1] at hd'
          cases hd'
    · rcases Nat.lt_or_ge k (t + 1) with q | q
      · obtain ⟨d, hd⟩ := ih.all k y (by omega) hc
        exact ⟨d, R.old y d hd⟩
      · have hkt : k = t + 1 := by omega
        have key : ∀ x, x ∈ (fiAt L to t).2 → N y x = true → ∃ d, (fiAt L to (t + 1)).1 y = some d := fun x hx hN => by
          have h3 : fiB (fiAt L to (t + 1)).1 y = true := m2 x hx y ((hLN x y (hge x hx)).2 hN)
          unfold fiB at h3
          exact Option.isSome_iff_exists.1 h3
        cases hc with
        | one h =>
          have h0 : t = 0 := by omega
          subst h0
          exact key to (by show to ∈ [to]; simp) h
        | @step k' _ z h c =>
          have hk' : k' = t := by omega
          subst hk'
          have h1 := c.pos
          obtain ⟨d, hd⟩ := ih.all k' z (Nat.le_refl _) c
          obtain ⟨j, e1, e2, e3, e4, e5⟩ := ih.val z d hd
          have hj := e5 k' c
          by_cases hjt : j = k'
          · subst hjt
            exact key z ((ih.lay z h1).2 (by rw [hd, e1])) h
          · obtain ⟨d', hd'⟩ := ih.all (j + 1) y (by omega) (.step h e4)
            exact ⟨d', R.old y d' hd'⟩
    · rw [R.lst y]
      constructor
      · exact fun h => h.2
      · intro h
        refine ⟨?_, h⟩
        rcases R.new y _ h with q | q
        · obtain ⟨k, e1, _, e3, _⟩ := ih.val y _ q
          omega
        · exact q.1
/-- who needs z -/
theorem uses_iff {S : SourceD} (hb : numberedB S.schemas.length S.rules = true) (z u : Int) (hz : 0 ≤ z) : u ∈ usesL (graphOf S) z.toNat ↔ needsB S.rules u z = true := by
  have e2 : ((z.toNat : Nat) : Int) = z := Int.toNat_of_nonneg hz
  unfold usesL usesK
  rw [List.mem_filterMap]
  constructor
  · rintro ⟨i, _, h2⟩
    split at h2
    · next q =>
      cases h2
      simp only [Bool.and_eq_true] at q
      rw [e2] at q
      exact q.2
    · cases h2
  · intro hu
    obtain ⟨hu1, _⟩ := numbered_in hb hu
    have e1 : ((u.toNat : Nat) : Int) = u := Int.toNat_of_nonneg hu1.1
    have hh : heads S.rules u = true := by
      refine Classical.byContradiction fun q => ?_
      have := heads_no (R := S.rules) (x := u) (by simpa using q) z
      rw [hu] at this
      cases this
    refine ⟨u.toNat, List.mem_range.2 (by show u.toNat < S.schemas.length; omega), ?_⟩
    rw [e1, e2]
    have h3 : ((graphOf S).hd u && (graphOf S).nd u z) = true := by
      show (heads S.rules u && needsB S.rules u z) = true
      rw [hh, hu]
      rfl
    rw [if_pos h3]
/-- a distance is the least length of a chain -/
theorem dist_chn {S : SourceD} (hb : numberedB S.schemas.length S.rules = true) {to : Int} (hto : 0 ≤ to ∧ to < (S.schemas.length : Int)) (y : Int) (k : Nat) : distS S to y = some (k : Int) ↔ Chn (needsB S.rules) to k y ∧ ∀ j, Chn (needsB S.rules) to j y → k ≤ j := by
  have hL : ∀ x, x < S.schemas.length → ∀ u, u ∈ usesL (graphOf S) x → 0 ≤ u ∧ u < (S.schemas.length : Int) := fun x hx => (uses_ok x hx).2
  have ok := layOK (N := needsB S.rules) hL hto (uses_iff hb)
  have hval := (ok (S.schemas.length + 1)).val y
  constructor
  · intro h
    obtain ⟨k', e1, _, _, e4, e5⟩ := hval _ h
    have : k = k' := by omega
    subst this
    exact ⟨e4, e5⟩
  · rintro ⟨hc, hmin⟩
    obtain ⟨t, ht, hs⟩ := fi_stops hL hto
    have hge : ∃ d, distS S to y = some d := by
      have e1 := (fiAt_stop hs k).1
      have e2 := (fiAt_stop hs (S.schemas.length + 1 - t)).1
      rw [show t + (S.schemas.length + 1 - t) = S.schemas.length + 1 by omega] at e2
      obtain ⟨d, hd⟩ := (ok (t + k)).all k y (by omega) hc
      refine ⟨d, ?_⟩
      show (fiAt (usesL (graphOf S)) to (S.schemas.length + 1)).1 y = some d
      rw [e2, ← e1]
      exact hd
    obtain ⟨d, hd⟩ := hge
    obtain ⟨k', e1, _, _, e4, e5⟩ := hval d hd
    have h1 := hmin k' e4
    have h2 := e5 k hc
    have : k' = k := by omega
    subst this
    rw [hd, e1]
end Go.Proofs.Ytdhfakajlnidiaa
namespace Go.Proofs.Ytdhfakajlnidiaa
open Go.RowKit

/-! The two shortest circles are one. -/
theorem least_of {P : Nat → Prop} (h : ∃ n, P n) : ∃ n, P n ∧ ∀ m, m < n → ¬ P m := by
  refine Classical.byContradiction fun hno => ?_
  obtain ⟨n, hn⟩ := h
  have all : ∀ k, ¬ P k := fun k => by
    induction k using Nat.strongRecOn with
    | _ k ih => exact fun hk => hno ⟨k, hk, ih⟩
  exact all n hn
theorem findN_none {α : Type} {F : Nat → Option α} : ∀ (r k : Nat), (∀ z, k ≤ z → z < k + r → F z = none) → findN F r k = none
  | 0, _, _ => rfl
  | r + 1, k, h => by
    simp only [findN, h k (Nat.le_refl _) (by omega)]
    exact findN_none r (k + 1) fun z h1 h2 => h z (by omega) (by omega)
theorem findN_first {α : Type} {F : Nat → Option α} {z0 : Nat} {y : α} (hy : F z0 = some y) : ∀ (r k : Nat), k ≤ z0 → z0 < k + r → (∀ z, k ≤ z → z < z0 → F z = none) → findN F r k = some y
  | 0, k, h1, h2, _ => by omega
  | r + 1, k, h1, h2, h => by
    by_cases e : k = z0
    · subst e; simp only [findN, hy]
    · simp only [findN, h k (Nat.le_refl _) (by omega)]
      exact findN_first hy r (k + 1) (by omega) (by omega) fun z h3 h4 => h z (by omega) h4
theorem findN_some {α : Type} {F : Nat → Option α} {y : α} : ∀ (r k : Nat), findN F r k = some y → ∃ z, k ≤ z ∧ z < k + r ∧ F z = some y
  | 0, k, h => by cases h
  | r + 1, k, h => by
    cases hF : F k with
    | some x =>
      simp only [findN, hF] at h
      exact ⟨k, Nat.le_refl _, by omega, by rw [hF, h]⟩
    | none =>
      simp only [findN, hF] at h
      obtain ⟨z, h1, h2, h3⟩ := findN_some r (k + 1) h
      exact ⟨z, by omega, by omega, h3⟩
theorem numsL_find {T Q : Int → Bool} {z0 : Nat} (hT : T z0 = true) (hQ : Q z0 = true) : ∀ n, z0 < n → (∀ z : Nat, z < z0 → T z = true → Q z = false) → (numsL n T).find? Q = some (z0 : Int)
  | 0, h, _ => by omega
  | n + 1, h, hno => by
    rw [numsL_succ]
    by_cases e : z0 = n
    · subst e
      rw [if_pos hT, List.find?_append]
      have h1 : (numsL z0 T).find? Q = none := by
        rw [List.find?_eq_none]
        intro x hx
        obtain ⟨⟨h1, h2⟩, h3⟩ := numsL_mem.1 hx
        have e1 : ((x.toNat : Nat) : Int) = x := Int.toNat_of_nonneg h1
        have := hno x.toNat (by omega) (by rw [e1]; exact h3)
        rw [e1] at this
        rw [this]
        exact Bool.false_ne_true
      rw [h1]
      simp [hQ]
    · have ih := numsL_find hT hQ n (by omega) hno
      split
      · rw [List.find?_append, ih]; rfl
      · exact ih
section
variable {N : Int → Int → Bool} {n : Nat}
/-- what the reference finds is a chain -/
theorem ext_chn : ∀ (f : Nat) (cs : List Int) (l : List Int), cs ≠ [] → extR N n f cs = some l → Chn N (cs.getD 0 0) (f + 1) (lastI cs)
  | 0, cs, l, hne, h => by
    have h' : (if N (lastI cs) (cs.getD 0 0) then some cs else none) = some l := h
    split at h'
    · next q => exact .one q
    · cases h'
  | f + 1, cs, l, hne, h => by
    have h' : findN (tryE N (extR N n f) cs) n 0 = some l := h
    obtain ⟨z, _, _, hz⟩ := findN_some _ _ h'
    unfold tryE at hz
    split at hz
    · cases hz
    split at hz
    · next q2 =>
      have hl : cs.length ≠ 0 := fun e => hne (List.eq_nil_of_length_eq_zero e)
      rw [decide_eq_false hl, Bool.false_or] at q2
      have ih := ext_chn f (cs ++ [(z : Int)]) l (by simp) hz
      have e1 : (cs ++ [(z : Int)]).getD 0 0 = cs.getD 0 0 := by
        cases cs with
        | nil => exact absurd rfl hne
        | cons c cs => rfl
      have e2 : lastI (cs ++ [(z : Int)]) = (z : Int) := by unfold lastI; simp
      rw [e1, e2] at ih
      exact .step q2 ih
    · cases hz
/-- from a place on a shortest circle the reference goes as the program goes -/
theorem ext_walk {a : Int} {DA : FI} (hD : ∀ y (k : Nat), DA y = some (k : Int) ↔ Chn N a k y ∧ ∀ j, Chn N a j y → k ≤ j) (hin : ∀ y z, N y z = true → 0 ≤ z ∧ z < (n : Int)) :
    ∀ (f : Nat) (cs : List Int), cs ≠ [] → cs.getD 0 0 = a → DA (lastI cs) = some ((f + 1 : Nat) : Int) → (∀ c, c ∈ cs → ∃ d : Nat, DA c = some (d : Int) ∧ f + 1 ≤ d) → extR N n f cs = some (cs ++ walkP (fun y => numsL n (N y)) DA f (lastI cs))
  | 0, cs, hne, ha, hd, _ => by
    obtain ⟨hc, _⟩ := (hD _ _).1 hd
    show (if N (lastI cs) (cs.getD 0 0) then some cs else none) = some (cs ++ [])
    rw [ha, List.append_nil]
    cases hc with
    | one h => rw [if_pos h]
    | step h c => have := c.pos; omega
  | f + 1, cs, hne, ha, hd, hcs => by
    obtain ⟨hc, hmin⟩ := (hD _ _).1 hd
    have hl : cs.length ≠ 0 := fun e => hne (List.eq_nil_of_length_eq_zero e)
    -- who is one step nearer
    have hP : ∀ z : Int, N (lastI cs) z = true → ∀ j, Chn N a j z → f + 1 ≤ j := fun z hz j hj => by
      have := hmin (j + 1) (.step hz hj)
      omega
    have hnear : ∀ z : Int, N (lastI cs) z = true → Chn N a (f + 1) z → DA z = some ((f + 1 : Nat) : Int) := fun z hz h => (hD _ _).2 ⟨h, hP z hz⟩
    obtain ⟨z0, ⟨hz1, hz2⟩, hzmin⟩ : ∃ z : Nat, (N (lastI cs) (z : Int) = true ∧ DA (z : Int) = some ((f + 1 : Nat) : Int)) ∧ ∀ m, m < z → ¬ (N (lastI cs) (m : Int) = true ∧ DA (m : Int) = some ((f + 1 : Nat) : Int)) := by
      refine least_of ?_
      have : ∃ z : Int, N (lastI cs) z = true ∧ Chn N a (f + 1) z := by
        cases hc with
        | step h c => exact ⟨_, h, c⟩
      obtain ⟨z, h1, h2⟩ := this
      have e1 : ((z.toNat : Nat) : Int) = z := Int.toNat_of_nonneg (hin _ _ h1).1
      exact ⟨z.toNat, by rw [e1]; exact ⟨h1, hnear z h1 h2⟩⟩
    have hzn : z0 < n := by have := (hin _ _ hz1).2; omega
    have hnot : ∀ z : Int, DA z = some ((f + 1 : Nat) : Int) → z ∉ cs := fun z hz hm => by
      obtain ⟨d, h1, h2⟩ := hcs z hm
      rw [hz] at h1
      have : ((f + 1 : Nat) : Int) = (d : Int) := Option.some.inj h1
      omega
    have e1 : (cs ++ [(z0 : Int)]).getD 0 0 = a := by
      rw [← ha]
      cases cs with
      | nil => exact absurd rfl hne
      | cons c cs => rfl
    have e2 : ∀ z : Int, lastI (cs ++ [z]) = z := fun z => by unfold lastI; simp
    have ih := ext_walk hD hin f (cs ++ [(z0 : Int)]) (by simp) e1 (by rw [e2]; exact hz2) (fun c hc => by
      rcases List.mem_append.1 hc with q | q
      · obtain ⟨d, h1, h2⟩ := hcs c q
        exact ⟨d, h1, by omega⟩
      · rw [List.mem_singleton.1 q]; exact ⟨f + 1, hz2, Nat.le_refl _⟩)
    rw [e2] at ih
    have hw : walkP (fun y => numsL n (N y)) DA (f + 1) (lastI cs) = (z0 : Int) :: walkP (fun y => numsL n (N y)) DA f z0 := by
      have hf : (numsL n (N (lastI cs))).find? (fun x => decide ((DA x).getD 0 = ((f + 1 : Nat) : Int))) = some (z0 : Int) := by
        refine numsL_find hz1 (by rw [hz2]; exact decide_eq_true rfl) n hzn fun z hz hT => ?_
        refine decide_eq_false fun q => hzmin z hz ⟨hT, ?_⟩
        cases hDz : DA (z : Int) with
        | none => rw [hDz] at q; simp at q; omega
        | some d => rw [hDz] at q; exact congrArg some q
      simp only [walkP, hf]
    rw [hw]
    show findN (tryE N (extR N n f) cs) n 0 = _
    have happ : cs ++ (z0 : Int) :: walkP (fun y => numsL n (N y)) DA f z0 = cs ++ [(z0 : Int)] ++ walkP (fun y => numsL n (N y)) DA f z0 := by simp
    rw [happ]
    refine findN_first (z0 := z0) ?_ n 0 (Nat.zero_le _) (by omega) fun z _ hz => ?_
    · unfold tryE
      rw [if_neg (by rw [decide_eq_false (hnot _ hz2)]; exact Bool.false_ne_true), hz1, Bool.or_true, if_pos rfl]
      exact ih
    · unfold tryE
      split
      · rfl
      split
      · next q2 =>
        rw [decide_eq_false hl, Bool.false_or] at q2
        cases hr : extR N n f (cs ++ [(z : Int)]) with
        | none => rfl
        | some l =>
          exfalso
          have h1 := ext_chn f (cs ++ [(z : Int)]) l (by simp) hr
          have e3 : (cs ++ [(z : Int)]).getD 0 0 = a := by
            rw [← ha]
            cases cs with
            | nil => exact absurd rfl hne
            | cons c cs => rfl
          rw [e3, e2] at h1
          exact hzmin z hz ⟨q2, hnear _ q2 h1⟩
      · rfl
end
end Go.Proofs.Ytdhfakajlnidiaa
namespace Go.Proofs.Ytdhfakajlnidiaa
open Go.RowKit

/-! Cycle and its specification agree. -/
theorem best_min {n : Nat} {D : Int → FI} : ∀ k, (∀ j : Nat, j < k → ∀ d, D j j = some d → (bestAt n D k).1 ≤ d) ∧ ((bestAt n D k).1 ≤ (n : Int) → ∃ i : Nat, i < k ∧ (bestAt n D k).2 = (i : Int) ∧ D i i = some (bestAt n D k).1 ∧ ∀ j : Nat, j < i → ∀ d, D j j = some d → (bestAt n D k).1 < d)
  | 0 => ⟨fun j hj => (by omega), fun h => by
    have : (bestAt n D 0).1 = (n : Int) + 1 := rfl
    omega⟩
  | k + 1 => by
    obtain ⟨h1, h2⟩ := best_min k
    rw [bestAt_succ]
    cases hk : D k k with
    | none =>
      have e : bestStep D (bestAt n D k) k = bestAt n D k := by unfold bestStep; rw [hk]
      rw [e]
      refine ⟨fun j hj d hd => ?_, fun h => ?_⟩
      · by_cases q : j = k
        · subst q; rw [hk] at hd; cases hd
        · exact h1 j (by omega) d hd
      · obtain ⟨i, g1, g2⟩ := h2 h
        exact ⟨i, by omega, g2⟩
    | some d0 =>
      by_cases hlt : d0 < (bestAt n D k).1
      · have e : bestStep D (bestAt n D k) k = (d0, (k : Int)) := by
          unfold bestStep
          rw [hk]
          exact if_pos hlt
        rw [e]
        refine ⟨fun j hj d hd => ?_, fun _ => ⟨k, by omega, rfl, hk, fun j hj d hd => ?_⟩⟩
        · show d0 ≤ d
          by_cases q : j = k
          · subst q; rw [hk] at hd; cases hd; exact Int.le_refl _
          · have := h1 j (by omega) d hd
            omega
        · have := h1 j hj d hd
          show d0 < d
          omega
      · have e : bestStep D (bestAt n D k) k = bestAt n D k := by
          unfold bestStep
          rw [hk]
          exact if_neg hlt
        rw [e]
        refine ⟨fun j hj d hd => ?_, fun h => ?_⟩
        · by_cases q : j = k
          · subst q; rw [hk] at hd; cases hd; omega
          · exact h1 j (by omega) d hd
        · obtain ⟨i, g1, g2⟩ := h2 h
          exact ⟨i, by omega, g2⟩
theorem dist_nat {S : SourceD} (hb : numberedB S.schemas.length S.rules = true) {to : Int} (hto : 0 ≤ to ∧ to < (S.schemas.length : Int)) {y d : Int} (h : distS S to y = some d) : ∃ k : Nat, d = (k : Int) ∧ 1 ≤ k := by
  obtain ⟨k, e1, e2, _⟩ := (layOK (N := needsB S.rules) (fun x hx => (uses_ok x hx).2) hto (uses_iff hb) _).val y d h
  exact ⟨k, e1, e2⟩
theorem dist_of_chn {S : SourceD} (hb : numberedB S.schemas.length S.rules = true) {to : Int} (hto : 0 ≤ to ∧ to < (S.schemas.length : Int)) {y : Int} {k : Nat} (h : Chn (needsB S.rules) to k y) : ∃ d : Nat, distS S to y = some (d : Int) ∧ d ≤ k := by
  obtain ⟨d, h1, h2⟩ := least_of (P := fun j => Chn (needsB S.rules) to j y) ⟨k, h⟩
  have hd : ∀ j, Chn (needsB S.rules) to j y → d ≤ j := fun j hj => Classical.byContradiction fun q => h2 j (by omega) hj
  exact ⟨d, (dist_chn hb hto y d).2 ⟨h1, hd⟩, hd k h⟩
/-- what a find of the reference says -/
theorem ext_circle {N : Int → Int → Bool} {n m : Nat} {l : List Int} (h : extR N n (m + 1) [] = some l) : ∃ z : Nat, z < n ∧ Chn N (z : Int) (m + 1) (z : Int) := by
  have h' : findN (tryE N (extR N n m) []) n 0 = some l := h
  obtain ⟨z, _, h2, hz⟩ := findN_some _ _ h'
  unfold tryE at hz
  split at hz
  · cases hz
  split at hz
  · exact ⟨z, by omega, ext_chn m [(z : Int)] l (by simp) hz⟩
  · cases hz
theorem cyc_eq (S : SourceD) : hasCyc S = rcycB S ∧ cycL S = rcycL S := by
  cases hb : numberedB S.schemas.length S.rules with
  | false =>
    have h1 : hasCyc S = false := by unfold hasCyc; rw [hb]; rfl
    have h2 : rcycB S = false := by unfold rcycB; rw [hb]; rfl
    refine ⟨by rw [h1, h2], ?_⟩
    unfold cycL rcycL
    rw [h1, hb]
    rfl
  | true =>
    obtain ⟨n, hn⟩ : ∃ n, n = S.schemas.length := ⟨_, rfl⟩
    have hin : ∀ y z, needsB S.rules y z = true → 0 ≤ z ∧ z < (n : Int) := fun y z h => by rw [hn]; exact (numbered_in hb h).2
    have hrg : ∀ i : Nat, i < n → 0 ≤ (i : Int) ∧ (i : Int) < (S.schemas.length : Int) := fun i hi => by omega
    have hmin := (best_min (n := n) (D := distS S) n).1
    have hbest := (best_min (n := n) (D := distS S) n).2
    have hbS : bestS S = bestAt n (distS S) n := by rw [hn]; rfl
    have hRO : rcycO S = findN (fun k => extR (needsB S.rules) n (k + 1) []) n 0 := by rw [hn]; rfl
    by_cases hle : (bestAt n (distS S) n).1 ≤ (n : Int)
    · obtain ⟨i, hi, h2, h3, h4⟩ := hbest hle
      obtain ⟨k, hk, hk1⟩ := dist_nat hb (hrg i hi) h3
      obtain ⟨f, rfl⟩ : ∃ f, k = f + 1 := ⟨k - 1, by omega⟩
      have hD := dist_chn hb (hrg i hi)
      rw [hk] at h3
      have hw := ext_walk (n := n) (a := (i : Int)) (DA := distS S (i : Int)) hD hin f [(i : Int)] (by simp) rfl h3 (fun c hc => by
        rw [List.mem_singleton.1 hc]
        exact ⟨f + 1, h3, Nat.le_refl _⟩)
      have hlast : lastI [(i : Int)] = (i : Int) := rfl
      rw [hlast] at hw
      have hfull : extR (needsB S.rules) n (f + 1) [] = some ((i : Int) :: walkP (fun y => numsL n (needsB S.rules y)) (distS S (i : Int)) f (i : Int)) := by
        show findN (tryE (needsB S.rules) (extR (needsB S.rules) n f) []) n 0 = _
        refine findN_first (z0 := i) ?_ n 0 (Nat.zero_le _) (by omega) fun z _ hz => ?_
        · unfold tryE
          rw [if_neg (by simp)]
          exact hw
        · unfold tryE
          rw [if_neg (by simp)]
          show extR (needsB S.rules) n f ([] ++ [(z : Int)]) = none
          cases hr : extR (needsB S.rules) n f ([] ++ [(z : Int)]) with
          | none => rfl
          | some l =>
            exfalso
            have hc := ext_chn f [(z : Int)] l (by simp) hr
            obtain ⟨d, hd1, hd2⟩ := dist_of_chn hb (hrg z (by omega)) hc
            have := h4 z hz d hd1
            omega
      have hfn : f < n := by omega
      have hO : rcycO S = some ((i : Int) :: walkP (fun y => numsL n (needsB S.rules y)) (distS S (i : Int)) f (i : Int)) := by
        rw [hRO]
        refine findN_first (F := fun k => extR (needsB S.rules) n (k + 1) []) (z0 := f) hfull n 0 (Nat.zero_le _) (by omega) fun m _ hm => ?_
        show extR (needsB S.rules) n (m + 1) [] = none
        cases hr : extR (needsB S.rules) n (m + 1) [] with
        | none => rfl
        | some l =>
          exfalso
          obtain ⟨z, hz, hc⟩ := ext_circle hr
          obtain ⟨d, hd1, hd2⟩ := dist_of_chn hb (hrg z hz) hc
          have := hmin z hz d hd1
          omega
      have hhas : hasCyc S = true := by
        unfold hasCyc
        rw [hb, hbS, ← hn]
        exact decide_eq_true hle
      refine ⟨?_, ?_⟩
      · rw [hhas]
        unfold rcycB
        rw [hb, hO]
        rfl
      · unfold cycL rcycL
        rw [hhas, hb, hO, hbS, h2, hk]
        have e1 : ((f + 1 : Nat) : Int).toNat - 1 = f := by omega
        rw [e1]
        show (i : Int) :: walkP (needKs S) (distS S (i : Int)) f (i : Int) = (i : Int) :: walkP (fun y => numsL n (needsB S.rules y)) (distS S (i : Int)) f (i : Int)
        rw [hn]
        rfl
    · have hhas : hasCyc S = false := by
        unfold hasCyc
        rw [hb, hbS, ← hn]
        exact decide_eq_false hle
      have hO : rcycO S = none := by
        rw [hRO]
        refine findN_none (F := fun k => extR (needsB S.rules) n (k + 1) []) n 0 fun m _ hm => ?_
        show extR (needsB S.rules) n (m + 1) [] = none
        cases hr : extR (needsB S.rules) n (m + 1) [] with
        | none => rfl
        | some l =>
          exfalso
          obtain ⟨z, hz, hc⟩ := ext_circle hr
          obtain ⟨d, hd1, hd2⟩ := dist_of_chn hb (hrg z hz) hc
          have := hmin z hz d hd1
          omega
      refine ⟨?_, ?_⟩
      · rw [hhas]
        unfold rcycB
        rw [hb, hO]
        rfl
      · unfold cycL rcycL
        rw [hhas, hb, hO]
        rfl
end Go.Proofs.Ytdhfakajlnidiaa
namespace Go.Proofs.Ytdhfakajlnidiaa
open Go.RowKit Go.Shelf

/-! slices.Collect of the iterator, and Order. -/
theorem intV_list (l : List Int) : intV (atL l) l.length = l.map (Value.int .i64) := by
  refine List.ext_getElem? fun i => ?_
  rw [List.getElem?_map, List.getElem?_map]
  by_cases h : i < l.length
  · rw [List.getElem?_range h, get_atL h]
    rfl
  · rw [List.getElem?_eq_none (by simp; omega), List.getElem?_eq_none (by omega)]
    rfl
theorem collect_pureF (g : GraphD) (hm : g.many ≤ 10000) (hnd : ∀ h y, g.nd h y = true → g.hd h = true ∧ 0 ≤ y ∧ y < (g.many : Int)) (hcn : ∀ y, g.hd y = true → g.cn y = cnt g.many (g.nd y)) :
    PureF Try.prog 33 [.fn (.func 50) [] [.dp g.c 0]] (.slm 1 (some (.var (ordR g.many g.nd).isEmpty)) intC (ordR g.many g.nd)) := by
  refine ⟨⟨_, _, Try.func33, rfl, by kernel_rfl⟩, fun w G vs hL hG hv => ?_⟩
  obtain ⟨v, rfl, hv2⟩ := one_inv hv
  obtain ⟨v1, rfl, hd1⟩ := fn1_inv hv2
  have hlen := (seqR_inv (m := g.many) (nd := g.nd) g.many).len
  have hlen' : (ordR g.many g.nd).length ≤ g.many := hlen
  refine ((callsIn_wide (n := 4)).1 (collect_seqE 50 _ (enters_of Try.func50 (by kernel_rfl) rfl) _ (by omega) (atL (ordR g.many g.nd)) w (it50 g hm hnd hcn w G hG v1 hd1))).mono ?_
  rintro e w' ⟨v, rfl, hb, hr, hn⟩
  refine ⟨v, fun b => some b = v.ownBlock, rfl, hb, fun b hb => ownBlock_lt hr b hb, own_rep (G := fun b => some b = v.ownBlock) (by rw [← intV_list]; exact hr) (fun z hz => ?_) (fun b hb => hb) (by rw [hn, List.length_eq_zero_iff]) (by unfold maxLen; omega) rfl⟩
  obtain ⟨i, hi, rfl⟩ := (seqR_inv (m := g.many) (nd := g.nd) g.many).rng z hz
  exact inr_nat14 (by omega)
def ordS (S : SourceD) : List Int := ordR S.schemas.length (needsB S.rules)
def ordOK (S : SourceD) : Bool := numberedB S.schemas.length S.rules && decide ((ordS S).length = S.schemas.length)
def ordL (S : SourceD) : List Int := if ordOK S then ordS S else []
def numE (S : SourceD) : Int := if numberedB S.schemas.length S.rules then 0 else 140
theorem needs_heads {R : List RuleD} {a b : Int} (h : needsB R a b = true) : heads R a = true := by
  unfold needsB at h
  rw [List.any_eq_true] at h
  obtain ⟨r, hr, hb⟩ := h
  unfold needB at hb
  rw [Bool.and_eq_true, decide_eq_true_eq] at hb
  unfold heads
  rw [List.any_eq_true]
  exact ⟨r, hr, by simp [hb.1]⟩
set_option maxHeartbeats 4000000 in
set_option maxRecDepth 100000 in
set_option maxHeartbeats 4000000 in
theorem Order_pure (S : SourceD) (h : SmallS S) : Pure Try.prog 16 [.agg S.c] (.tup [.slm 1 (some (.var (ordL S).isEmpty)) intC (ordL S), boolD (ordOK S), i64 (numE S)]) := by
  have hn7 := h.n
  have hread := (read_pure S (by omega) (by have := h.r; omega) (fun r hr => by have := h.f r hr; omega)).pure
  have hcol : numberedB S.schemas.length S.rules = true → PureF Try.prog 33 [.fn (.func 50) [] [.dp (graphOf S).c 0]] (.slm 1 (some (.var (ordS S).isEmpty)) intC (ordS S)) := fun hb =>
    collect_pureF (graphOf S) (by show S.schemas.length ≤ 10000; omega) (fun a b hn => ⟨needs_heads hn, (numbered_in hb hn).2⟩) (fun y _ => rfl)
  have hG : (graphOf S).c = [.int .i64 (.nat S.schemas.length), .mg .i64 (graphF (graphOf S)) (.nat (graphOf S).m)] := rfl
  have hr1 : numberedB S.schemas.length S.rules = true → Pure Try.prog 23 [.agg S.c] (.tup [.agg [.int .i64 (.nat S.schemas.length), .mg .i64 (graphF (graphOf S)) (.nat (graphOf S).m)], .int .i64 (.lit 0)]) := fun hb => by
    unfold readD at hread
    rw [hb, hG] at hread
    exact hread
  have hr0 : numberedB S.schemas.length S.rules = false → Pure Try.prog 23 [.agg S.c] (.tup [.agg [.int .i64 (.lit 0), .nilm], .int .i64 (.lit 140)]) := fun hb => by
    unfold readD at hread
    rw [hb] at hread
    exact hread
  rw [hG] at hcol
  clear hread hG
  have hlo : (ordS S).length ≤ S.schemas.length := (seqR_inv (m := S.schemas.length) (nd := needsB S.rules) S.schemas.length).len
  obtain ⟨l, hl⟩ : ∃ l, l = ordL S := ⟨_, rfl⟩
  obtain ⟨e, he⟩ : ∃ e, e = numE S := ⟨_, rfl⟩
  obtain ⟨ok, hok⟩ : ∃ e, e = ordOK S := ⟨_, rfl⟩
  rw [← hl, ← he, ← hok]
  unfold ordL at hl
  rw [← hok] at hl
  unfold ordOK at hok
  unfold numE at he
  obtain ⟨os, hos⟩ : ∃ l, l = ordS S := ⟨_, rfl⟩
  rw [← hos] at hl hok hcol hlo
  obtain ⟨GF, hGF⟩ : ∃ U, U = graphF (graphOf S) := ⟨_, rfl⟩
  obtain ⟨gm, hgm⟩ : ∃ U, U = (graphOf S).m := ⟨_, rfl⟩
  rw [← hGF, ← hgm] at hr1 hcol
  obtain ⟨rb, hrb⟩ : ∃ b, b = numberedB S.schemas.length S.rules := ⟨_, rfl⟩
  rw [← hrb] at hr0 hr1 hcol hok he
  obtain ⟨n, hn⟩ : ∃ n, n = S.schemas.length := ⟨_, rfl⟩
  rw [← hn] at hr1 hcol hok hlo
  clear hGF hgm hrb h hn hos
  obtain ⟨lb, hlb⟩ : ∃ lb, lb = l.isEmpty := ⟨_, rfl⟩
  rw [← hlb]
  obtain ⟨ob, hob⟩ : ∃ lb, lb = os.isEmpty := ⟨_, rfl⟩
  rw [← hob] at hcol
  obtain ⟨ni, is, nu, us, ns, ss, nr, rs, nc, cs, np, ps⟩ := S
  refine Pure.intro (want := [.slm 1 (some (.var lb)) intC l, boolD ok, i64 e]) T_ok follows Try.func16 rfl (by kernel_rfl) (rs := [.tmp 2, .tmp 3, .tmp 4]) rfl (by kernel_rfl) ?_
  generalize hP : Try.prog = P at *
  have hT : T.ok P := hP ▸ T_ok
  have hm : P.follows .mixedOrders = true := hP ▸ follows
  unfold Try.f16
  dsimp only
  cbv
  cases rb with
  | false =>
    have hok2 : ok = false := hok
    subst hok2
    refine CallP.pure _ (hr0 rfl) rfl ?_
    cbv
    refine .mk (.cons (.eq (.nilv hl ?_)) (.cons (.eq (.bool ?_)) (.cons (.eq (.int ?_)) .nil))) rfl
    · rw [BE.var_d, hlb, hl]; rfl
    · rfl
    · rw [IE.lit_d, IE.var_d, he]; rfl
  | true =>
    have hok2 : ok = decide (os.length = n) := hok
    refine CallP.pure _ (hr1 rfl) rfl ?_
    cbv
    refine (CallP.inl hT hm (hP ▸ Try.func34) rfl (by kernel_rfl) (rs := [.tmp 2]) rfl (by kernel_rfl) ?_)
    unfold Try.f34
    dsimp only
    cbv
    refine CallP.lendF _ _ (hcol rfl) (.cons (.fns .nil (.cons (.dp rfl rfl rfl) .nil)) .nil) rfl ?_
    cbv
    refine SplitP.mk (fun hs => ?_) (fun hs => ?_)
    · have hs2 : (os.length : Int) < (n : Int) := of_decide_eq_true hs
      have hok3 : ok = false := by rw [hok2]; exact decide_eq_false (by omega)
      subst hok3
      refine .mk (.cons (.eq (.nilv hl ?_)) (.cons (.eq (.bool ?_)) (.cons (.eq (.int ?_)) .nil))) rfl
      · rw [BE.var_d, hlb, hl]; rfl
      · rfl
      · rw [IE.lit_d, IE.var_d, he]; rfl
    · have hs2 : ¬ (os.length : Int) < (n : Int) := of_decide_eq_false hs
      have hok3 : ok = true := by rw [hok2]; exact decide_eq_true (by omega)
      subst hok3
      obtain rfl : l = os := hl
      refine .mk (.cons (.eq (.slmb ?_ rfl)) (.cons (.eq (.bool ?_)) (.cons (.eq (.int ?_)) .nil))) rfl
      · rw [BE.var_d, BE.var_d, hlb, hob]
      · rfl
      · rw [IE.lit_d, IE.var_d, he]; rfl
end Go.Proofs.Ytdhfakajlnidiaa
namespace Go.Proofs.Ytdhfakajlnidiaa
open Go.RowKit

/-! RulesCycleSpec, but for the examples (sane). -/
set_option maxHeartbeats 8000000 in
set_option maxRecDepth 100000 in
set_option maxHeartbeats 4000000 in
theorem cycleSpec_pure (hs : Pure Try.prog 9 [] (boolD true)) (S : SourceD) (x : Int) (hR : S.rules.length ≤ 9223372036854775807) : Pure Try.prog 3 [.agg S.c, i64 x] (boolD true) := by
  have hFew := Few_pure S hR
  obtain ⟨fw, hfw⟩ : ∃ b, b = fewB S := ⟨_, rfl⟩
  rw [← hfw] at hFew
  have hC := fun h : fw = true => Cycle_pure S (few_small (hfw.symm.trans h))
  have hRC := fun h : fw = true => RCycle_pure S (few_small (hfw.symm.trans h))
  have hA := fun h : fw = true => Above_pure S (few_small (hfw.symm.trans h)) x
  have hRA := fun h : fw = true => RAbove_pure S (few_small (hfw.symm.trans h)) x
  obtain ⟨e1, e2⟩ := cyc_eq S
  rw [← e1, ← e2] at hRC
  have hl1 : fw = true → (cycL S).length < 9223372036854775807 := fun h => by
    have hn := (few_small (hfw.symm.trans h)).n
    have hw : ∀ m (y : Int) DA, (walkP (needKs S) DA m y).length ≤ m := fun m => by
      induction m with
      | zero => exact fun y DA => Nat.le_refl _
      | succ m ih =>
        intro y DA
        simp only [walkP]
        split
        · have := ih ‹_› DA
          simp only [List.length_cons]
          omega
        · exact Nat.zero_le _
    unfold cycL
    split
    · next hc =>
      have := hw ((bestS S).1.toNat - 1) (bestS S).2 (distS S (bestS S).2)
      unfold hasCyc at hc
      simp only [Bool.and_eq_true, decide_eq_true_eq] at hc
      simp only [List.length_cons]
      omega
    · simp
  have hl2 : fw = true → (aboveL S x).length < 9223372036854775807 := fun h => by
    have hn := (few_small (hfw.symm.trans h)).n
    unfold aboveL
    split
    · rw [numsL_len]
      have := cnt_le S.schemas.length (fiB (distS S x))
      omega
    · simp
  obtain ⟨cl, hcl⟩ : ∃ l, l = cycL S := ⟨_, rfl⟩
  obtain ⟨al, hal⟩ : ∃ l, l = aboveL S x := ⟨_, rfl⟩
  obtain ⟨hc, hhc⟩ : ∃ l, l = hasCyc S := ⟨_, rfl⟩
  obtain ⟨ae, hae⟩ : ∃ l, l = aboveE S x := ⟨_, rfl⟩
  obtain ⟨ce, hce⟩ : ∃ e : Int, e = if numberedB S.schemas.length S.rules then 0 else 140 := ⟨_, rfl⟩
  rw [← hcl, ← hhc, ← hce] at hC hRC
  rw [← hal, ← hae] at hA hRA
  rw [← hcl] at hl1
  rw [← hal] at hl2
  obtain ⟨b1, hb1⟩ : ∃ b, b = cl.isEmpty := ⟨_, rfl⟩
  obtain ⟨b2, hb2⟩ : ∃ b, b = al.isEmpty := ⟨_, rfl⟩
  rw [← hb1] at hC
  rw [← hb2] at hA
  have hS1 := fun h : fw = true => Same_pure cl cl (some (.var b1)) none (hl1 h)
  have hS2 := fun h : fw = true => Same_pure al al (some (.var b2)) none (hl2 h)
  rw [decide_eq_true rfl] at hS1 hS2
  clear hfw e1 e2 hcl hal hhc hae hce hb1 hb2 hl1 hl2 hR
  obtain ⟨ni, is, nu, us, ns, ss, nr, rs, nc, cs, np, ps⟩ := S
  refine Pure.intro (want := [boolD true]) T_ok follows Try.func3 rfl (by kernel_rfl) (rs := [.tmp 4]) rfl (by kernel_rfl) ?_
  generalize hP : Try.prog = P at *
  have hT : T.ok P := hP ▸ T_ok
  have hm : P.follows .mixedOrders = true := hP ▸ follows
  unfold Try.f3
  dsimp only
  cbv
  refine CallP.pure _ hs rfl ?_
  cbv
  refine SplitP.mk (fun h => by cases h) (fun h => ?_)
  clear h
  refine CallP.pure _ hFew rfl ?_
  cbv
  cases fw with
  | false =>
    refine SplitP.mk (fun h => ?_) (fun h => by cases h)
    exact .mk (.cons (.eq (.bool rfl)) .nil) rfl
  | true =>
  refine SplitP.mk (fun h => by cases h) (fun h => ?_)
  clear h
  refine CallP.pure _ (hC rfl) rfl ?_
  cbv
  refine CallP.pure _ (hRC rfl) rfl ?_
  cbv
  refine CallP.pure _ (hA rfl) rfl ?_
  cbv
  refine CallP.pure _ (hRA rfl) rfl ?_
  cbv
  refine CallP.pure _ (hS1 rfl) rfl ?_
  cbv
  refine SplitP.mk (fun h => ?_) (fun h => by cases h)
  clear h
  refine SplitP.mk (fun h => ?_) (fun h => ?_)
  rotate_left
  · exfalso
    have h5 : (hc == hc) = false := h
    simp at h5
  clear h
  refine SplitP.mk (fun h => ?_) (fun h => ?_)
  rotate_left
  · exfalso
    have h5 : (ce == ce) = false := h
    simp at h5
  clear h
  refine CallP.pure _ (hS2 rfl) rfl ?_
  cbv
  refine SplitP.mk (fun h => ?_) (fun h => by cases h)
  clear h
  first
    | (refine SplitP.mk (fun h => ?_) (fun h => ?_)
       · exact .mk (.cons (.eq (.bool rfl)) .nil) rfl
       · exfalso
         have h5 : (ae == ae) = false := h
         simp at h5)
    | (refine .mk (.cons (.eq (.bool ?_)) .nil) rfl
       show (ae == ae) = true
       simp)
end Go.Proofs.Ytdhfakajlnidiaa
namespace Go.Proofs.Ytdhfakajlnidiaa
open Go.RowKit

/-! Sources made of lists. -/
theorem snd_agg {H H' : List Bk} {l l' : List D} (h : SnDs H H' l l') : SnD H H' (.agg l) (.agg l') := .agg h.get.1 h.get.2
theorem rep_rowC {H H' : List Bk} {ty m ver : Nat} {α : Type} {c : α → List D} {a : α} {k : Nat} {l : List α} {n : IE} {e : List D} (hl : l = List.replicate k a) (hn : n.den = (k : Int)) (he : DsEq e (c a)) : BkEq H H' (.row ty m ver (.rep n e)) (.row ty m ver (.map c l)) := by
  subst hl
  have h1 : (RE.rep n e).den = List.replicate k e := by simp only [RE.den, hn, Int.toNat_natCast]
  have h2 : (RE.map c (List.replicate k a)).den = List.replicate k (c a) := List.map_replicate
  refine .rowe (by rw [h1, h2, List.length_replicate, List.length_replicate]) fun i e1 e2 h3 h4 => ?_
  rw [h1, List.getElem?_replicate] at h3
  rw [h2, List.getElem?_replicate] at h4
  split at h3
  · next q =>
    rw [if_pos q] at h4
    simp only [Option.some.injEq] at h3 h4
    subst h3
    subst h4
    exact he.get
  · cases h3
structure RowI where
  l : List Int
abbrev RowI.c (x : RowI) : List D := [.slm 1 none intC x.l]
def schema0 : SchemaD := ⟨⟨#[]⟩, ⟨#[]⟩, 0, 0, true, [], true, []⟩
def from0 (z : Int) : FromD := ⟨⟨#[]⟩, ⟨#[]⟩, z, ⟨⟨#[]⟩, ⟨#[]⟩, 0, 0, 0⟩⟩
def rule0 (x : List Int) : RuleD := ⟨⟨#[]⟩, x.headD 0, x.tail.isEmpty, x.tail.map from0, true, [], true, []⟩
def srcOf (n : Nat) (L : List RowI) : SourceD := ⟨true, [], true, [], false, List.replicate n schema0, L.isEmpty, L.map fun x => rule0 x.l, true, [], true, []⟩
set_option maxHeartbeats 8000000 in
set_option maxRecDepth 100000 in
set_option maxHeartbeats 4000000 in
theorem source_pure (n : Nat) (L : List RowI) (hn : n ≤ 1000) (hL : L.length ≤ 1000) (hx : ∀ x, x ∈ L → x.l ≠ [] ∧ x.l.length ≤ 1000) : Pure Try.prog 22 [.int .i64 (.nat n), .slm 1 none RowI.c L] (.agg (srcOf n L).c) := by
  obtain ⟨RF, hRF⟩ : ∃ R : Nat → List RuleD, R = fun k => (L.take k).map fun x => rule0 x.l := ⟨_, rfl⟩
  have hRF0 : RF 0 = [] := by rw [hRF]; rfl
  have hRFs : ∀ k x, L[k]? = some x → RF (k + 1) = RF k ++ [rule0 x.l] := fun k x h => by rw [hRF]; simp [List.take_add_one, h]
  have hRFl : ∀ k, k ≤ L.length → (RF k).length = k := fun k h => by rw [hRF]; simp [h]
  have hRFe : RF L.length = L.map fun x => rule0 x.l := by rw [hRF]; simp
  clear hRF
  unfold srcOf
  rw [← hRFe]
  obtain ⟨SL, hSL⟩ : ∃ s, s = List.replicate n schema0 := ⟨_, rfl⟩
  obtain ⟨le, hle⟩ : ∃ b, b = L.isEmpty := ⟨_, rfl⟩
  rw [← hSL, ← hle]
  clear hRFe
  refine Pure.introC (want := [.agg (SourceD.c ⟨true, [], true, [], false, SL, le, RF L.length, true, [], true, []⟩)]) T_ok Try.func22 rfl (by kernel_rfl) (rs := [.cell 4 29]) rfl (by kernel_rfl) ?_
  generalize hP : Try.prog = P at *
  have hT : T.ok P := hP ▸ T_ok
  have hm : P.follows .mixedOrders = true := hP ▸ follows
  unfold Try.f22
  dsimp only
  refine CodeP.seq (vc_sound hT hm _ ?_)
  cbv
  refine CodeP.seq (vc_sound hT hm _ ?_)
  cbv
  refine ReqP.mk ⟨by show (0 : Int) ≤ (n : Int); omega, Int.le_refl _, by show (n : Int) ≤ _; omega, by show (96 : Int) * (n : Int) ≤ _; omega⟩ (fun _ => ?_)
  refine CodeP.keep [0, 1, 4, 5] ?_
  refine CodeP.seq (vc_sound hT hm _ ?_)
  cbv
  obtain ⟨Ll, hLl⟩ : ∃ m : Nat, m = L.length := ⟨_, rfl⟩
  refine CodeP.virtc 2 3 50 5 _ rfl rfl ?_
  refine CodeP.loopP (X := Nat) (fun k => [(4, .ptr 0 1 0), (5, .ptr 2 1 0), (14, .slm 1 none RowI.c L), (15, .int .i64 (.len L)), (16, .int .i64 (.nat k))])
    (fun k => [.cells [.nils, .nils, .nils, .nils, .nils, .nils], .row 77 6 1 (.map SchemaD.c SL), .cells [.nils, .nils, .osl 6 1 1 (.lit false) (.lit 0) (.nat n), .osl 5 3 (k + 1) (.cmp .eql (.nat k) (.lit 0)) (.lit 0) (.nat k), .nils, .nils], .row 50 5 (k + 1) (.map RuleD.c (RF k))])
    (fun k => k ≤ L.length) (fun k => Ll - k) 0 (Nat.zero_le _) (fun _ => by simp) ⟨?_, ⟨?_, ?_, ?_, ?_, trivial⟩, rfl⟩ ?_
  · (cbv; (repeat' (first | exact SnD.refl _ | exact trivial | exact SnD.nat0 | refine And.intro ?_ ?_)))
  · exact .refl _
  · exact rep_rowC hSL rfl (.cons (.refl _) (.cons (.refl _) (.cons (.int rfl) (.cons (.int rfl) (.cons (.nilv rfl rfl) (.cons (.nilv rfl rfl) .nil))))))
  · exact .cells (.cons (.refl _) (.cons (.refl _) (.cons (.refl _) (.cons osl_start (.cons (.refl _) (.cons (.refl _) .nil))))))
  · rw [hRF0]
    exact .row rfl
  intro k hk
  have hRFk := hRFl k hk
  refine vc_sound hT hm _ ?_
  cbv
  refine SplitP.mk (fun hs => ?_) (fun hs => ?_)
  · have hkn : k < L.length := by
      have h5 := of_decide_eq_true (show decide ((k : Int) < (L.length : Int)) = true from hs)
      omega
    refine ElemP.mk (by show (0 : Int) ≤ (k : Int) ∧ (k : Int) < (L.length : Int); omega) (fun x hxk => ?_)
    replace hxk : L[k]? = some x := hxk
    obtain ⟨hne, hxl⟩ := hx x (List.mem_of_getElem? hxk)
    have hRk := hRFs k x hxk
    obtain ⟨xs⟩ := x
    simp only at hne hxl hRk
    obtain ⟨y, ys, rfl⟩ : ∃ y ys, xs = y :: ys := by
      cases xs with
      | nil => exact absurd rfl hne
      | cons y ys => exact ⟨y, ys, rfl⟩
    cbv
    refine ElemP.mk (by show (0 : Int) ≤ 0 ∧ (0 : Int) < (((y :: ys).length : Nat) : Int); simp) (fun y' hy' => ?_)
    obtain rfl : y = y' := by
      have h5 : (y :: ys)[0]? = some y' := hy'
      exact Option.some.inj h5
    cbv
    refine ReqP.mk ⟨by show (0 : Int) ≤ 1; omega, by show (1 : Int) ≤ (((y :: ys).length : Nat) : Int); simp only [List.length_cons]; omega, Int.le_refl _, Int.le_refl _, fun h => by cases h⟩ (fun _ => ?_)
    refine LetP.mk fun l1 hl1 => ?_
    obtain rfl : ys = l1 := by
      have h5 : l1 = List.drop 1 (List.take (y :: ys).length (y :: ys)) := hl1
      rw [List.take_length] at h5
      exact h5.symm
    clear hl1 hy'
    obtain ⟨FF, hFF⟩ : ∃ R : Nat → List FromD, R = fun k => (ys.take k).map from0 := ⟨_, rfl⟩
    have hFF0 : FF 0 = [] := by rw [hFF]; rfl
    have hFFs : ∀ k x, ys[k]? = some x → FF (k + 1) = FF k ++ [from0 x] := fun k x h => by rw [hFF]; simp [List.take_add_one, h]
    have hFFl : ∀ k, k ≤ ys.length → (FF k).length = k := fun k h => by rw [hFF]; simp [h]
    have hFFe : FF ys.length = ys.map from0 := by rw [hFF]; simp
    clear hFF
    simp only [List.length_cons] at hxl
    cbv
    refine CodeP.virtc 4 2 73 8 _ rfl rfl ?_
    obtain ⟨yl, hyl⟩ : ∃ m : Nat, m = ys.length := ⟨_, rfl⟩
    refine CodeP.loopP (X := Nat) (fun j => [(4, .ptr 0 1 0), (5, .ptr 2 1 0), (8, .ptr 4 1 0), (14, .slm 1 none RowI.c L), (15, .int .i64 (.len L)), (16, .int .i64 (.nat k)), (25, .slm 1 none intC ys), (26, .int .i64 (.len ys)), (27, .int .i64 (.nat j))])
      (fun j => [.cells [.nils, .nils, .nils, .nils, .nils, .nils], .row 77 6 1 (.map SchemaD.c SL), .cells [.nils, .nils, .osl 6 1 1 (.lit false) (.lit 0) (.nat n), .osl 5 3 (k + 1) (.cmp .eql (.nat k) (.lit 0)) (.lit 0) (.nat k), .nils, .nils], .row 50 5 (k + 1) (.map RuleD.c (RF k)),
        .cells [.str ⟨#[]⟩, i64 y, .osl 8 5 (j + 1) (.cmp .eql (.nat j) (.lit 0)) (.lit 0) (.nat j), .nils, .nils], .row 73 8 (j + 1) (.map FromD.c (FF j))])
      (fun j => j ≤ ys.length) (fun j => yl - j) 0 (Nat.zero_le _) (fun _ => by simp) ⟨?_, ⟨.refl _, .refl _, .refl _, .refl _, ?_, ?_, trivial⟩, rfl⟩ ?_
    · (cbv; (repeat' (first | exact SnD.refl _ | exact trivial | exact SnD.nat0 | refine And.intro ?_ ?_)))
      all_goals exact .eq (.slm (.inl rfl) rfl)
    · exact .cells (.cons (.refl _) (.cons (.refl _) (.cons osl_start (.cons (.refl _) (.cons (.refl _) .nil)))))
    · rw [hFF0]
      exact .row rfl
    intro j hj
    have hFFj := hFFl j hj
    refine vc_sound hT hm _ ?_
    cbv
    refine SplitP.mk (fun hs => ?_) (fun hs => ?_)
    · have hjn : j < ys.length := by
        have h5 := of_decide_eq_true (show decide ((j : Int) < (ys.length : Int)) = true from hs)
        omega
      refine ElemP.mk (by show (0 : Int) ≤ (j : Int) ∧ (j : Int) < (ys.length : Int); omega) (fun u hu => ?_)
      replace hu : ys[j]? = some u := hu
      have hFj := hFFs j u hu
      cbv
      refine ReqP.mk (app_ok hFFj (by omega) (fun _ => rfl) rfl (by decide)) (fun _ => ?_)
      refine BackP.intro (j + 1) (by show j + 1 ≤ ys.length; omega) (by show yl - (j + 1) < yl - j; omega) ⟨?_, ⟨.refl _, .refl _, .refl _, .refl _, ?_, ?_, trivial⟩, rfl⟩
      · (cbv; (repeat' (first | exact SnD.refl _ | exact trivial | exact SnD.nat0 | refine And.intro ?_ ?_)))
        exact .inc (by omega)
      · exact .cells (.cons (.refl _) (.cons (.refl _) (.cons (osl_step j) (.cons (.refl _) (.cons (.refl _) .nil)))))
      · exact row_app (from0 u) hFj (.cons (.refl _) (.cons (.refl _) (.cons (.refl _) (.cons (.refl _) (.cons (.refl _) (.cons (.int rfl) (.cons (.int rfl) (.cons (.int rfl) .nil))))))))
    · have hjn : j = ys.length := by
        have h5 := of_decide_eq_false (show decide ((j : Int) < (ys.length : Int)) = false from hs)
        omega
      subst hjn
      refine OpsP.pre hT [(4, .ptr 0 1 0), (5, .ptr 2 1 0), (14, .slm 1 none RowI.c L), (15, .int .i64 (.len L)), (16, .int .i64 (.nat k)), (40, .osl 5 3 (k + 1) (.cmp .eql (.nat k) (.lit 0)) (.lit 0) (.nat k)), (41, .agg (RuleD.c (rule0 (y :: ys))))]
        [.cells [.nils, .nils, .nils, .nils, .nils, .nils], .row 77 6 1 (.map SchemaD.c SL), .cells [.nils, .nils, .osl 6 1 1 (.lit false) (.lit 0) (.nat n), .osl 5 3 (k + 1) (.cmp .eql (.nat k) (.lit 0)) (.lit 0) (.nat k), .nils, .nils], .row 50 5 (k + 1) (.map RuleD.c (RF k)), .dead, .dead]
        ⟨⟨.refl _, .refl _, .refl _, .refl _, .refl _, .refl _, ?_, trivial⟩, ⟨.refl _, .refl _, .refl _, .refl _, .dead _, .dead _, trivial⟩, rfl⟩ (Nat.zero_le _) ?_
      · have X : SnDs [.cells [.nils, .nils, .nils, .nils, .nils, .nils], .row 77 6 1 (.map SchemaD.c SL), .cells [.nils, .nils, .osl 6 1 1 (.lit false) (.lit 0) (.nat n), .osl 5 3 (k + 1) (.cmp .eql (.nat k) (.lit 0)) (.lit 0) (.nat k), .nils, .nils], .row 50 5 (k + 1) (.map RuleD.c (RF k)),
          .cells [.str ⟨#[]⟩, i64 y, .osl 8 5 (ys.length + 1) (.cmp .eql (.nat ys.length) (.lit 0)) (.lit 0) (.nat ys.length), .nils, .nils], .row 73 8 (ys.length + 1) (.map FromD.c (FF ys.length))]
          [.cells [.nils, .nils, .nils, .nils, .nils, .nils], .row 77 6 1 (.map SchemaD.c SL), .cells [.nils, .nils, .osl 6 1 1 (.lit false) (.lit 0) (.nat n), .osl 5 3 (k + 1) (.cmp .eql (.nat k) (.lit 0)) (.lit 0) (.nat k), .nils, .nils], .row 50 5 (k + 1) (.map RuleD.c (RF k)), .dead, .dead]
          [.str ⟨#[]⟩, i64 y, .osl 8 5 (ys.length + 1) (.cmp .eql (.nat ys.length) (.lit 0)) (.lit 0) (.nat ys.length), .nils, .nils] (RuleD.c (rule0 (y :: ys))) := by
          refine .cons (.refl _) (.cons (.eq (.int rfl)) (.cons (.slm rfl (.inl ⟨_, _, rfl, ?_⟩) rfl ?_ (fun e he => ?_)) (.cons (.eq (.nilv rfl rfl)) (.cons (.eq (.nilv rfl rfl)) .nil))))
          · show (FF ys.length).map FromD.c = (ys.map from0).map FromD.c
            rw [hFFe]
          · show (ys.length : Int) = ((ys.map from0).length : Int)
            rw [List.length_map]
          · cases he
            show ys.isEmpty = ((ys.length : Int) == 0)
            cases ys with
            | nil => rfl
            | cons a b => exact (beq_eq_false_iff_ne.2 (by simp only [List.length_cons]; omega)).symm
        exact .agg X.get.1 X.get.2
      cbv
      refine ReqP.mk (app_ok hRFk (by omega) (fun _ => rfl) rfl (by decide)) (fun _ => ?_)
      refine BackP.intro (k + 1) (by show k + 1 ≤ L.length; omega) (by show Ll - (k + 1) < Ll - k; omega) ⟨?_, ⟨.refl _, .refl _, ?_, ?_, trivial⟩, rfl⟩
      · (cbv; (repeat' (first | exact SnD.refl _ | exact trivial | exact SnD.nat0 | refine And.intro ?_ ?_)))
        exact .inc (by omega)
      · exact .cells (.cons (.refl _) (.cons (.refl _) (.cons (.refl _) (.cons (osl_step k) (.cons (.refl _) (.cons (.refl _) .nil))))))
      · exact row_app (rule0 (y :: ys)) hRk (.cons (.refl _) (.cons (.refl _) (.cons (.slmb (by cases ys <;> rfl) (by cases ys <;> rfl)) (.cons (.refl _) (.cons (.refl _) .nil)))))
  · have hkn : k = L.length := by
      have h5 := of_decide_eq_false (show decide ((k : Int) < (L.length : Int)) = false from hs)
      omega
    refine CodeP.seq (vc_sound hT hm _ ?_)
    cbv
    refine vc_sound hT hm _ ?_
    cbv
    refine .mk (.cons (snd_agg (.cons (.eq (.nilv rfl rfl)) (.cons (.eq (.nilv rfl rfl)) (.cons (.slm rfl (.inl ⟨_, _, rfl, rfl⟩) rfl ?_ (fun e he => ?_)) (.cons (.slm rfl (.inl ⟨_, _, rfl, ?_⟩) rfl ?_ (fun e he => ?_)) (.cons (.eq (.nilv rfl rfl)) (.cons (.eq (.nilv rfl rfl)) .nil))))))) .nil) rfl
    · show (n : Int) = (SL.length : Int)
      rw [hSL, List.length_replicate]
    · cases he; rfl
    · show (RF k).map RuleD.c = (RF L.length).map RuleD.c
      rw [hkn]
    · show (k : Int) = ((RF L.length).length : Int)
      rw [← hkn, hRFk]
    · cases he
      show le = ((k : Int) == 0)
      rw [hle, hkn]
      cases L with
      | nil => rfl
      | cons a b => exact (beq_eq_false_iff_ne.2 (by simp only [List.length_cons]; omega)).symm
end Go.Proofs.Ytdhfakajlnidiaa
namespace Go.Proofs.Ytdhfakajlnidiaa
open Go.RowKit

/-! The check of the types, at the empty source. -/
set_option maxHeartbeats 8000000 in
set_option maxRecDepth 100000 in
set_option maxHeartbeats 4000000 in
theorem check0_pure : Pure Try.prog 21 [.agg [.nils, .nils, .nils, .nils, .nils, .nils]] (.int .i64 (.lit 0)) := by
  refine Pure.intro (want := [.int .i64 (.lit 0)]) T_ok follows Try.func21 rfl (by kernel_rfl) (rs := [.tmp 2]) rfl (by kernel_rfl) ?_
  generalize hP : Try.prog = P
  have hT : T.ok P := hP ▸ T_ok
  have hm : P.follows .mixedOrders = true := hP ▸ follows
  unfold Try.f21
  dsimp only
  cbv
  refine (CallP.inl hT hm (hP ▸ Try.func35) rfl (by kernel_rfl) (rs := [.tmp 2]) rfl (by kernel_rfl) ?_)
  unfold Try.f35
  dsimp only
  cbv
  refine (CallP.inl hT hm (hP ▸ Try.func54) rfl (by kernel_rfl) (rs := [.tmp 4]) rfl (by kernel_rfl) ?_)
  unfold Try.f54
  dsimp only
  cbv
  refine (CallP.inl hT hm (hP ▸ Try.func73) rfl (by kernel_rfl) (rs := [.tmp 4]) rfl (by kernel_rfl) ?_)
  unfold Try.f73
  dsimp only
  cbv
  refine CodeP.rounds hT hm 1 ?_
  cbv
  refine (CallP.inl hT hm (hP ▸ Try.func38) rfl (by kernel_rfl) (rs := [.tmp 4]) rfl (by kernel_rfl) ?_)
  unfold Try.f38
  dsimp only
  cbv
  refine (CallP.inl hT hm (hP ▸ Try.func61) rfl (by kernel_rfl) (rs := [.tmp 4]) rfl (by kernel_rfl) ?_)
  unfold Try.f61
  dsimp only
  cbv
  refine (CallP.inl hT hm (hP ▸ Try.func78) rfl (by kernel_rfl) (rs := [.tmp 4]) rfl (by kernel_rfl) ?_)
  unfold Try.f78
  dsimp only
  cbv
  refine CodeP.rounds hT hm 1 ?_
  cbv
  refine (CallP.inl hT hm (hP ▸ Try.func40) rfl (by kernel_rfl) (rs := [.tmp 4]) rfl (by kernel_rfl) ?_)
  unfold Try.f40
  dsimp only
  cbv
  refine (CallP.inl hT hm (hP ▸ Try.func63) rfl (by kernel_rfl) (rs := [.tmp 4]) rfl (by kernel_rfl) ?_)
  unfold Try.f63
  dsimp only
  cbv
  refine (CallP.inl hT hm (hP ▸ Try.func79) rfl (by kernel_rfl) (rs := [.tmp 4]) rfl (by kernel_rfl) ?_)
  unfold Try.f79
  dsimp only
  cbv
  refine CodeP.rounds hT hm 1 ?_
  cbv
  refine (CallP.inl hT hm (hP ▸ Try.func42) rfl (by kernel_rfl) (rs := [.tmp 4]) rfl (by kernel_rfl) ?_)
  unfold Try.f42
  dsimp only
  cbv
  refine (CallP.inl hT hm (hP ▸ Try.func66) rfl (by kernel_rfl) (rs := [.tmp 4]) rfl (by kernel_rfl) ?_)
  unfold Try.f66
  dsimp only
  cbv
  refine (CallP.inl hT hm (hP ▸ Try.func81) rfl (by kernel_rfl) (rs := [.tmp 4]) rfl (by kernel_rfl) ?_)
  unfold Try.f81
  dsimp only
  cbv
  refine CodeP.rounds hT hm 1 ?_
  cbv
  refine (CallP.inl hT hm (hP ▸ Try.func43) rfl (by kernel_rfl) (rs := [.tmp 4]) rfl (by kernel_rfl) ?_)
  unfold Try.f43
  dsimp only
  cbv
  refine (CallP.inl hT hm (hP ▸ Try.func54) rfl (by kernel_rfl) (rs := [.tmp 4]) rfl (by kernel_rfl) ?_)
  unfold Try.f54
  dsimp only
  cbv
  refine (CallP.inl hT hm (hP ▸ Try.func73) rfl (by kernel_rfl) (rs := [.tmp 4]) rfl (by kernel_rfl) ?_)
  unfold Try.f73
  dsimp only
  cbv
  refine CodeP.rounds hT hm 1 ?_
  cbv
  exact .mk (.cons (.refl _) .nil) rfl
end Go.Proofs.Ytdhfakajlnidiaa
