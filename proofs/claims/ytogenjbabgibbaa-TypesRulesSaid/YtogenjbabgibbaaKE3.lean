import Derived.Test.YtogenjbabgibbaaKE2
import Derived.Test.YtogenjbabgibbaaKZ4
namespace Go.Proofs.Ytogenjbabgibbaa
open Go.RowKit
def ref4 (s f : Int) : RefD := { name := ⟨#[]⟩, path := ⟨#[]⟩, schema := s, field := f }
def zs : SchemaD := { name := ⟨#[]⟩, by_ := ⟨#[]⟩, issuer := 0, version := 0, fields := [], depends := 0 }
def zsD (n : Nat) : SourceD := { issuers := [], units := [], schemas := List.replicate n zs, rules := [], converts := 0, purposes := [] }
theorem f_c0 : checkB (zsD 0) = 0 := by decide +kernel
theorem f_c1 : checkB (exD 20) = 0 := by decide +kernel
theorem f_c2 : checkB (exD 9) = 120 := by decide +kernel
theorem f_c3 : checkB (zsD 1) = 120 := by decide +kernel
theorem f_c4 : checkB (zsD 17) = 2 := by decide +kernel
theorem f_b0 : baseV (exD 20) (ref4 0 1) 3 = (300, 0) := by decide +kernel
theorem f_b1 : baseV (exD 20) (ref4 0 0) 3 = (3, 0) := by decide +kernel
theorem f_b2 : baseV (exD 20) (ref4 2 0) 1 = (0, 120) := by decide +kernel
theorem f_a0 : alikeB (exD 20) (ref4 0 1) (ref4 1 1) = true := by decide +kernel
theorem f_a1 : alikeB (exD 20) (ref4 0 1) (ref4 0 0) = false := by decide +kernel
theorem f_a2 : alikeB (exD 20) (ref4 0 1) (ref4 2 0) = false := by decide +kernel
theorem f_v0 : valueB (exD 20) 0 1 10 = true := by decide +kernel
theorem f_v1 : valueB (exD 20) 0 1 11 = false := by decide +kernel
theorem f_v2 : valueB (exD 20) 0 2 0 = false := by decide +kernel
theorem f_k0 : compareB 2 1 2 = true := by decide +kernel
theorem f_k1 : compareB 0 1 1 = false := by decide +kernel
theorem f_k2 : compareB 4 1 2 = true := by decide +kernel
theorem f_k3 : compareB 3 2 1 = false := by decide +kernel
theorem few_ex (hi : Int) : Few (exD hi) := few_of (by rfl)
theorem few_z0 : Few (zsD 0) := few_of (by decide +kernel)
theorem few_z1 : Few (zsD 1) := few_of (by decide +kernel)
theorem few_z17 : Few (zsD 17) := few_of (by decide +kernel)
/-- the source of the example, as a value -/
abbrev exC (g0 gu gs gr : Nat) : Array Value := #[.slice (some ⟨g0, 0, none⟩) 1 1, .slice (some ⟨gu, 0, none⟩) 2 2, .slice (some ⟨gs, 0, none⟩) 2 2, .slice (some ⟨gr, 0, none⟩) 1 1, .slice none 0 0, .slice none 0 0]
abbrev refC (s f : Int) : Value := .agg #[.string ⟨#[]⟩, .string ⟨#[]⟩, .int .i64 s, .int .i64 f]
theorem check_ex {w : World} {g0 gu gs gr : Nat} {hi : Int} (hs : Src w (exD hi) (exAt g0 gu gs gr)) {r : Int} (hr : checkB (exD hi) = r) :
    Calls Try.prog 11 #[.agg (exC g0 gu gs gr)] w fun e w' => e = .returned (.int .i64 r) ∧ Below w.heap.size w w' := by
  subst hr
  exact check_any (exD hi) (exAt g0 gu gs gr) w hs (few_ex hi)
theorem src_z {w : World} {a : Option Addr} {n k : Nat} (h : Sl 6 RSchemaD w a (List.replicate n zs)) : Src w (zsD n) ⟨none, 0, none, 0, a, k, none, 0, none, 0, none, 0⟩ := ⟨Sl.nil, Sl.nil, h, Sl.nil, Sl.nil⟩
theorem check_z {w : World} {a : Option Addr} {n m k : Nat} (hm : n = m) (h : Sl 6 RSchemaD w a (List.replicate n zs)) (hf : Few (zsD n)) {r : Int} (hr : checkB (zsD n) = r) :
    Calls Try.prog 11 #[.agg #[.slice none 0 0, .slice none 0 0, .slice a m k, .slice none 0 0, .slice none 0 0, .slice none 0 0]] w fun e w' => e = .returned (.int .i64 r) ∧ Below w.heap.size w w' := by
  subst hr
  have h1 := check_any (zsD n) ⟨none, 0, none, 0, a, k, none, 0, none, 0, none, 0⟩ w (src_z h) hf
  simpa [SourceD.val, zsD, hm] using h1
theorem base_ex {w : World} {g0 gu gs gr : Nat} {hi : Int} (hs : Src w (exD hi) (exAt g0 gu gs gr)) (s f v : Int) {n e : Int} (hr : baseV (exD hi) (ref4 s f) v = (n, e)) :
    Calls Try.prog 13 #[.agg (exC g0 gu gs gr), refC s f, .int .i64 v] w fun e' w' => e' = .returned (.tuple #[.int .i64 n, .int .i64 e]) ∧ Below w.heap.size w w' := by
  have h := base_any (exD hi) (exAt g0 gu gs gr) (ref4 s f) v w hs (few_ex hi).short
  rw [hr] at h
  exact h
theorem alike_ex {w : World} {g0 gu gs gr : Nat} {hi : Int} (hs : Src w (exD hi) (exAt g0 gu gs gr)) (s f s' f' : Int) {r : Bool} (hr : alikeB (exD hi) (ref4 s f) (ref4 s' f') = r) :
    Calls Try.prog 17 #[.agg (exC g0 gu gs gr), refC s f, refC s' f'] w fun e w' => e = .returned (.bool r) ∧ Below w.heap.size w w' := by
  subst hr
  exact alike_any (exD hi) (exAt g0 gu gs gr) (ref4 s f) (ref4 s' f') w hs (few_ex hi).short
theorem value_ex {w : World} {g0 gu gs gr : Nat} {hi : Int} (hs : Src w (exD hi) (exAt g0 gu gs gr)) (i j v : Int) {r : Bool} (hr : valueB (exD hi) i j v = r) :
    Calls Try.prog 15 #[.agg (exC g0 gu gs gr), .int .i64 i, .int .i64 j, .int .i64 v] w fun e w' => e = .returned (.bool r) ∧ Below w.heap.size w w' := by
  subst hr
  exact value_any (exD hi) (exAt g0 gu gs gr) i j v w hs (few_ex hi).short
theorem compare_ex (w : World) (op a b : Int) {r : Bool} (hr : compareB op a b = r) :
    Calls Try.prog 19 #[.int .i64 op, .int .i64 a, .int .i64 b] w fun e w' => e = .returned (.bool r) ∧ Below w.heap.size w w' := by
  subst hr
  exact compare_any op a b w
end Go.Proofs.Ytogenjbabgibbaa
