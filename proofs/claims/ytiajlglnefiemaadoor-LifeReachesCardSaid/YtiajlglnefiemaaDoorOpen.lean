/- Slices that came in, as what they read: integers, bytes, strings, digests. Condition: the value is read as the form reads it. -/
import Derived.Test.YtiajlglnefiemaaDoorWc
import Derived.OpenShut
import Derived.ProofKit
import Derived.SizedLaws
import Derived.Deep.Slices
import Derived.SliceStrings
import Derived.Test.YtiajlglnefiemaaDoorRows
namespace Go.Proofs.YtiajlglnefiemaaDoor
open Go.ChangeShapes Go.WideShapes Go.ChangeAt Go.RowKit
set_option maxRecDepth 100000

section
variable {H : Type} {enc : TypeId × Value → H} {W : World} {base : Nat} {v : Value} {d : DataW H} {p : List MemPlace}
/-- the datum of a slice of that length and capacity -/
def Shape (d : DataW H) (n c : Nat) : Prop := (d = .nil ∧ n = 0 ∧ c = 0) ∨ ∃ el sp : List (DataW H), d = .slice el sp ∧ el.length = n ∧ el.length + sp.length = c
theorem bulk_one (d : DataW H) : 1 ≤ Rows.uptoBulk d := by
  cases d with
  | lit l => cases l <;> simp [Rows.uptoBulk]
  | nil => simp [Rows.uptoBulk]
  | ptr d => simp [Rows.uptoBulk]
  | slice elems spare => simp [Rows.uptoBulk]
  | agg parts => simp [Rows.uptoBulk]
  | iface t d => simp [Rows.uptoBulk]
  | map entries => simp [Rows.uptoBulk]
  | held h => simp [Rows.uptoBulk]
theorem bulk_len (l : List (DataW H)) : l.length ≤ Rows.uptoBulkAll l := by
  induction l with
  | nil => simp [Rows.uptoBulkAll]
  | cons x r ih => have := bulk_one x; simp only [Rows.uptoBulkAll, List.length_cons]; omega
theorem Shape.bulk {n c : Nat} (h : Shape d n c) : n ≤ Rows.uptoBulk d := by
  rcases h with ⟨rfl, rfl, -⟩ | ⟨el, sp, rfl, h, -⟩
  · exact Nat.zero_le _
  · have := bulk_len el; simp only [Rows.uptoBulk]; omega
theorem Shape.reach {n c b : Nat} {ts : List TypeId} {ds : List (DataW H)} {j : Nat} {t e : TypeId} (h : Shape d n c) (hw : (DataW.weightsEach Tryd.prog ts ds).all (· ≤ reachBytes) = true) (ht : ts[j]? = some t) (hd : ds[j]? = some d)
    (hu : Tryd.prog.underlying t = some (.slice e)) (hb : Tryd.prog.bytesOf e = b) : c * b ≤ 140737488351232 := by
  rcases h with ⟨rfl, rfl, rfl⟩ | ⟨el, sp, rfl, -, h⟩
  · omega
  · have := sized_slice hw ht hd hu
    rw [h, hb] at this
    exact this
theorem reads_of_kind {t e : TypeId} {k : IntKind} (ht : Tryd.prog.underlying t = some (.slice e)) (he : Tryd.prog.underlying e = some (.int k)) (hc : Tryd.prog.cellsOf e = 1)
    (hval : Value.okWide Tryd.prog W .any base t v) (h : DataW.Trod enc Tryd.prog W 0 (fun _ => true) true t v d p) :
    ∃ (A : Option Addr) (n c : Nat) (zs : List Int), v = .slice A n c ∧ n ≤ c ∧ n ≤ maxLen ∧ zs.length = n ∧ Reads W W.heap.size 1 A n (zs.map (Value.int k)) ∧ (∀ x ∈ zs, (Lit.int k x).wf = true) ∧ Shape d n c := by
  obtain ⟨a1, len, cap, rfl⟩ := okWide_slice ht hval
  obtain ⟨fuel, hf⟩ := h
  rcases open_ints ht he hc hf with ⟨hcs, hx⟩ | ⟨a, len', cap', zs, hcs, -, hl, hm, hz, hx, hcell, hwz⟩
  · simp [Value.cells] at hcs
    obtain ⟨rfl, rfl, rfl⟩ := hcs
    exact ⟨none, 0, 0, [], rfl, Nat.le_refl _, Nat.zero_le _, rfl, Reads.nil_ _ _ _ _, by simp, .inl ⟨congrArg Prod.fst hx, rfl, rfl⟩⟩
  · simp [Value.cells] at hcs
    obtain ⟨rfl, rfl, rfl⟩ := hcs
    simp only [if_true] at hz
    refine ⟨some a, len, cap, zs.take len, rfl, hl, by omega, by simp; omega, ⟨by simp; omega, fun h0 => ⟨a, rfl, ?_, fun j u hu => ?_⟩⟩, fun x hx => hwz x (List.mem_of_mem_take hx), .inr ⟨_, _, congrArg Prod.fst hx, by simp [lits]; omega, by simp [lits]; omega⟩⟩
    · have := World.block_lt_of_cell? W _ (hcell 0 (by omega))
      simpa [Addr.add] using this
    · rw [List.getElem?_map, List.getElem?_take] at hu
      split at hu
      · have := hcell j (by omega)
        rw [List.getElem?_eq_getElem (by omega)] at hu
        rw [this]
        simp only [Option.map_some, Option.some.injEq] at hu
        rw [← hu, List.getD_eq_getElem?_getD, List.getElem?_eq_getElem (by omega)]; rfl
      · cases hu
theorem reads_of_ints (hval : Value.okWide Tryd.prog W .any base 22 v) (h : DataW.Trod enc Tryd.prog W 0 (fun _ => true) true 22 v d p) :
    ∃ (A : Option Addr) (n c : Nat) (l : List Int), v = .slice A n c ∧ n ≤ c ∧ n ≤ maxLen ∧ Reads W W.heap.size 1 A n (ints l) ∧ (∀ x ∈ l, I64 x) ∧ Shape d n c := by
  obtain ⟨A, n, c, zs, rfl, h1, h2, -, h3, h4, h5⟩ := reads_of_kind Tryd.underlying22 Tryd.underlying3 (by kernel_rfl) hval h
  refine ⟨A, n, c, zs, rfl, h1, h2, h3, fun x hx => ?_, h5⟩
  have := h4 x hx
  simp [Lit.wf, IntKind.min, IntKind.max, IntKind.signed, IntKind.bits] at this
  unfold I64; omega
theorem reads_of_bytes (hval : Value.okWide Tryd.prog W .any base 45 v) (h : DataW.Trod enc Tryd.prog W 0 (fun _ => true) true 45 v d p) :
    ∃ (A : Option Addr) (n c : Nat) (l : List UInt8), v = .slice A n c ∧ n ≤ c ∧ n ≤ maxLen ∧ Reads W W.heap.size 1 A n (bytesV l) ∧ Shape d n c := by
  obtain ⟨A, n, c, zs, rfl, h1, h2, -, h3, h4, h5⟩ := reads_of_kind Tryd.underlying45 Tryd.underlying5 (by kernel_rfl) hval h
  have e : zs.map (Value.int .u8) = bytesV (zs.map fun n => UInt8.ofNat n.toNat) := by
    unfold bytesV
    rw [List.map_map]
    refine List.map_congr_left fun x hx => ?_
    have hb := h4 x hx
    simp [Lit.wf, IntKind.min, IntKind.max, IntKind.signed, IntKind.bits] at hb
    show Value.int .u8 x = Value.int .u8 _
    rw [UInt8.toNat_ofNat', Nat.mod_eq_of_lt (by omega)]
    congr 1; omega
  rw [e] at h3
  exact ⟨A, n, c, _, rfl, h1, h2, h3, h5⟩
theorem reads_of_strs (hval : Value.okWide Tryd.prog W .any base 47 v) (h : DataW.Trod enc Tryd.prog W 0 (fun _ => true) true 47 v d p) :
    ∃ (A : Option Addr) (n c : Nat) (l : List ByteArray), v = .slice A n c ∧ n ≤ c ∧ n ≤ maxLen ∧ Reads W W.heap.size 1 A n (strs l) ∧ sizes l ≤ Rows.uptoBulk d ∧ Shape d n c ∧ ∀ s ∈ l, s.size ∈ d.weights Tryd.prog 47 := by
  obtain ⟨a1, len, cap, rfl⟩ := okWide_slice Tryd.underlying47 hval
  obtain ⟨fuel, hf⟩ := h
  rcases open_strings Tryd.underlying47 Tryd.underlying9 (by kernel_rfl) hf with ⟨hcs, hx⟩ | ⟨a, len', cap', zs, hcs, -, hl, hm, hz, hx, hcell, hwz⟩
  · simp [Value.cells] at hcs
    obtain ⟨rfl, rfl, rfl⟩ := hcs
    exact ⟨none, 0, 0, [], rfl, Nat.le_refl _, Nat.zero_le _, Reads.nil_ _ _ _ _, by simp [sizes], .inl ⟨congrArg Prod.fst hx, rfl, rfl⟩, by simp⟩
  · simp [Value.cells] at hcs
    obtain ⟨rfl, rfl, rfl⟩ := hcs
    simp only [if_true] at hz
    simp only [Prod.mk.injEq] at hx
    obtain ⟨rfl, -⟩ := hx
    refine ⟨some a, len, cap, zs.take len, rfl, hl, by omega, ⟨by simp [strs]; omega, fun h0 => ⟨a, rfl, ?_, fun j u hu => ?_⟩⟩, ?_, .inr ⟨_, _, rfl, by simp [Go.ChangeShapes.strs]; omega, by simp [Go.ChangeShapes.strs]; omega⟩, fun s hs => ?_⟩
    · have := World.block_lt_of_cell? W _ (hcell 0 (by omega))
      simpa [Addr.add] using this
    · unfold strs at hu
      rw [List.getElem?_map, List.getElem?_take] at hu
      split at hu
      · have := hcell j (by omega)
        rw [List.getElem?_eq_getElem (by omega)] at hu
        rw [this]
        simp only [Option.map_some, Option.some.injEq] at hu
        rw [← hu, List.getD_eq_getElem?_getD, List.getElem?_eq_getElem (by omega)]; rfl
      · cases hu
    · have key : ∀ l : List ByteArray, sizes l ≤ Rows.uptoBulkAll (H := H) (Go.ChangeShapes.strs l) := by
        intro l
        induction l with
        | nil => simp [sizes]
        | cons s l ih =>
          have e : Go.ChangeShapes.strs (H := H) (s :: l) = .lit (.string s.data.toList) :: Go.ChangeShapes.strs l := rfl
          rw [e]
          simp only [sizes, Rows.uptoBulkAll, Rows.uptoBulk]
          rw [size_list]; omega
      have := key (zs.take len)
      simp only [Rows.uptoBulk]; omega
    · have key : ∀ l : List ByteArray, s ∈ l → s.size ∈ DataW.weightsAll (H := H) Tryd.prog 9 (Go.ChangeShapes.strs l) := by
        intro l
        induction l with
        | nil => simp
        | cons x l ih =>
          intro h
          have e : Go.ChangeShapes.strs (H := H) (x :: l) = .lit (.string x.data.toList) :: Go.ChangeShapes.strs l := rfl
          rw [e]
          simp only [DataW.weightsAll, DataW.weights, List.mem_append, List.mem_singleton]
          rcases List.mem_cons.1 h with rfl | h
          · left; rw [size_list]
          · right; exact ih h
      simp only [DataW.weights, Tryd.underlying47]
      exact List.mem_cons_of_mem _ (List.mem_append_left _ (key _ hs))
end
end Go.Proofs.YtiajlglnefiemaaDoor
