/- Slices that came in, as what they read: integers, bytes, strings, digests. Condition: the value is read as the form reads it. -/
import Derived.Test.YtnionejefpnfoaaDoorWc
import Derived.OpenShut
import Derived.ProofKit
import Derived.SizedLaws
import Derived.Deep.Slices
import Derived.SliceStrings
import Derived.Test.YtnionejefpnfoaaDoorRows
namespace Go.Proofs.YtnionejefpnfoaaDoor
open Go.ChangeShapes Go.WideShapes Go.ChangeAt Go.RowKit

section
variable {H : Type} {enc : TypeId × Value → H} {W : World} {base : Nat} {v : Value} {d : DataW H} {p : List MemPlace}
/-- the datum of a slice of that length and capacity -/
def Shape (d : DataW H) (n c : Nat) : Prop := (d = .nil ∧ n = 0 ∧ c = 0) ∨ ∃ el sp : List (DataW H), d = .slice el sp ∧ el.length = n ∧ el.length + sp.length = c
theorem bulk_one (d : DataW H) : 1 ≤ Rows.uptoBulk d := by
  cases d with
  | lit l => cases l <;> simp [Rows.uptoBulk]
  | nil => simp [Rows.uptoBulk]
  | ptr d => simp [Rows.uptoBulk]
  | slice elems spare => simp [Rows.uptoBulk]
  | agg parts => simp [Rows.uptoBulk]
  | iface t d => simp [Rows.uptoBulk]
  | map entries => simp [Rows.uptoBulk]
  | held h => simp [Rows.uptoBulk]
theorem bulk_len (l : List (DataW H)) : l.length ≤ Rows.uptoBulkAll l := by
  induction l with
  | nil => simp [Rows.uptoBulkAll]
  | cons x r ih => have := bulk_one x; simp only [Rows.uptoBulkAll, List.length_cons]; omega
theorem Shape.bulk {n c : Nat} (h : Shape d n c) : n ≤ Rows.uptoBulk d := by
  rcases h with ⟨rfl, rfl, -⟩ | ⟨el, sp, rfl, h, -⟩
  · exact Nat.zero_le _
  · have := bulk_len el; simp only [Rows.uptoBulk]; omega
theorem Shape.reach {n c b : Nat} {ts : List TypeId} {ds : List (DataW H)} {j : Nat} {t e : TypeId} (h : Shape d n c) (hw : (DataW.weightsEach Tryd.prog ts ds).all (· ≤ reachBytes) = true) (ht : ts[j]? = some t) (hd : ds[j]? = some d)
    (hu : Tryd.prog.underlying t = some (.slice e)) (hb : Tryd.prog.bytesOf e = b) : c * b ≤ 140737488351232 := by
  rcases h with ⟨rfl, rfl, rfl⟩ | ⟨el, sp, rfl, -, h⟩
  · omega
  · have := sized_slice hw ht hd hu
    rw [h, hb] at this
    exact this
theorem reads_of_kind {t e : TypeId} {k : IntKind} (ht : Tryd.prog.underlying t = some (.slice e)) (he : Tryd.prog.underlying e = some (.int k)) (hc : Tryd.prog.cellsOf e = 1)
    (hval : Value.okWide Tryd.prog W .any base t v) (h : DataW.Trod enc Tryd.prog W 0 (fun _ => true) true t v d p) :
    ∃ (A : Option Addr) (n c : Nat) (zs : List Int), v = .slice A n c ∧ n ≤ c ∧ n ≤ maxLen ∧ zs.length = n ∧ Reads W W.heap.size 1 A n (zs.map (Value.int k)) ∧ (∀ x ∈ zs, (Lit.int k x).wf = true) ∧ Shape d n c := by
  obtain ⟨a1, len, cap, rfl⟩ := okWide_slice ht hval
  obtain ⟨fuel, hf⟩ := h
  rcases open_ints ht he hc hf with ⟨hcs, hx⟩ | ⟨a, len', cap', zs, hcs, -, hl, hm, hz, hx, hcell, hwz⟩
  · simp [Value.cells] at hcs
    obtain ⟨rfl, rfl, rfl⟩ := hcs
    exact ⟨none, 0, 0, [], rfl, Nat.le_refl _, Nat.zero_le _, rfl, Reads.nil_ _ _ _ _, by simp, .inl ⟨congrArg Prod.fst hx, rfl, rfl⟩⟩
  · simp [Value.cells] at hcs
    obtain ⟨rfl, rfl, rfl⟩ := hcs
    simp only [if_true] at hz
    refine ⟨some a, len, cap, zs.take len, rfl, hl, by omega, by simp; omega, ⟨by simp; omega, fun h0 => ⟨a, rfl, ?_, fun j u hu => ?_⟩⟩, fun x hx => hwz x (List.mem_of_mem_take hx), .inr ⟨_, _, congrArg Prod.fst hx, by simp [lits]; omega, by simp [lits]; omega⟩⟩
    · have := World.block_lt_of_cell? W _ (hcell 0 (by omega))
      simpa [Addr.add] using this
    · rw [List.getElem?_map, List.getElem?_take] at hu
      split at hu
      · have := hcell j (by omega)
        rw [List.getElem?_eq_getElem (by omega)] at hu
        rw [this]
        simp only [Option.map_some, Option.some.injEq] at hu
        rw [← hu, List.getD_eq_getElem?_getD, List.getElem?_eq_getElem (by omega)]; rfl
      · cases hu
theorem reads_of_ints (hval : Value.okWide Tryd.prog W .any base 22 v) (h : DataW.Trod enc Tryd.prog W 0 (fun _ => true) true 22 v d p) :
    ∃ (A : Option Addr) (n c : Nat) (l : List Int), v = .slice A n c ∧ n ≤ c ∧ n ≤ maxLen ∧ Reads W W.heap.size 1 A n (ints l) ∧ (∀ x ∈ l, I64 x) ∧ Shape d n c := by
  obtain ⟨A, n, c, zs, rfl, h1, h2, -, h3, h4, h5⟩ := reads_of_kind Tryd.underlying22 Tryd.underlying3 (by kernel_rfl) hval h
  refine ⟨A, n, c, zs, rfl, h1, h2, h3, fun x hx => ?_, h5⟩
  have := h4 x hx
  simp [Lit.wf, IntKind.min, IntKind.max, IntKind.signed, IntKind.bits] at this
  unfold I64; omega
end
end Go.Proofs.YtnionejefpnfoaaDoor
