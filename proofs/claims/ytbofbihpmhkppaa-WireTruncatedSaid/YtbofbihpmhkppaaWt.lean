/- The law's few says whether the strings of a list have at most 2000 bytes and elements together, and appending to a slice without room leaves both lists in a new block. Conditions: the sum of the sizes is within the bound that the lemma names. -/
import Derived.Test.YtbofbihpmhkppaaWs
import Derived.ArgAppend
namespace Go.Proofs.Ytbofbihpmhkppaa
open Go.RowKit

theorem sizes_snoc (l : List ByteArray) (x : ByteArray) : sizes (l ++ [x]) = sizes l + (x.size + 1) := by
  induction l with
  | nil => simp [sizes]
  | cons y l ih => simp only [List.cons_append, sizes, ih]; omega
theorem sizes_step (l : List ByteArray) (k : Nat) (h : k < l.length) : sizes (l.take (k + 1)) = sizes (l.take k) + ((l[k]?.getD ByteArray.empty).size + 1) := by
  rw [List.take_add_one, List.getElem?_eq_getElem h]
  exact sizes_snoc _ _

set_option maxHeartbeats 1000000 in
theorem few_any (A : Option Addr) (n c b : Nat) (l : List ByteArray) (w : World) (hl : Reads w b 1 A n (strs l)) (hI : sizes l ≤ 1000000000000000000) :
    Calls Try.prog 24 #[.slice A n c] w fun e W' => e = .returned (.bool (decide (sizes l ≤ 2000))) ∧ Drawn w W' := by
  have el := hl.str_len
  have hn := sizes_len l
  rw [el] at hn
  have HL := Lib.hid el
  clear el
  go_enter Try.func24, Try.ntmps24
  go_wp2
  go_loopw [3, 10] (fun v i wr => ∃ k : Nat, k ≤ n ∧ i = .int .i64 k ∧ v = .int .i64 ((n - k + sizes (l.take k) : Nat) : Int) ∧ Drawn w wr) (fun _ i _ => n - (intOf i).toNat)
  case atStart => exact ⟨0, by omega, rfl, by simp [sizes], 0, rfl⟩
  case round =>
    obtain ⟨k, hk, rfl, rfl, q, rfl⟩ := hrel
    have ht := sizes_take l k
    by_cases hlt : k < n
    · obtain ⟨a1, rfl, -, -, c1⟩ := hl.str_at hlt
      have hki : (k : Int) < (n : Int) := by omega
      have hs := sizes_step l k (by have := HL.out; omega)
      have ht2 := sizes_take l (k + 1)
      generalize l[k]?.getD ByteArray.empty = x at *
      have HS := Lib.hid hs
      have hb : ((n - k + sizes (l.take k) : Nat) : Int) + (x.size : Int) ≤ 3000000000000000000 := by omega
      clear hs
      go_wp2
      go_roundw
      case rel => exact ⟨k + 1, by omega, by go_num, by rw [HS.out]; go_num, _, rfl⟩
      case measure => simp [intOf]; omega
    · obtain rfl : k = n := by omega
      go_wp2
      go_ret
      exact ⟨ret_bool (by rw [List.take_of_length_le (by have := HL.out; omega)]; rw [decide_eq_decide]; omega), q, rfl⟩

section
variable {P : Program}
theorem reads_cells {w : World} {B size m : Nat} {ad : Addr} {news : List Value} (hr : Reads w B size (some ad) m news) : ∀ j u, news[j]? = some u → w.cell? (ad.add j) = some u := by
  intro j u hu
  rcases Nat.eq_zero_or_pos m with h0 | h0
  · subst h0
    have hn : news = [] := List.eq_nil_of_length_eq_zero (by simpa using hr.1)
    subst hn
    simp at hu
  · obtain ⟨ad', h, _, hc⟩ := hr.2 h0
    injection h with h
    subst h
    exact hc j u hu
/-- append to a slice that has no room: 'append(b[:len(b):len(b)], x...)' -/
theorem run_append_clip (w : World) (t ty e : TypeId) (i : TypeInfo) (z : Value) (size bytes : Nat) (ht : P.underlying t = some (.slice e)) (hi : P.info? e = some i) (hz : i.zero = some z)
    (hsize : i.size = size) (hby : i.bytes = bytes) (hzs : z.cells.size = size) (hsz : 0 < size)
    (b : Addr) (n : Nat) (olds : List Value) (ho : Reads w w.heap.size size (some b) n olds)
    (A : Option Addr) (m c : Nat) (news : List Value) (hr : Reads w w.heap.size size A m news)
    (h63 : n + m ≤ maxLen) (hbytes : (n + m) * bytes ≤ 140737488355328) :
    ∃ A' c' w', (Builtin.append_ #[t, t] ty #[.slice (some b) n n, .slice A m c]).run P w = .ok (.slice A' (n + m) c') w' ∧ n + m ≤ c' ∧ Reads w' w'.heap.size size A' (n + m) (olds ++ news) ∧ Below w.heap.size w w' := by
  rcases Nat.eq_zero_or_pos m with h0 | h0
  · subst h0
    have hn : news = [] := List.eq_nil_of_length_eq_zero (by simpa using hr.1)
    subst hn
    refine ⟨some b, n, w, ?_, by omega, by simpa using ho, Below.refl _ _⟩
    cases A with
    | none => simp [Builtin.append_, run_underlying ht, sizeOf, typeInfo, hi, Builtin.lenOf, Builtin.firstCells, storeCells]
    | some ad =>
      have hz0 := run_loadCells_list (P := P) w ad [] (by simp)
      rw [show ([] : List Value).length = 0 from rfl] at hz0
      simp [Builtin.append_, run_underlying ht, sizeOf, typeInfo, hi, Builtin.lenOf, Builtin.firstCells, storeCells, hz0]
  · obtain ⟨ad, rfl, -, hc⟩ := hr.2 h0
    obtain ⟨v', w', hrun, hown, hg⟩ := run_append_arg_grows (P := P) w t ty e i z size bytes ht hi hz hsize hby hzs hsz b n n olds ho.1 (reads_cells ho) ad m c news hr.1 hc (by omega) h63 hbytes
    obtain ⟨A', c', rfl, hnc, -, -⟩ := own_slice hown
    exact ⟨A', c', w', hrun, hnc, Reads.of_own hown, (Below.refl _ w).grown hg (Nat.le_refl _) (fun b e => by cases e)⟩
theorem wpList_append_clip {w : World} {ops : Array Oper} {rest : List Oper} {o : Oper} {a : Act} {Q : Exit → Act → World → Prop} (hgd : o.guard = none) (s x : Operand) (t : TypeId)
    (ho : o.op = .call { callee := .builtin .append, args := #[s, x], argTypes := #[t, t] })
    (e : TypeId) (i : TypeInfo) (z : Value) (size bytes : Nat) (ht : P.underlying t = some (.slice e)) (hi : P.info? e = some i) (hz : i.zero = some z)
    (hsize : i.size = size) (hby : i.bytes = bytes) (hzs : z.cells.size = size) (hsz : 0 < size)
    (b : Addr) (n : Nat) (olds : List Value) (hs : a.eval s = .slice (some b) n n) (hro : Reads w w.heap.size size (some b) n olds)
    (A : Option Addr) (m c : Nat) (news : List Value) (hx : a.eval x = .slice A m c) (hr : Reads w w.heap.size size A m news)
    (h63 : n + m ≤ maxLen) (hbytes : (n + m) * bytes ≤ 140737488355328)
    (h : ∀ A' c' w', n + m ≤ c' → Reads w' w'.heap.size size A' (n + m) (olds ++ news) → Below w.heap.size w w' → wpList P ops Q rest (a.put o.dst (.slice A' (n + m) c')) w') : wpList P ops Q (o :: rest) a w := by
  refine wpList_plain hgd fun K hK => ?_
  obtain ⟨A', c', w', hrun, h1, h2, h3⟩ := run_append_clip (P := P) w t o.type e i z size bytes ht hi hz hsize hby hzs hsz b n olds hro A m c news hr h63 hbytes
  unfold Oper.wp execOp
  simp only [ho, resolve, invoke, builtin, Sem.run_bind, Sem.run_pure, Result.andThen_ok, List.map_toArray, List.map_cons, List.map_nil, hs, hx, hrun]
  exact hK _ _ (h A' c' w' h1 h2 h3)
end
end Go.Proofs.Ytbofbihpmhkppaa
