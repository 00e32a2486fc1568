/- The encodings of lists of integers and of strings. Conditions: at most a million elements and bytes, integers of 64 bits. -/
import Derived.Test.YtnionejefpnfoaaDoorWb
namespace Go.Proofs.YtnionejefpnfoaaDoor
open Go.RowKit

theorem own_below {w w' : World} {base size n : Nat} {e : TypeId} {v : Value} {xs : List Value} (h : w.ownsRow base e size v n xs) (hb : Below w.heap.size w w') : w'.ownsRow base e size v n xs := by
  refine ⟨h.1, ?_⟩
  rcases h.2 with h | ⟨g, cap, cur, h1, h2, h3, h4⟩
  · exact .inl h
  · exact .inr ⟨g, cap, cur, h1, h2, (hb.block g (Array.getElem?_eq_some_iff.1 h3).1).trans h3, h4⟩
theorem own_ne {w w' : World} {base base' size size' n n' : Nat} {e e' : TypeId} {v v' : Value} {xs xs' : List Value} (h : w.ownsRow base e size v n xs) (h' : w'.ownsRow base' e' size' v' n' xs') (_hb : base' = w.heap.size := by rfl) :
    ∀ b, v.ownBlock = some b → b < base' := fun b hb => by subst _hb; exact (h.lt b hb).2

section
variable {P : Program} (w : World)
theorem run_append_zero (base : Nat) (t ty e : TypeId) (i : TypeInfo) (size : Nat) (ht : P.underlying t = some (.slice e)) (hi : P.info? e = some i)
    (v : Value) (n : Nat) (xs : List Value) (hown : w.ownsRow base e size v n xs) (c : Nat) : (Builtin.append_ #[t, t] ty #[v, .slice none 0 c]).run P w = .ok v w := by
  rcases hown.2 with ⟨rfl, rfl⟩ | ⟨g, cap, cur, rfl, _, _, hnc, _⟩
  · simp [Builtin.append_, run_underlying ht, sizeOf, typeInfo, hi, Builtin.lenOf, Builtin.firstCells]
  · simp [Builtin.append_, run_underlying ht, sizeOf, typeInfo, hi, Builtin.lenOf, Builtin.firstCells, hnc, storeCells]
/-- append of whatever slice reads, nil or not, to a row of the call's own -/
theorem run_append_reads (base : Nat) (t ty e : TypeId) (i : TypeInfo) (z : Value) (size bytes : Nat) (ht : P.underlying t = some (.slice e)) (hi : P.info? e = some i) (hz : i.zero = some z)
    (hsize : i.size = size) (hby : i.bytes = bytes) (hzs : z.cells.size = size) (hsz : 0 < size)
    (v : Value) (n : Nat) (xs : List Value) (hown : w.ownsRow base e size v n xs)
    (B : Nat) (A : Option Addr) (m c : Nat) (news : List Value) (hr : Reads w B size A m news) (h1 : ∀ u ∈ news, u.oneCell' = true)
    (h63 : n + m ≤ maxLen) (hbytes : (n + m) * bytes ≤ 140737488355328) (hbase : base ≤ w.heap.size) :
    ∃ v' w', (Builtin.append_ #[t, t] ty #[v, .slice A m c]).run P w = .ok v' w' ∧ w'.ownsRow base e size v' (n + m) (xs ++ news) ∧ w.grownBy w' v.ownBlock := by
  cases A with
  | none =>
    have hm : m = 0 := by
      rcases Nat.eq_zero_or_pos m with h0 | h0
      · exact h0
      · obtain ⟨ad, h, _⟩ := hr.2 h0
        cases h
    subst hm
    have hn : news = [] := List.eq_nil_of_length_eq_zero (by simpa using hr.1)
    subst hn
    exact ⟨v, w, run_append_zero w base t ty e i size ht hi v n xs hown c, by simpa using hown, World.grownBy.refl w _⟩
  | some ad =>
    have hcells : ∀ j u, news[j]? = some u → w.cell? (ad.add j) = some u := by
      intro j u hu
      rcases Nat.eq_zero_or_pos m with h0 | h0
      · subst h0
        have hn : news = [] := List.eq_nil_of_length_eq_zero (by simpa using hr.1)
        subst hn
        simp at hu
      · obtain ⟨ad', h, _, hc⟩ := hr.2 h0
        injection h with h
        subst h
        exact hc j u hu
    obtain ⟨v', w', hrun, h2, h3, _, _⟩ := run_append_own_at (P := P) w base t ty e i z size bytes ht hi hz hsize hby hzs hsz v n xs hown ad m c news hr.1 hcells h1 h63 hbytes hbase
    exact ⟨v', w', hrun, h2, h3⟩
theorem wpList_append_reads {ops : Array Oper} {rest : List Oper} {o : Oper} {a : Act} {Q : Exit → Act → World → Prop} (hgd : o.guard = none) (s x : Operand) (t : TypeId)
    (ho : o.op = .call { callee := .builtin .append, args := #[s, x], argTypes := #[t, t] })
    (base : Nat) (e : TypeId) (i : TypeInfo) (z : Value) (size bytes : Nat) (ht : P.underlying t = some (.slice e)) (hi : P.info? e = some i) (hz : i.zero = some z)
    (hsize : i.size = size) (hby : i.bytes = bytes) (hzs : z.cells.size = size) (hsz : 0 < size)
    (v : Value) (n : Nat) (xs : List Value) (hs : a.eval s = v) (hown : w.ownsRow base e size v n xs)
    (B : Nat) (A : Option Addr) (m c : Nat) (news : List Value) (hx : a.eval x = .slice A m c) (hr : Reads w B size A m news) (h1 : ∀ u ∈ news, u.oneCell' = true)
    (h63 : n + m ≤ maxLen) (hbytes : (n + m) * bytes ≤ 140737488355328) (hbase : base ≤ w.heap.size)
    (h : ∀ v' w', w'.ownsRow base e size v' (n + m) (xs ++ news) → w.grownBy w' v.ownBlock → wpList P ops Q rest (a.put o.dst v') w') : wpList P ops Q (o :: rest) a w := by
  refine wpList_plain hgd fun K hK => ?_
  obtain ⟨v', w', hrun, h2, h3⟩ := run_append_reads (P := P) w base t o.type e i z size bytes ht hi hz hsize hby hzs hsz v n xs hown B A m c news hr h1 h63 hbytes hbase
  unfold Oper.wp execOp
  simp only [ho, resolve, invoke, builtin, Sem.run_bind, Sem.run_pure, Result.andThen_ok, List.map_toArray, List.map_cons, List.map_nil, hs, hx, hrun]
  exact hK _ _ (h v' w' h2 h3)
end

/-- the encoding of a list of integers -/
def cat (l : List Int) : List UInt8 := l.flatMap encInt
theorem cat_snoc (l : List Int) (x : Int) : cat (l ++ [x]) = cat l ++ encInt x := by simp [cat]
theorem cat_take (l : List Int) (k : Nat) (h : k < l.length) : cat (l.take (k + 1)) = cat (l.take k) ++ encInt (l[k]?.getD 0) := by
  rw [List.take_succ_eq_append_getElem h, cat_snoc, List.getElem?_eq_getElem h]; rfl
theorem cat_le (l : List Int) (h : ∀ x ∈ l, I64 x) : (cat l).length ≤ 9 * l.length := by
  induction l with
  | nil => simp [cat]
  | cons x l ih =>
    have h1 := encInt_le x (h x (by simp))
    have h2 := ih (fun y hy => h y (by simp [hy]))
    have e : cat (x :: l) = encInt x ++ cat l := by simp [cat]
    rw [e, List.length_append, List.length_cons]; omega
def encInts (l : List Int) : List UInt8 := encInt l.length ++ cat l
theorem at_mem {l : List Int} {k : Nat} (h : k < l.length) (hl : ∀ x ∈ l, I64 x) : I64 (l[k]?.getD 0) := by
  rw [List.getElem?_eq_getElem h]; exact hl _ (List.getElem_mem h)

/-- strings as cells, and the encoding of a list of strings -/
def strs (l : List ByteArray) : List Value := l.map Value.string
theorem strs_length (l : List ByteArray) : (strs l).length = l.length := by simp [strs]
theorem Reads.str_at {w : World} {B : Nat} {A : Option Addr} {n k : Nat} {l : List ByteArray} (h : Reads w B 1 A n (strs l)) (hk : k < n) :
    ∃ ad, A = some ad ∧ ad.block < B ∧ k < l.length ∧ w.cell? (ad.add k) = some (.string (l[k]?.getD ByteArray.empty)) := by
  obtain ⟨ad, u, h1, h2, h3, h4⟩ := h.at_ hk
  have hl : k < l.length := by have := h.1; rw [strs_length] at this; omega
  refine ⟨ad, h1, h2, hl, ?_⟩
  rw [h4, ← h3]
  simp [strs, List.getElem?_eq_getElem hl]
theorem Reads.str_len {w : World} {B : Nat} {A : Option Addr} {n : Nat} {l : List ByteArray} (h : Reads w B 1 A n (strs l)) : l.length = n := by
  have := h.1; rw [strs_length] at this; omega
/-- elements and bytes together -/
def sizes : List ByteArray → Nat
  | [] => 0
  | s :: l => s.size + 1 + sizes l
theorem sizes_len (l : List ByteArray) : l.length ≤ sizes l := by
  induction l with
  | nil => simp [sizes]
  | cons s l ih => simp only [sizes, List.length_cons]; omega
theorem sizes_take (l : List ByteArray) (k : Nat) : sizes (l.take k) ≤ sizes l := by
  induction l generalizing k with
  | nil => simp [sizes]
  | cons s l ih =>
    cases k with
    | zero => simp [sizes]
    | succ k => simp only [List.take_succ_cons, sizes]; have := ih k; omega
theorem sizes_mem {l : List ByteArray} {s : ByteArray} (h : s ∈ l) : s.size ≤ sizes l := by
  induction l with
  | nil => cases h
  | cons x l ih =>
    simp only [sizes]
    rcases List.mem_cons.1 h with rfl | h
    · omega
    · have := ih h; omega
theorem size_at {l : List ByteArray} {k b : Nat} (h : k < l.length) (hl : sizes l ≤ b) : (l[k]?.getD ByteArray.empty).size ≤ b := by
  rw [List.getElem?_eq_getElem h]
  have := sizes_mem (List.getElem_mem h)
  simp only [Option.getD_some]; omega
def catS (l : List ByteArray) : List UInt8 := l.flatMap fun s => encBytes s.data.toList
theorem catS_snoc (l : List ByteArray) (x : ByteArray) : catS (l ++ [x]) = catS l ++ encBytes x.data.toList := by simp [catS]
theorem catS_take (l : List ByteArray) (k : Nat) (h : k < l.length) : catS (l.take (k + 1)) = catS (l.take k) ++ encBytes (l[k]?.getD ByteArray.empty).data.toList := by
  rw [List.take_succ_eq_append_getElem h, catS_snoc, List.getElem?_eq_getElem h]; rfl
theorem encBytes_le (s : ByteArray) (h : s.size ≤ 1000000000) : (encBytes s.data.toList).length ≤ 9 + s.size := by
  unfold encBytes
  rw [List.length_append, size_list]
  have := encInt_le (s.size : Int) (I64.nat h)
  omega
theorem catS_le (l : List ByteArray) (h : sizes l ≤ 1000000) : (catS l).length ≤ 10 * sizes l := by
  induction l with
  | nil => simp [catS]
  | cons s l ih =>
    simp only [sizes] at h ⊢
    have h1 := encBytes_le s (by omega)
    have h2 := ih (by omega)
    have e : catS (s :: l) = encBytes s.data.toList ++ catS l := by simp [catS]
    rw [e, List.length_append]; omega
def encStrs (l : List ByteArray) : List UInt8 := encInt l.length ++ catS l

set_option maxRecDepth 100000 in
set_option maxHeartbeats 1000000 in
theorem wInts_any (A : Option Addr) (n c : Nat) (l : List Int) (w : World) (hl : Reads w w.heap.size 1 A n (ints l)) (hI : ∀ x ∈ l, I64 x) (hn : n ≤ 1000000) :
    Calls Tryd.prog 45 #[.slice A n c] w fun e W' => ∃ v, e = .returned v ∧ W'.ownsRow w.heap.size 5 1 v (encInts l).length (bytesV (encInts l)) ∧ Below w.heap.size w W' := by
  obtain ⟨i0, hi, hz0, hz1, hz2⟩ := info_parts info_u8
  have el := hl.int_len
  subst el
  have hlenl : l.length ≤ 1000000 := by omega
  have hle := encInt_le (l.length : Int) (I64.nat (by omega))
  obtain ⟨P, hP⟩ : ∃ P : List UInt8, P = encInt (l.length : Int) := ⟨_, rfl⟩
  have HP := Lib.hid hP
  rw [← hP] at hle
  go_enter Tryd.func45, Tryd.ntmps45
  go_wp2_with fail
  refine (wInt_any l.length w (by omega) (by omega)).mono ?_
  rintro e w1 ⟨v, rfl, hown, hb⟩
  rw [← hP] at hown
  clear hP
  go_wp2_with fail
  go_loopw [3, 11] (fun v i wr => ∃ j : Nat, j ≤ l.length ∧ i = .int .i64 j ∧ wr.ownsRow w.heap.size 5 1 v (P ++ cat (l.take j)).length (bytesV (P ++ cat (l.take j))) ∧ Below w.heap.size w wr)
    (fun _ i _ => l.length - (intOf i).toNat)
  case atStart => exact ⟨0, by omega, rfl, by simpa [cat] using hown, hb⟩
  case round =>
    clear hown hb
    obtain ⟨j, hj, rfl, hown, hnx⟩ := hrel
    by_cases hlt : j < l.length
    · obtain ⟨ad, rfl, -, -, hc⟩ := (hl.below hnx).int_at hlt
      have hji : (j : Int) < (l.length : Int) := by omega
      have hx := at_mem hlt hI
      have hs := cat_take l j hlt
      have hlen : (P ++ cat (l.take j)).length ≤ 9 + 9 * j := by
        have := cat_le (l.take j) (fun x hx => hI x (List.mem_of_mem_take hx))
        rw [List.length_append]; rw [List.length_take] at this; omega
      generalize l[j]?.getD 0 = x at *
      have hxl := encInt_le _ hx
      have HS := Lib.hid hs
      clear hs
      obtain ⟨wo, rfl⟩ : ∃ wo : World, wo = wr := ⟨_, rfl⟩
      go_wp2_with fail
      refine (wInt_any x wo hx.1 hx.2).mono ?_
      rintro e w2 ⟨v2, rfl, hown2, hb2⟩
      have hown1 := own_below hown hb2
      have hrow := own_ne hown hown2
      obtain ⟨A2, c2, rfl, hr2⟩ := own_reads1 hown2
      clear hown hown2
      go_wp2_with (at_builtin; refine wpList_append_reads _ rfl _ _ 48 rfl w.heap.size 5 i0 (.int .u8 0) 1 1 Tryd.underlying48 hi hz0 hz1 hz2 rfl (by decide) _ _ _ rfl hown1 _ A2 (encInt x).length c2 (bytesV (encInt x)) rfl hr2 (bytesV_one _) (by unfold maxLen; omega) (by omega) (Nat.le_trans hnx.size hb2.size) ?_; intro v' w3 hown' hgrow)
      go_roundw
      case rel => exact ⟨j + 1, by omega, by go_num, by rw [HS.out, ← List.append_assoc, List.length_append, bytesV_append]; exact hown', (hnx.trans (hb2.mono hnx.size)).grown hgrow (Nat.le_trans hnx.size hb2.size) (fun b e => (hown1.lt b e).1)⟩
      case measure => simp [intOf]; omega
    · obtain rfl : j = l.length := by omega
      go_wp2
      go_ret
      refine ⟨_, rfl, ?_, hnx⟩
      have e : encInts l = P ++ cat (l.take l.length) := by rw [List.take_length, HP.out]; rfl
      rw [e]; exact hown

end Go.Proofs.YtnionejefpnfoaaDoor
