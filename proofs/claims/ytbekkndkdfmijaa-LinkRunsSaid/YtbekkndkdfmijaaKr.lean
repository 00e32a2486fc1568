/- Two ends and rows beside them, each with a colour of its own for its blocks: what one does leaves the others. 'ends' (function 9). No condition. -/
import Derived.Test.YtbekkndkdfmijaaKp
set_option linter.unusedSimpArgs false
set_option linter.unusedVariables false
namespace Go.Proofs.Ytbekkndkdfmijaa
open Go.RowKit Go

/-- blocks from n on get the colour c -/
def recol (col : Nat → Nat) (n c : Nat) : Nat → Nat := fun i => if i < n then col i else c
theorem recol_old {col : Nat → Nat} {n c i : Nat} (h : i < n) : recol col n c i = col i := if_pos h
theorem recol_new {col : Nat → Nat} {n c i : Nat} (h : n ≤ i) : recol col n c i = c := if_neg (by omega)
/-- a step that turns blocks of one colour alone, and no bytes -/
structure Chg (w : World) (col : Nat → Nat) (c : Nat) (W W' : World) : Prop where
  fr : ∃ S, Fr S W W' ∧ ∀ i ∈ S, col i = c ∧ w.heap.size ≤ i
  u8 : U8 W W'
section
variable {w W W' : World} {col : Nat → Nat} {c k : Nat}
theorem Chg.size (C : Chg w col c W W') : W.heap.size ≤ W'.heap.size := C.u8.1
theorem Chg.bel (C : Chg w col c W W') (h : Below w.heap.size w W) : Below w.heap.size w W' := by
  obtain ⟨S, hf, hS⟩ := C.fr
  exact h.trans (hf.belowB h.size fun i hi => (hS i hi).2)
theorem Chg.of_ok (h : Below W.heap.size W W') (c : Nat) : Chg w col c W W' := ⟨⟨[], Fr.of_below h [], by simp⟩, U8.bel h⟩
theorem Chg.blk (C : Chg w col c W W') {b : Nat} {t : TypeId} {cs : Array Value} (h : Blk W b t cs) (hb : col b ≠ c) : Blk W' b t cs := by
  obtain ⟨S, hf, hS⟩ := C.fr
  have h' : W.heap[b]? = _ := h
  exact (hf.block b h.lt fun hm => hb (hS b hm).1).trans h'
/-- an end, its blocks of one colour -/
def EndOk (w : World) (col : Nat → Nat) (W : World) (k g h N : Nat) (E : EndV) : Prop := ∃ q, EndAt W g q h N E ∧ ∀ i ∈ g :: h :: q.toList, col i = k ∧ w.heap.size ≤ i
theorem EndOk.other {g h N : Nat} {E : EndV} (H : EndOk w col W k g h N E) (C : Chg w col c W W') (hk : k ≠ c) : EndOk w (recol col W.heap.size c) W' k g h N E := by
  obtain ⟨q, HE, hc⟩ := H
  obtain ⟨S, hf, hS⟩ := C.fr
  refine ⟨q, HE.fr hf (fun i hi hm => hk ((hc i hi).1.symm.trans (hS i hm).1)) C.u8, fun i hi => ⟨?_, (hc i hi).2⟩⟩
  rw [recol_old (HE.lt i hi)]
  exact (hc i hi).1
theorem EndOk.ok {g h N : Nat} {E : EndV} (H : EndOk w col W k g h N E) (b : Below W.heap.size W W') : EndOk w col W' k g h N E := by
  obtain ⟨q, HE, hc⟩ := H
  exact ⟨q, HE.bel b, hc⟩
theorem EndOk.mono {g h N N' : Nat} {E : EndV} (H : EndOk w col W k g h N E) (hN : N ≤ N') : EndOk w col W k g h N' E := by
  obtain ⟨q, HE, hc⟩ := H
  exact ⟨q, HE.mono hN, hc⟩
theorem EndOk.step {g h N' : Nat} {q q' : Option Nat} {E' : EndV} {N : Nat} {E : EndV} (HE : EndAt W g q h N E) (hc : ∀ i ∈ g :: h :: q.toList, col i = k ∧ w.heap.size ≤ i) (hw : w.heap.size ≤ W.heap.size)
    (H : EndAt W' g q' h N' E') (f : Fr (g :: h :: q.toList) W W') (hq : q' = q ∨ ∃ i, q' = some i ∧ W.heap.size ≤ i) : EndOk w (recol col W.heap.size k) W' k g h N' E' ∧ Chg w col k W W' := by
  refine ⟨⟨q', H, fun i hi => ?_⟩, ⟨_, f, hc⟩, f.u8 HE.not_u8⟩
  by_cases hlt : i < W.heap.size
  · rw [recol_old hlt]
    rcases hq with rfl | ⟨j, rfl, hj⟩
    · exact hc i hi
    · simp at hi
      rcases hi with rfl | rfl | rfl
      · exact hc _ (by simp)
      · exact hc _ (by simp)
      · omega
  · rw [recol_new (by omega)]
    exact ⟨rfl, by omega⟩
/-- a row of our own whose rows are bytes -/
def RowAt (w : World) (col : Nat → Nat) (W : World) (c : Nat) (v : Value) (ls : List (List UInt8)) : Prop :=
  ∃ vs, W.ownsRow w.heap.size 33 1 v ls.length vs ∧ Rws W vs ls ∧ ∀ i, v.ownBlock = some i → col i = c
theorem RowAt.nil_ (w : World) (col : Nat → Nat) (W : World) (c : Nat) : RowAt w col W c (.slice none 0 0) [] := ⟨[], World.ownsRow_nil _ _ _ _, Rws.nil_ _, fun i e => by cases e⟩
theorem RowAt.other {v : Value} {ls : List (List UInt8)} (R : RowAt w col W k v ls) (C : Chg w col c W W') (hk : k ≠ c) : RowAt w (recol col W.heap.size c) W' k v ls := by
  obtain ⟨vs, ho, hr, hc⟩ := R
  obtain ⟨S, hf, hS⟩ := C.fr
  refine ⟨vs, own_fr ho hf (fun i e hm => hk ((hc i e).symm.trans (hS i hm).1)), hr.u8 C.u8, fun i e => ?_⟩
  rw [recol_old (ho.lt i e).2]
  exact hc i e
theorem RowAt.ok {v : Value} {ls : List (List UInt8)} (R : RowAt w col W k v ls) (b : Below W.heap.size W W') : RowAt w col W' k v ls := by
  obtain ⟨vs, ho, hr, hc⟩ := R
  exact ⟨vs, own_ok ho b, hr.u8 (U8.bel b), hc⟩
theorem RowAt.of_own {B : Nat} {v : Value} {ls : List (List UInt8)} {vs : List Value} (ho : W.ownsRow B 33 1 v vs.length vs) (hr : Rws W vs ls) (hB : w.heap.size ≤ B) (n : Nat) (hn : n ≤ B) (c : Nat) : RowAt w (recol col n c) W c v ls := by
  have hl := hr.1
  refine ⟨vs, by rw [← hl]; exact own_le ho hB, hr, fun i e => recol_new (by have := (ho.lt i e).1; omega)⟩
theorem RowAt.form {v : Value} {ls : List (List UInt8)} (R : RowAt w col W c v ls) : ∃ A d, v = .slice A ls.length d ∧ ls.length ≤ d := by
  obtain ⟨vs, ho, -, -⟩ := R
  obtain ⟨A, d, e, h, -, -⟩ := own_slice ho
  exact ⟨A, d, e, h⟩
theorem RowAt.get {v : Value} {ls : List (List UInt8)} (R : RowAt w col W c v ls) {j : Nat} (hj : j < ls.length) : ∃ b d, v = .slice (some ⟨b, 0, none⟩) ls.length d ∧ ls.length ≤ d ∧ ∃ A n e, Msg W b j A n e (ls[j]?.getD []) := by
  obtain ⟨vs, ho, hr, -⟩ := R
  rcases ho.2 with ⟨-, h2⟩ | ⟨b, d, cur, hv, hb, hk, hd, -⟩
  · omega
  · subst hv
    exact ⟨b, d, rfl, hd, got_at ho hr hj (ho.lt b rfl).2⟩
/-- a row of integers of our own -/
def IntsAt (w : World) (col : Nat → Nat) (W : World) (c : Nat) (v : Value) (l : List Int) : Prop :=
  W.ownsRow w.heap.size 3 1 v l.length (ints l) ∧ ∀ i, v.ownBlock = some i → col i = c
theorem IntsAt.nil_ (w : World) (col : Nat → Nat) (W : World) (c : Nat) : IntsAt w col W c (.slice none 0 0) [] := ⟨World.ownsRow_nil _ _ _ _, fun i e => by cases e⟩
theorem IntsAt.other {v : Value} {l : List Int} (R : IntsAt w col W k v l) (C : Chg w col c W W') (hk : k ≠ c) : IntsAt w (recol col W.heap.size c) W' k v l := by
  obtain ⟨ho, hc⟩ := R
  obtain ⟨S, hf, hS⟩ := C.fr
  refine ⟨own_fr ho hf (fun i e hm => hk ((hc i e).symm.trans (hS i hm).1)), fun i e => ?_⟩
  rw [recol_old (ho.lt i e).2]
  exact hc i e
theorem IntsAt.ok {v : Value} {l : List Int} (R : IntsAt w col W k v l) (b : Below W.heap.size W W') : IntsAt w col W' k v l := ⟨own_ok R.1 b, R.2⟩
theorem IntsAt.form {v : Value} {l : List Int} (R : IntsAt w col W c v l) : ∃ A d, v = .slice A l.length d ∧ l.length ≤ d := by
  obtain ⟨A, d, e, h, -, -⟩ := own_slice R.1
  exact ⟨A, d, e, h⟩
theorem IntsAt.get {v : Value} {l : List Int} (R : IntsAt w col W c v l) {j : Nat} (hj : j < l.length) : ∃ b d, v = .slice (some ⟨b, 0, none⟩) l.length d ∧ l.length ≤ d ∧ W.cell? ⟨b, j, none⟩ = some (.int .i64 (l[j]?.getD 0)) := by
  rcases R.1.2 with ⟨-, h2⟩ | ⟨b, d, cur, hv, hb, hk, hd, -⟩
  · omega
  · subst hv
    refine ⟨b, d, rfl, hd, ?_⟩
    have h := R.1.cells (g := b) rfl j (.int .i64 l[j]) (by simp [ints, hj])
    rw [addr_add0] at h
    rw [h, List.getElem?_eq_getElem hj]
    rfl
/-- the two ends and the slice that holds them -/
structure Sys (w : World) (col : Nat → Nat) (W : World) (eb : Nat) (g h : Nat → Nat) (N : Nat) (E : Nat → EndV) : Prop where
  bel : Below w.heap.size w W
  arr : Blk W eb 35 #[.pointer (some ⟨g 0, 0, none⟩), .pointer (some ⟨g 1, 0, none⟩)]
  arrc : col eb = 9
  ends : ∀ k, k < 2 → EndOk w col W k (g k) (h k) N (E k)
theorem Sys.ok {eb N : Nat} {g h : Nat → Nat} {E : Nat → EndV} (S : Sys w col W eb g h N E) (b : Below W.heap.size W W') : Sys w col W' eb g h N E :=
  ⟨below_next S.bel b, S.arr.ok b, S.arrc, fun k hk => (S.ends k hk).ok b⟩
theorem Sys.other {eb N : Nat} {g h : Nat → Nat} {E : Nat → EndV} (S : Sys w col W eb g h N E) (C : Chg w col c W W') (hc : 2 ≤ c) (h9 : c ≠ 9) : Sys w (recol col W.heap.size c) W' eb g h N E :=
  ⟨C.bel S.bel, C.blk S.arr (by rw [S.arrc]; exact Ne.symm h9), by rw [recol_old S.arr.lt]; exact S.arrc, fun k hk => (S.ends k hk).other C (by omega)⟩
theorem Sys.step {eb N N' k : Nat} {g h : Nat → Nat} {E : Nat → EndV} (S : Sys w col W eb g h N E) (hk : k < 2) {E' : EndV} (H : EndOk w (recol col W.heap.size k) W' k (g k) (h k) N' E') (C : Chg w col k W W') (hN : N ≤ N') :
    Sys w (recol col W.heap.size k) W' eb g h N' (fun i => if i = k then E' else E i) :=
  ⟨C.bel S.bel, C.blk S.arr (by rw [S.arrc]; omega), by rw [recol_old S.arr.lt]; exact S.arrc, fun i hi => by
    by_cases e : i = k
    · subst e
      rw [if_pos rfl]
      exact H
    · rw [if_neg e]
      exact ((S.ends i hi).other C e).mono hN⟩
theorem Sys.cell {eb N k : Nat} {g h : Nat → Nat} {E : Nat → EndV} (S : Sys w col W eb g h N E) (hk : k < 2) : W.cell? ⟨eb, k, none⟩ = some (.pointer (some ⟨g k, 0, none⟩)) := by
  match k, hk with
  | 0, _ => exact S.arr.at_ rfl
  | 1, _ => exact S.arr.at_ rfl
end
/-- the windows of the two -/
def winOf (win : Int) (k : Nat) : Nat := (1 + around (if k = 0 then win else win.tdiv 16) 16).toNat
theorem winOf_le (win : Int) (k : Nat) : 1 ≤ winOf win k ∧ winOf win k ≤ 16 := by
  have := around_lt (if k = 0 then win else win.tdiv 16) 16 (by omega)
  unfold winOf
  omega
theorem I64.tdiv {x : Int} (h : I64 x) (d : Nat) : I64 (x.tdiv (d : Int)) := by
  have h1 := Int.natAbs_tdiv_le_natAbs x (d : Int)
  unfold I64 at h ⊢
  have h3 : x.tdiv (d : Int) ≠ 9223372036854775808 := fun e => by
    rcases Int.le_total 0 x with h0 | h0
    · omega
    · have : x.tdiv (d : Int) ≤ 0 := by rw [← Int.neg_neg x, Int.neg_tdiv]; have := Int.tdiv_nonneg (a := -x) (b := (d : Int)) (by omega) (by omega); omega
      omega
  omega
theorem I64.wrap_ {x : Int} (h : I64 x) : IntKind.i64.wrap x = x := by unfold I64 at h; rw [IntKind.wrap_i64]; omega
set_option maxRecDepth 100000 in
set_option maxHeartbeats 800000 in
theorem ends_any (win : Int) (key : Nat) (w : World) (hw : I64 win) :
    Calls Try.prog 9 #[.int .i64 win, .int .u64 (key : Int)] w fun e W' => ∃ eb g h col, e = .returned (.slice (some ⟨eb, 0, none⟩) 2 2) ∧ Hid (Sys w col W' eb g h 0 fun k => newE (winOf win k) key) := by
  have hq : I64 (win.tdiv 16) := hw.tdiv 16
  have l0 := around_lt win 16 (by omega)
  have l1 := around_lt (win.tdiv 16) 16 (by omega)
  have hw1 : IntKind.i64.wrap (1 + around win 16) = 1 + around win 16 := by rw [IntKind.wrap_i64]; omega
  have hw2 : IntKind.i64.wrap (1 + around (win.tdiv 16) 16) = 1 + around (win.tdiv 16) 16 := by rw [IntKind.wrap_i64]; omega
  have hwq : wrap64 (win.tdiv 16) = win.tdiv 16 := by have := hq; unfold I64 at this; unfold wrap64; omega
  go_enter Try.func9, Try.ntmps9
  go_wp2_with fail
  refine (around_any win 16 w hw.1 hw.2 (by omega) (by omega)).mono ?_
  rintro - w1 ⟨rfl, rfl⟩
  go_wp2_with fail
  refine (new_any (1 + around win 16) key w1 (by omega) (by omega)).mono ?_
  rintro - w2 ⟨g0, h0, rfl, H0, lg0, lh0, b2⟩
  go_wp2_with fail
  refine (around_any (win.tdiv 16) 16 w2 hq.1 hq.2 (by omega) (by omega)).mono ?_
  rintro - w3 ⟨rfl, rfl⟩
  go_wp2_with fail
  refine (new_any (1 + around (win.tdiv 16) 16) key w3 (by omega) (by omega)).mono ?_
  rintro - w4 ⟨g1, h1, rfl, H1, lg1, lh1, b4⟩
  go_wp2_with fail
  go_ret
  have l2 := H0.lt
  have l4 := H1.lt
  have z2 := b2.size
  have z4 := b4.size
  refine ⟨w4.heap.size, fun k => if k = 0 then g0 else g1, fun k => if k = 0 then h0 else h1, recol (recol (fun _ => 0) w3.heap.size 1) w4.heap.size 9, rfl, Lib.hid ⟨(b2.trans (b4.mono z2)).alloc (by omega) _, Blk.new _ _ _, recol_new (Nat.le_refl _), fun k hk => ?_⟩⟩
  match k, hk with
  | 0, _ =>
    refine ⟨none, (H0.bel b4).bel (Ok.alloc (Ok.refl _) _), fun i hi => ?_⟩
    have hi2 : i ∈ g0 :: h0 :: (none : Option Nat).toList := hi
    have := l2 i hi2
    rw [recol_old (by omega), recol_old (by omega)]
    simp at hi2
    rcases hi2 with rfl | rfl
    · exact ⟨rfl, by omega⟩
    · exact ⟨rfl, by omega⟩
  | 1, _ =>
    refine ⟨none, H1.bel (Ok.alloc (Ok.refl _) _), fun i hi => ?_⟩
    have hi2 : i ∈ g1 :: h1 :: (none : Option Nat).toList := hi
    have := l4 i hi2
    simp at hi2
    rw [recol_old (by omega), recol_new (by rcases hi2 with rfl | rfl <;> omega)]
    rcases hi2 with rfl | rfl
    · exact ⟨rfl, by omega⟩
    · exact ⟨rfl, by omega⟩
/-- one row appended to a row of rows -/
theorem wpList_row {ops : Array Oper} {rest : List Oper} {o : Oper} {a : Act} {Q : Exit → Act → World → Prop} {w W : World} {col : Nat → Nat} {c cc : Nat} {v u : Value} {ls : List (List UInt8)} {l : List UInt8} {ad : Addr} (hgd : o.guard = none) (s x : Operand)
    (ho : o.op = .call { callee := .builtin .append, args := #[s, x], argTypes := #[28, 28] }) (R : Hid (RowAt w col W c v ls)) (hs : a.eval s = v) (hx : a.eval x = .slice (some ad) 1 cc) (hcell : W.cell? ad = some u) (hu : Hid (Sl W u l)) (hB : w.heap.size ≤ W.heap.size) (hlen : ls.length ≤ 100000)
    (h : ∀ A d W', Hid (RowAt w (recol col W.heap.size c) W' c (.slice A (ls.length + 1) d) (ls ++ [l])) → Hid (ls.length + 1 ≤ d) → Hid (Chg w col c W W') → wpList Try.prog ops Q rest (a.put o.dst (.slice A (ls.length + 1) d)) W') : wpList Try.prog ops Q (o :: rest) a W := by
  obtain ⟨i0, hi, hz0, hz1, hz2⟩ := info_parts info33
  obtain ⟨vs, how, hr, hc⟩ := R.out
  obtain ⟨A1, n1, c1, rfl, hnc, hb⟩ := hu.out
  refine wpList_append_own_at W hgd s x 28 ho w.heap.size 33 i0 (.slice none 0 0) 1 24 Try.underlying28 hi hz0 hz1 hz2 rfl (by decide) v ls.length vs hs how ad 1 cc [.slice A1 n1 c1] hx rfl (fun j u hj => ?_) (fun u hm => ?_) (by unfold maxLen; omega) (by omega) hB ?_
  · cases j with
    | zero => injection hj with hj; rw [← hj]; exact hcell
    | succ j => simp at hj
  · simp at hm; subst hm; rfl
  intro v' W' ho' hg _ hat
  have u8 : U8 W W' := U8.grown hg (own_not_u8 how (by decide))
  have C : Chg w col c W W' := ⟨⟨v.ownBlock.toList, Fr.of_grown hg (fun i e => by rw [e]; simp), fun i hi => by
    have e := Option.mem_toList.1 hi
    exact ⟨hc i e, (how.lt i e).1⟩⟩, u8⟩
  obtain ⟨A, d, rfl, hd, -, -⟩ := own_slice ho'
  refine h A d W' (Lib.hid ⟨vs ++ [.slice A1 n1 c1], by simpa using ho', (hr.u8 u8).snoc ⟨A1, n1, c1, rfl, hnc, hb.u8 u8⟩, fun i e => ?_⟩) (Lib.hid hd) (Lib.hid C)
  rcases hat with h1 | h1
  · rw [h1] at e
    rw [recol_old (how.lt i e).2]
    exact hc i e
  · rw [h1] at e
    injection e with e
    subst e
    exact recol_new (Nat.le_refl _)
/-- one integer appended to a row of integers -/
theorem wpList_ints {ops : Array Oper} {rest : List Oper} {o : Oper} {a : Act} {Q : Exit → Act → World → Prop} {w W : World} {col : Nat → Nat} {c cc : Nat} {v : Value} {l : List Int} {z : Int} {ad : Addr} (hgd : o.guard = none) (s x : Operand)
    (ho : o.op = .call { callee := .builtin .append, args := #[s, x], argTypes := #[23, 23] }) (R : Hid (IntsAt w col W c v l)) (hs : a.eval s = v) (hx : a.eval x = .slice (some ad) 1 cc) (hcell : W.cell? ad = some (.int .i64 z)) (hB : w.heap.size ≤ W.heap.size) (hlen : l.length ≤ 100000)
    (h : ∀ A d W', Hid (IntsAt w (recol col W.heap.size c) W' c (.slice A (l.length + 1) d) (l ++ [z])) → Hid (l.length + 1 ≤ d) → Hid (Chg w col c W W') → wpList Try.prog ops Q rest (a.put o.dst (.slice A (l.length + 1) d)) W') : wpList Try.prog ops Q (o :: rest) a W := by
  obtain ⟨i0, hi, hz0, hz1, hz2⟩ := info_int
  obtain ⟨how, hc⟩ := R.out
  refine wpList_append_own_at W hgd s x 23 ho w.heap.size 3 i0 (.int .i64 0) 1 8 Try.underlying23 hi hz0 hz1 hz2 rfl (by decide) v l.length _ hs how ad 1 cc [.int .i64 z] hx rfl (fun j u hj => ?_) (fun u hm => ?_) (by unfold maxLen; omega) (by omega) hB ?_
  · cases j with
    | zero => injection hj with hj; rw [← hj]; exact hcell
    | succ j => simp at hj
  · simp at hm; subst hm; rfl
  intro v' W' ho' hg _ hat
  have C : Chg w col c W W' := ⟨⟨v.ownBlock.toList, Fr.of_grown hg (fun i e => by rw [e]; simp), fun i hi => by
    have e := Option.mem_toList.1 hi
    exact ⟨hc i e, (how.lt i e).1⟩⟩, U8.grown hg (own_not_u8 how (by decide))⟩
  obtain ⟨A, d, rfl, hd, -, -⟩ := own_slice ho'
  refine h A d W' (Lib.hid ⟨by simpa [ints] using ho', fun i e => ?_⟩) (Lib.hid hd) (Lib.hid C)
  rcases hat with h1 | h1
  · rw [h1] at e
    rw [recol_old (how.lt i e).2]
    exact hc i e
  · rw [h1] at e
    injection e with e
    subst e
    exact recol_new (Nat.le_refl _)
end Go.Proofs.Ytbekkndkdfmijaa
