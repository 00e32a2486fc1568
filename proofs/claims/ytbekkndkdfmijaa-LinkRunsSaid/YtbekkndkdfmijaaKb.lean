/- Words for memory that calls write: which blocks a call leaves as they were; byte slices; lists of byte slices; an end of a link. Nothing is walked here. -/
import Derived.Test.YtbekkndkdfmijaaKa
import Derived.Maps.OwnSet
import Derived.Maps.RangeWalk
import Derived.Deep.Onto
set_option linter.unusedSimpArgs false
set_option linter.unusedVariables false
namespace Go.Proofs.Ytbekkndkdfmijaa
open Go.RowKit

/-- all blocks that were there, but those of S, are as they were -/
structure Fr (S : List Nat) (w w' : World) : Prop where
  os : w'.os = w.os
  tape : w'.tape = w.tape
  output : w'.output = w.output
  size : w.heap.size ≤ w'.heap.size
  block : ∀ k, k < w.heap.size → k ∉ S → w'.heap[k]? = w.heap[k]?
section
variable {S S' : List Nat} {a b c : World}
theorem Fr.refl (S : List Nat) (w : World) : Fr S w w := ⟨rfl, rfl, rfl, Nat.le_refl _, fun _ _ _ => rfl⟩
theorem Fr.trans (h : Fr S a b) (k : Fr S b c) : Fr S a c :=
  ⟨k.os.trans h.os, k.tape.trans h.tape, k.output.trans h.output, Nat.le_trans h.size k.size, fun i hi hn => (k.block i (Nat.lt_of_lt_of_le hi h.size) hn).trans (h.block i hi hn)⟩
theorem Fr.next (h : Fr S a b) (k : Fr S' b c) (hS : ∀ i, i ∈ S' → i ∈ S ∨ a.heap.size ≤ i) : Fr S a c :=
  ⟨k.os.trans h.os, k.tape.trans h.tape, k.output.trans h.output, Nat.le_trans h.size k.size, fun i hi hn => (k.block i (Nat.lt_of_lt_of_le hi h.size) (fun hm => (hS i hm).elim hn (fun h => by omega))).trans (h.block i hi hn)⟩
theorem Fr.mono (h : Fr S a b) (hS : ∀ i, i ∈ S → i ∈ S') : Fr S' a b := ⟨h.os, h.tape, h.output, h.size, fun i hi hn => h.block i hi (fun hm => hn (hS i hm))⟩
theorem Fr.of_below (h : Below a.heap.size a b) (S : List Nat) : Fr S a b := ⟨h.os, h.tape, h.output, h.size, fun i hi _ => h.block i hi⟩
theorem Fr.of_grown {row : Option Nat} (h : a.grownBy b row) (hr : ∀ k, row = some k → k ∈ S) : Fr S a b := ⟨h.os, h.tape, h.output, h.size, fun i hi hn => h.block i hi (fun e => hn (hr i e.symm))⟩
theorem Fr.below (h : Fr [] a b) : Below a.heap.size a b := ⟨h.os, h.tape, h.output, h.size, fun i hi => h.block i hi (by simp)⟩
theorem Fr.belowB (h : Fr S a b) {B : Nat} (hB : B ≤ a.heap.size) (hS : ∀ i, i ∈ S → B ≤ i) : Below B a b := ⟨h.os, h.tape, h.output, h.size, fun i hi => h.block i (by omega) (fun hm => by have := hS i hm; omega)⟩
theorem Fr.alloc (h : Fr S a b) (o : Obj) : Fr S a (b.alloc o) := h.next (S' := []) (Fr.of_below ((Below.refl _ _).alloc (Nat.le_refl _) o) _) (by simp)
theorem Fr.drew (h : Fr S a b) : Fr S a b.drew := ⟨h.os, h.tape, h.output, h.size, h.block⟩
theorem Fr.drewN (h : Fr S a b) (n : Nat) : Fr S a (b.drewN n) := ⟨h.os, h.tape, h.output, h.size, h.block⟩
theorem Fr.drawn (h : Fr S a b) (hd : Drawn b c) : Fr S a c := by obtain ⟨n, rfl⟩ := hd; exact h.drewN n
theorem Fr.setCell (h : Fr S a b) {p : Addr} (hp : p.block ∈ S ∨ a.heap.size ≤ p.block) (u : Value) : Fr S a (b.setCell p u) :=
  ⟨h.os, h.tape, h.output, by rw [show (b.setCell p u).heap.size = b.heap.size from by simp [World.setCell]]; exact h.size, fun i hi hn => by
    have hne : i ≠ p.block := fun e => hp.elim (fun hm => hn (e ▸ hm)) (fun h => by omega)
    rw [Below.heap_setCell _ _ _ _ hne]
    exact h.block i hi hn⟩
theorem Fr.bel (h : Fr S a b) (k : Below b.heap.size b c) : Fr S a c := h.next (Fr.of_below k []) (by simp)
theorem Fr.grown (h : Fr S a b) {row : Option Nat} (k : b.grownBy c row) (hr : ∀ i, row = some i → i ∈ S ∨ a.heap.size ≤ i) : Fr S a c :=
  h.next (S' := row.toList) (Fr.of_grown k (fun i e => by rw [e]; simp)) (fun i hi => hr i (by cases row <;> simp_all))
end
theorem Blk.fr {w w' : World} {g : Nat} {t : TypeId} {cs : Array Value} {S : List Nat} (h : Blk w g t cs) (k : Fr S w w') (hg : g ∉ S) : Blk w' g t cs := (k.block g h.lt hg).trans h
theorem own_fr {w w' : World} {base size n : Nat} {e : TypeId} {v : Value} {xs : List Value} {S : List Nat} (h : w.ownsRow base e size v n xs) (k : Fr S w w') (hv : ∀ i, v.ownBlock = some i → i ∉ S) : w'.ownsRow base e size v n xs := by
  refine ⟨h.1, ?_⟩
  rcases h.2 with h0 | ⟨g, cap, cur, rfl, hb, hh, r⟩
  · exact .inl h0
  · exact .inr ⟨g, cap, cur, rfl, hb, (k.block g (Array.getElem?_eq_some_iff.1 hh).1 (hv g rfl)).trans hh, r⟩
theorem map_fr {H : Type} {P : Program} {kt : TypeId} {R : Value → Option (DataW H × List MemPlace)} {w w' : World} {b n : Nat} {D : DataW H} {S : List Nat} (h : w.ownsMap P kt R b n D) (k : Fr S w w') (hb : b ∉ S) : w'.ownsMap P kt R b n D := by
  have hlt := h.lt
  obtain ⟨es, clock, hh, r⟩ := h
  exact ⟨es, clock, (k.block b hlt hb).trans hh, r⟩

/-! ### byte slices -/
/-- the slice '.slice A n c' holds the bytes l, in a block of bytes -/
def Byt (w : World) (A : Option Addr) (n : Nat) (l : List UInt8) : Prop :=
  l.length = n ∧ (0 < n → ∃ ad cs z, A = some ad ∧ w.heap[ad.block]? = some (.cells cs 5 z) ∧ ∀ j u, (bytesV l)[j]? = some u → w.cell? (ad.add j) = some u)
/-- all blocks of bytes are as they were -/
def U8 (w w' : World) : Prop := w.heap.size ≤ w'.heap.size ∧ ∀ (k : Nat) cs z, w.heap[k]? = some (.cells cs 5 z) → w'.heap[k]? = some (.cells cs 5 z)
theorem U8.refl (w : World) : U8 w w := ⟨Nat.le_refl _, fun _ _ _ h => h⟩
theorem U8.trans {a b c : World} (h : U8 a b) (k : U8 b c) : U8 a c := ⟨Nat.le_trans h.1 k.1, fun i cs z e => k.2 i cs z (h.2 i cs z e)⟩
theorem Fr.u8 {S : List Nat} {w w' : World} (h : Fr S w w') (hS : ∀ k, k ∈ S → ∀ cs z, w.heap[k]? ≠ some (.cells cs 5 z)) : U8 w w' :=
  ⟨h.size, fun k cs z e => (h.block k (Array.getElem?_eq_some_iff.1 e).1 (fun hm => hS k hm cs z e)).trans e⟩
section
variable {w w' : World} {A : Option Addr} {n : Nat} {l : List UInt8}
theorem Byt.reads (h : Byt w A n l) : Reads w w.heap.size 1 A n (bytesV l) :=
  ⟨by rw [bytesV_length, h.1, Nat.mul_one], fun hn => by
    obtain ⟨ad, cs, z, e, hb, hc⟩ := h.2 hn
    exact ⟨ad, e, (Array.getElem?_eq_some_iff.1 hb).1, hc⟩⟩
theorem Byt.u8 (h : Byt w A n l) (k : U8 w w') : Byt w' A n l :=
  ⟨h.1, fun hn => by
    obtain ⟨ad, cs, z, e, hb, hc⟩ := h.2 hn
    exact ⟨ad, cs, z, e, k.2 _ _ _ hb, fun j u hu => (World.cell?_of_block (w := w) (by rw [block_add, k.2 _ _ _ hb, hb])).trans (hc j u hu)⟩⟩
theorem Byt.fr {S : List Nat} (h : Byt w A n l) (k : Fr S w w') (hA : 0 < n → ∀ ad, A = some ad → ad.block ∉ S) : Byt w' A n l :=
  ⟨h.1, fun hn => by
    obtain ⟨ad, cs, z, e, hb, hc⟩ := h.2 hn
    have e1 := k.block ad.block (Array.getElem?_eq_some_iff.1 hb).1 (hA hn ad e)
    exact ⟨ad, cs, z, e, e1.trans hb, fun j u hu => (World.cell?_of_block (w := w) (by rw [block_add]; exact e1)).trans (hc j u hu)⟩⟩
theorem Byt.bel (h : Byt w A n l) (k : Below w.heap.size w w') : Byt w' A n l := h.fr (Fr.of_below k []) (by simp)
theorem Byt.of_own {base c : Nat} (h : w.ownsRow base 5 1 (.slice A n c) n (bytesV l)) : Byt w A n l := by
  refine ⟨by have := h.1; rw [bytesV_length] at this; omega, fun hn => ?_⟩
  obtain ⟨g, cap, cur, hv, hb, hh, r⟩ := h.2.resolve_left (fun e => by omega)
  cases hv
  exact ⟨_, cur, _, rfl, hh, h.cells (g := g) rfl⟩
theorem Byt.nil_ (w : World) (A : Option Addr) : Byt w A 0 [] := ⟨rfl, fun h => by omega⟩
theorem Byt.drop (h : Byt w A n l) {k cap : Nat} (hk : k ≤ n) (hc : n ≤ cap) : Byt w (if cap = k then A else A.map (·.add k)) (n - k) (l.drop k) := by
  refine ⟨by rw [List.length_drop, h.1], fun hn => ?_⟩
  obtain ⟨ad, cs, z, rfl, hb, hcell⟩ := h.2 (by omega)
  rw [if_neg (by omega)]
  refine ⟨ad.add k, cs, z, rfl, by rw [block_add]; exact hb, fun j u hu => ?_⟩
  rw [add_add']
  refine hcell _ u ?_
  rw [bytesV_get] at hu ⊢
  rwa [List.getElem?_drop] at hu
theorem Byt.take (h : Byt w A n l) {k : Nat} (hk : k ≤ n) : Byt w A k (l.take k) := by
  refine ⟨by rw [List.length_take, h.1]; omega, fun hn => ?_⟩
  obtain ⟨ad, cs, z, rfl, hb, hcell⟩ := h.2 (by omega)
  refine ⟨ad, cs, z, rfl, hb, fun j u hu => hcell j u ?_⟩
  rw [bytesV_get] at hu ⊢
  rw [List.getElem?_take] at hu
  split at hu
  · exact hu
  · cases hu
end
/-- the value is a slice of these bytes -/
def Sl (w : World) (v : Value) (l : List UInt8) : Prop := ∃ A n c, v = .slice A n c ∧ n ≤ c ∧ Byt w A n l
theorem Sl.u8 {w w' : World} {v : Value} {l : List UInt8} (h : Sl w v l) (k : U8 w w') : Sl w' v l := by
  obtain ⟨A, n, c, e, hc, hb⟩ := h
  exact ⟨A, n, c, e, hc, hb.u8 k⟩
theorem Sl.of_own {w : World} {base n : Nat} {v : Value} {l : List UInt8} (h : w.ownsRow base 5 1 v n (bytesV l)) : Sl w v l := by
  obtain ⟨A, c, rfl, hc, -, -⟩ := own_slice h
  exact ⟨A, n, c, rfl, hc, Byt.of_own h⟩
theorem Sl.nil_ (w : World) : Sl w (.slice none 0 0) [] := ⟨none, 0, 0, rfl, Nat.le_refl _, Byt.nil_ _ _⟩
/-- the values are slices of these bytes -/
def Rws (w : World) (vs : List Value) (ls : List (List UInt8)) : Prop := vs.length = ls.length ∧ ∀ (i : Nat) (v : Value) (l : List UInt8), vs[i]? = some v → ls[i]? = some l → Sl w v l
section
variable {w w' : World} {vs : List Value} {ls : List (List UInt8)}
theorem Rws.nil_ (w : World) : Rws w [] [] := ⟨rfl, fun i v l h _ => by simp at h⟩
theorem Rws.u8 (h : Rws w vs ls) (k : U8 w w') : Rws w' vs ls := ⟨h.1, fun i v l h1 h2 => (h.2 i v l h1 h2).u8 k⟩
theorem Rws.snoc (h : Rws w vs ls) {v : Value} {l : List UInt8} (hv : Sl w v l) : Rws w (vs ++ [v]) (ls ++ [l]) :=
  ⟨by simp [h.1], fun i x y hx hy => by
    by_cases hi : i < vs.length
    · rw [List.getElem?_append_left hi] at hx
      rw [List.getElem?_append_left (by rw [← h.1]; exact hi)] at hy
      exact h.2 i x y hx hy
    · rw [List.getElem?_append_right (by omega)] at hx
      rw [List.getElem?_append_right (by rw [← h.1]; omega)] at hy
      have : i - vs.length = 0 := by
        have := (List.getElem?_eq_some_iff.1 hx).1
        simp at this
        omega
      rw [this] at hx
      rw [← h.1, this] at hy
      simp at hx hy
      subst hx hy
      exact hv⟩
theorem Rws.drop (h : Rws w vs ls) (k : Nat) : Rws w (vs.drop k) (ls.drop k) :=
  ⟨by simp [h.1], fun i v l h1 h2 => by rw [List.getElem?_drop] at h1 h2; exact h.2 _ v l h1 h2⟩
theorem Rws.at_ (h : Rws w vs ls) {i : Nat} (hi : i < ls.length) : ∃ A n c l, vs[i]? = some (.slice A n c) ∧ ls[i]? = some l ∧ n ≤ c ∧ Byt w A n l := by
  have h1 : i < vs.length := by rw [h.1]; exact hi
  obtain ⟨A, n, c, e, hc, hb⟩ := h.2 i _ _ (List.getElem?_eq_getElem h1) (List.getElem?_eq_getElem hi)
  exact ⟨A, n, c, _, by rw [List.getElem?_eq_getElem h1, e], List.getElem?_eq_getElem hi, hc, hb⟩
theorem Rws.one (h : Rws w vs ls) : ∀ u ∈ vs, u.oneCell' = true := by
  intro u hu
  obtain ⟨i, hi, e⟩ := List.mem_iff_getElem.1 hu
  obtain ⟨A, n, c, l, h1, -⟩ := h.at_ (i := i) (by have := h.1; omega)
  rw [List.getElem?_eq_getElem hi, e] at h1
  cases h1
  rfl
end

/-! ### an end of a link -/
structure EndV where
  win : Nat
  key : Nat
  wait : List (List UInt8)
  ack : Nat
  got : Nat
  held : Int → Option (List UInt8)
  owe : Bool
  forg : Nat
/-- a map's element as it stands -/
def hR (v : Value) : Option (DataW Value × List MemPlace) := some (.held v, [])
theorem intKey : Go.Maps.Keyed Try.prog 3 := Maps.int_keyed Try.underlying3
def HeldAt (w : World) (D : DataW Value) (f : Int → Option (List UInt8)) : Prop :=
  ∀ k : Int, (∀ l, f k = some l → Maps.has D (.int .i64 k) = true ∧ ∃ v, (∀ z, D.atKey (.int .i64 k) z = .held v) ∧ Sl w v l) ∧ (f k = none → Maps.has D (.int .i64 k) = false)
theorem HeldAt.u8 {w w' : World} {D : DataW Value} {f : Int → Option (List UInt8)} (h : HeldAt w D f) (k : U8 w w') : HeldAt w' D f := fun i =>
  ⟨fun l hl => by
    obtain ⟨h1, v, h2, h3⟩ := (h i).1 l hl
    exact ⟨h1, v, h2, h3.u8 k⟩, (h i).2⟩
theorem HeldAt.none_ (w : World) : HeldAt w (.map []) (fun _ => none) := fun k => ⟨fun l h => (by cases h), fun _ => rfl⟩
theorem HeldAt.put {w : World} {D : DataW Value} {f : Int → Option (List UInt8)} (h : HeldAt w D f) (hD : Maps.IsMap D) {s : Int} (hs : (Lit.int .i64 s).wf = true) {v : Value} {l : List UInt8} (hv : Sl w v l) :
    HeldAt w (D.put (.int .i64 s) (.held v)) (fun k => if k = s then some l else f k) := fun k => by
  by_cases e : k = s
  · subst e
    have hk : WideAt.IsKeyLit (.int .i64 k) := by first | trivial | simp [WideAt.IsKeyLit]
    refine ⟨fun l' hl => ?_, fun hn => by simp at hn⟩
    simp at hl
    subst hl
    exact ⟨Maps.has_put_same hD hk _, v, fun z => Maps.atKey_put_same hD hk _ z, hv⟩
  · have hne : (Lit.int .i64 k) ≠ (Lit.int .i64 s) := fun h => e (by injection h)
    simp only [if_neg e]
    refine ⟨fun l' hl => ?_, fun hn => ?_⟩
    · obtain ⟨h1, u, h2, h3⟩ := (h k).1 l' hl
      exact ⟨by rw [Maps.has_put_other hne]; exact h1, u, fun z => by rw [Maps.atKey_put_other hne]; exact h2 z, h3⟩
    · rw [Maps.has_put_other hne]; exact (h k).2 hn
theorem HeldAt.del {w : World} {D : DataW Value} {f : Int → Option (List UInt8)} (h : HeldAt w D f) (s : Int) :
    HeldAt w (D.del (.int .i64 s)) (fun k => if k = s then none else f k) := fun k => by
  by_cases e : k = s
  · subst e
    simp only [if_pos]
    exact ⟨fun l' hl => (by cases hl), fun _ => Maps.has_del_same⟩
  · have hne : (Lit.int .i64 k) ≠ (Lit.int .i64 s) := fun h => e (by injection h)
    simp only [if_neg e]
    refine ⟨fun l' hl => ?_, fun hn => ?_⟩
    · obtain ⟨h1, u, h2, h3⟩ := (h k).1 l' hl
      exact ⟨by rw [Maps.has_del_other hne]; exact h1, u, fun z => by rw [Maps.atKey_del_other hne]; exact h2 z, h3⟩
    · rw [Maps.has_del_other hne]; exact (h k).2 hn
/-- the cells of an end -/
abbrev endV (E : EndV) (A : Option Addr) (n c h : Nat) : Array Value := #[.int .i64 (E.win : Int), .int .u64 (E.key : Int), .slice A n c, .int .i64 (E.ack : Int), .int .i64 (E.got : Int), .map (some h), .bool E.owe, .int .i64 (E.forg : Int)]
/-- block g is the end E; q: the block of its waiting messages; h: the map of those held (at most N entries) -/
def EndAt (w : World) (g : Nat) (q : Option Nat) (h N : Nat) (E : EndV) : Prop :=
  ∃ A n c vs D, Blk w g 65 (endV E A n c h) ∧ n = E.wait.length ∧ w.ownsRow 0 33 1 (.slice A n c) n vs ∧ (Value.slice A n c).ownBlock = q ∧ Rws w vs E.wait ∧
    w.ownsMap Try.prog 3 hR h N D ∧ HeldAt w D E.held
theorem EndAt.not_u8 {w : World} {g h N : Nat} {q : Option Nat} {E : EndV} (H : EndAt w g q h N E) : ∀ k, k ∈ g :: h :: q.toList → ∀ cs z, w.heap[k]? ≠ some (.cells cs 5 z) := by
  obtain ⟨A, n, c, vs, D, h1, h2, h3, h4, h5, ⟨es, clock, h6, -⟩, h7⟩ := H
  intro k hk cs z e
  rcases List.mem_cons.1 hk with rfl | hk
  · unfold Blk at h1
    rw [h1] at e
    injection e with e
    injection e with _ e
    exact absurd e (by decide)
  · rcases List.mem_cons.1 hk with rfl | hk
    · rw [h6] at e
      injection e with e
      cases e
    · have hq : q = some k := by cases q <;> simp_all
      rw [hq] at h4
      rcases h3.2 with ⟨hv, -⟩ | ⟨g', cap, cur, hv, -, hh, -⟩
      · rw [hv] at h4; cases h4
      · rw [hv] at h4
        have : g' = k := by simpa [Value.ownBlock] using h4
        subst this
        rw [hh] at e
        injection e with e
        injection e with _ e
        exact absurd e (by decide)
/-- an end stays as it is while blocks are written that are none of its own -/
theorem EndAt.fr {w w' : World} {g h N : Nat} {q : Option Nat} {E : EndV} {S : List Nat} (H : EndAt w g q h N E) (k : Fr S w w') (hS : ∀ i, i ∈ g :: h :: q.toList → i ∉ S) (hu : U8 w w') : EndAt w' g q h N E := by
  obtain ⟨A, n, c, vs, D, h1, h2, h3, h4, h5, h6, h7⟩ := H
  exact ⟨A, n, c, vs, D, h1.fr k (hS g (by simp)), h2, own_fr h3 k (fun i e => hS i (by rw [h4] at e; simp [e])), h4, h5.u8 hu, map_fr h6 k (hS h (by simp)), h7.u8 hu⟩
theorem EndAt.lt {w : World} {g h N : Nat} {q : Option Nat} {E : EndV} (H : EndAt w g q h N E) : ∀ i, i ∈ g :: h :: q.toList → i < w.heap.size := by
  obtain ⟨A, n, c, vs, D, h1, h2, h3, h4, h5, h6, h7⟩ := H
  intro k hk
  rcases List.mem_cons.1 hk with rfl | hk
  · exact h1.lt
  · rcases List.mem_cons.1 hk with rfl | hk
    · exact h6.lt
    · have hq : q = some k := by cases q <;> simp_all
      rw [hq] at h4
      exact (h3.lt k h4).2
theorem EndAt.bel {w w' : World} {g h N : Nat} {q : Option Nat} {E : EndV} (H : EndAt w g q h N E) (k : Below w.heap.size w w') : EndAt w' g q h N E :=
  H.fr (Fr.of_below k []) (by simp) ((Fr.of_below k []).u8 (by simp))
theorem EndAt.mono {w : World} {g h N N' : Nat} {q : Option Nat} {E : EndV} (H : EndAt w g q h N E) (hN : N ≤ N') : EndAt w g q h N' E := by
  obtain ⟨A, n, c, vs, D, h1, h2, h3, h4, h5, h6, h7⟩ := H
  exact ⟨A, n, c, vs, D, h1, h2, h3, h4, h5, h6.mono hN, h7⟩
end Go.Proofs.Ytbekkndkdfmijaa
