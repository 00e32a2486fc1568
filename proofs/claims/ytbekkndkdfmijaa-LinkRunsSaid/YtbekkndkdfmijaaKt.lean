/- LinkOrder: the state of the walk and its steps. No condition. -/
import Derived.Test.YtbekkndkdfmijaaKs
set_option linter.unusedSimpArgs false
set_option linter.unusedVariables false
namespace Go.Proofs.Ytbekkndkdfmijaa
open Go.RowKit Go

/-- what holds of the two ends, the messages sent and the packets -/
structure OInv (key i : Nat) (E : Nat → EndV) (sent : Nat → List (List UInt8)) (P : List (List UInt8)) (T : List Int) : Prop where
  ends : ∀ k, k < 2 → EndI key (E k) (sent k) (sent (1 - k)) (E (1 - k)).got
  len : ∀ k, k < 2 → (sent k).length ≤ i
  msgs : ∀ k, k < 2 → ∀ m ∈ sent k, m.length ≤ 100
  tlen : T.length = P.length
  plen : P.length ≤ 16 * i
  pk : ∀ (j : Nat) p, P[j]? = some p → ∃ t : Nat, t < 2 ∧ T[j]? = some (t : Int) ∧ PkOk key (sent (1 - t)) (E (1 - t)).got p
/-- .. and how they lie in memory -/
structure Ord (w : World) (col : Nat → Nat) (W : World) (eb : Nat) (g h : Nat → Nat) (sb gb key i : Nat) (E : Nat → EndV) (V : Nat → Value) (sent : Nat → List (List UInt8)) (P : List (List UInt8)) (T : List Int) (vp vt : Value) (G : Nat → Nat) : Prop where
  sys : Sys w col W eb g h i E
  sblk : Blk W sb 28 #[V 0, V 1]
  scol : col sb = 2
  slow : w.heap.size ≤ sb
  gblk : Blk W gb 3 #[.int .i64 (G 0 : Int), .int .i64 (G 1 : Int)]
  gcol : col gb = 3
  glow : w.heap.size ≤ gb
  srow : ∀ k, k < 2 → RowAt w col W (4 + k) (V k) (sent k)
  prow : RowAt w col W 6 vp P
  trow : IntsAt w col W 7 vt T
  inv : OInv key i E sent P T
theorem OInv.mono {key i i' : Nat} {E : Nat → EndV} {sent : Nat → List (List UInt8)} {P : List (List UInt8)} {T : List Int} (h : OInv key i E sent P T) (hi : i ≤ i') : OInv key i' E sent P T :=
  ⟨h.ends, fun k hk => Nat.le_trans (h.len k hk) hi, h.msgs, h.tlen, by have := h.plen; omega, h.pk⟩
theorem Ord.mono {w W : World} {col : Nat → Nat} {eb sb gb key i i' : Nat} {g h : Nat → Nat} {E : Nat → EndV} {V : Nat → Value} {sent : Nat → List (List UInt8)} {P : List (List UInt8)} {T : List Int} {vp vt : Value} {G : Nat → Nat}
    (O : Ord w col W eb g h sb gb key i E V sent P T vp vt G) (hi : i ≤ i') : Ord w col W eb g h sb gb key i' E V sent P T vp vt G :=
  ⟨⟨O.sys.bel, O.sys.arr, O.sys.arrc, fun k hk => (O.sys.ends k hk).mono hi⟩, O.sblk, O.scol, O.slow, O.gblk, O.gcol, O.glow, O.srow, O.prow, O.trow, O.inv.mono hi⟩
theorem Ord.ok {w W W' : World} {col : Nat → Nat} {eb sb gb key i : Nat} {g h : Nat → Nat} {E : Nat → EndV} {V : Nat → Value} {sent : Nat → List (List UInt8)} {P : List (List UInt8)} {T : List Int} {vp vt : Value} {G : Nat → Nat}
    (O : Ord w col W eb g h sb gb key i E V sent P T vp vt G) (b : Below W.heap.size W W') : Ord w col W' eb g h sb gb key i E V sent P T vp vt G :=
  ⟨O.sys.ok b, O.sblk.ok b, O.scol, O.slow, O.gblk.ok b, O.gcol, O.glow, fun k hk => (O.srow k hk).ok b, O.prow.ok b, O.trow.ok b, O.inv⟩
theorem byt_new (w : World) {a b : Nat} (ha : a < 256) (hb : b < 256) : Byt (w.alloc (.cells #[.int .u8 (a : Int), .int .u8 (b : Int)] 5)) (some ⟨w.heap.size, 0, none⟩) 2 [byt a, byt b] := by
  have k := Blk.new w 5 #[.int .u8 (a : Int), .int .u8 (b : Int)]
  refine ⟨rfl, fun _ => ⟨_, _, _, rfl, k, fun j u hu => ?_⟩⟩
  rw [addr_add0]
  refine k.at_ ?_
  match j with
  | 0 => rw [← hu]; show _ = some (Value.int .u8 ((byt a).toNat : Int)); rw [byt_toNat ha]; rfl
  | 1 => rw [← hu]; show _ = some (Value.int .u8 ((byt b).toNat : Int)); rw [byt_toNat hb]; rfl
  | j + 2 => simp [bytesV] at hu
theorem pick2 {α : Type} (f : Nat → α) {k : Nat} (hk : k < 2) : (if k = 0 then f 0 else f 1) = f k := by
  match k, hk with
  | 0, _ => rfl
  | 1, _ => rfl
def upd {α : Type} (f : Nat → α) (k : Nat) (x : α) : Nat → α := fun j => if j = k then x else f j
theorem upd_at {α : Type} (f : Nat → α) (k : Nat) (x : α) : upd f k x k = x := if_pos rfl
theorem upd_ne {α : Type} (f : Nat → α) {k j : Nat} (x : α) (h : j ≠ k) : upd f k x j = f j := if_neg h
theorem upd_got {E : Nat → EndV} {k : Nat} {E' : EndV} (h : E'.got = (E k).got) (j : Nat) : (upd E k E' j).got = (E j).got := by
  unfold upd
  split
  · rename_i e; rw [h, e]
  · rfl
theorem blk2_at {W : World} {b k : Nat} {t : TypeId} {x y : Value} (h : Blk W b t #[x, y]) (hk : k < 2) : W.cell? ⟨b, k, none⟩ = some (if k = 0 then x else y) := by
  match k, hk with
  | 0, _ => exact h.at_ rfl
  | 1, _ => exact h.at_ rfl
theorem blk2_set {W : World} {b k : Nat} {t : TypeId} {f : Nat → Value} (h : Blk W b t #[f 0, f 1]) (hk : k < 2) (u : Value) : Blk (W.setCell ⟨b, k, none⟩ u) b t #[upd f k u 0, upd f k u 1] := by
  match k, hk with
  | 0, _ => exact h.set_ 0 u
  | 1, _ => exact h.set_ 1 u
theorem chg_set {w W : World} {col : Nat → Nat} {b : Nat} {t : TypeId} {cs : Array Value} (h : Blk W b t cs) (ht : t ≠ 5) (hb : w.heap.size ≤ b) (i : Nat) (u : Value) : Chg w col (col b) W (W.setCell ⟨b, i, none⟩ u) :=
  ⟨⟨[b], (Fr.refl [b] W).setCell (p := ⟨b, i, none⟩) (.inl (by simp)) u, fun j hj => by simp at hj; subst hj; exact ⟨rfl, hb⟩⟩, U8.set h ht i u⟩
theorem Sys.up {w W : World} {col : Nat → Nat} {eb N : Nat} {g h : Nat → Nat} {E : Nat → EndV} {k : Nat} {E' : EndV} (S : Sys w col W eb g h N (fun i => if i = k then E' else E i)) : Sys w col W eb g h (N + 1) (upd E k E') :=
  ⟨S.bel, S.arr, S.arrc, fun j hj => (S.ends j hj).mono (Nat.le_succ N)⟩
section
variable {w W W1 w6 w7 w8 : World} {col : Nat → Nat} {eb sb gb key i k : Nat} {g h : Nat → Nat} {E : Nat → EndV} {V : Nat → Value} {sent : Nat → List (List UInt8)} {P : List (List UInt8)} {T : List Int} {vp vt : Value} {G : Nat → Nat}
theorem OInv.send (I : OInv key i E sent P T) (hk : k < 2) {b : List UInt8} (hb : b.length ≤ 100) : OInv key (i + 1) (upd E k { E k with wait := (E k).wait ++ [b] }) (upd sent k (sent k ++ [b])) P T := by
  have hgot : ∀ j, (upd E k { E k with wait := (E k).wait ++ [b] } j).got = (E j).got := fun j => by
    unfold upd
    split
    · rename_i e; rw [e]
    · rfl
  refine ⟨fun j hj => ?_, fun j hj => ?_, fun j hj m hm => ?_, I.tlen, by have := I.plen; omega, fun j p hp => ?_⟩
  · rw [hgot]
    by_cases e : j = k
    · subst e
      rw [upd_at, upd_at, upd_ne _ _ (by omega)]
      exact (I.ends j hj).send b
    · rw [upd_ne _ _ e, upd_ne _ _ e]
      have : 1 - j = k := by omega
      rw [this, upd_at]
      have h1 := (I.ends j hj).otherUp b
      rw [this] at h1
      exact h1
  · by_cases e : j = k
    · subst e
      rw [upd_at]
      have := I.len j hj
      simp; omega
    · rw [upd_ne _ _ e]
      have := I.len j hj
      omega
  · by_cases e : j = k
    · subst e
      rw [upd_at] at hm
      rcases List.mem_append.1 hm with hm | hm
      · exact I.msgs j hj m hm
      · simp at hm; rw [hm]; exact hb
    · rw [upd_ne _ _ e] at hm
      exact I.msgs j hj m hm
  · obtain ⟨t, h1, h2, h3⟩ := I.pk j p hp
    refine ⟨t, h1, h2, ?_⟩
    rw [hgot]
    by_cases e : 1 - t = k
    · rw [e, upd_at]
      rw [e] at h3
      exact h3.ownUp [b]
    · rw [upd_ne _ _ e]
      exact h3
theorem ord_send (O : Ord w col W1 eb g h sb gb key i E V sent P T vp vt G) (hk : k < 2) {b : List UInt8} {u : Value} (hb : b.length ≤ 100)
    (H : EndOk w (recol col W1.heap.size k) w6 k (g k) (h k) i { E k with wait := (E k).wait ++ [b] }) (C6 : Chg w col k W1 w6) (b7 : Below w6.heap.size w6 w7)
    (HR8 : RowAt w (recol (recol col W1.heap.size k) w7.heap.size (4 + k)) w8 (4 + k) u (sent k ++ [b])) (C8 : Chg w (recol col W1.heap.size k) (4 + k) w7 w8) :
    ∃ col', Ord w col' (w8.setCell ⟨sb, k, none⟩ u) eb g h sb gb key (i + 1) (upd E k { E k with wait := (E k).wait ++ [b] }) (upd V k u) (upd sent k (sent k ++ [b])) P T vp vt G := by
  have c1 : (recol col W1.heap.size k) sb = 2 := by rw [recol_old O.sblk.lt]; exact O.scol
  have c2 : (recol col W1.heap.size k) gb = 3 := by rw [recol_old O.gblk.lt]; exact O.gcol
  have s6 := ((O.sys.step hk H C6 (Nat.le_refl _)).ok b7).other C8 (by omega) (by omega)
  have k6 := C8.blk ((C6.blk O.sblk (by rw [O.scol]; omega)).ok b7) (by rw [c1]; omega)
  have k6b := C8.blk ((C6.blk O.gblk (by rw [O.gcol]; omega)).ok b7) (by rw [c2]; omega)
  have hw1 := O.sys.bel.size
  have d1 : (recol (recol col W1.heap.size k) w7.heap.size (4 + k)) sb = 2 := by rw [recol_old (by have := C6.size; have := b7.size; have := O.sblk.lt; omega)]; exact c1
  have d2 : (recol (recol col W1.heap.size k) w7.heap.size (4 + k)) gb = 3 := by rw [recol_old (by have := C6.size; have := b7.size; have := O.gblk.lt; omega)]; exact c2
  have C9 := chg_set (w := w) (col := recol (recol col W1.heap.size k) w7.heap.size (4 + k)) k6 (by decide) O.slow k u
  rw [d1] at C9
  refine ⟨recol (recol (recol col W1.heap.size k) w7.heap.size (4 + k)) w8.heap.size 2, Sys.up (s6.other C9 (by omega) (by omega)), blk2_set k6 hk u, by rw [recol_old k6.lt]; exact d1, O.slow, ?_, by rw [recol_old k6b.lt]; exact d2, O.glow, fun j hj => ?_, ?_, ?_, O.inv.send hk hb⟩
  · exact C9.blk k6b (by rw [d2]; omega)
  · by_cases e : j = k
    · subst e
      rw [upd_at, upd_at]
      exact HR8.other C9 (by omega)
    · rw [upd_ne _ _ e, upd_ne _ _ e]
      exact ((((O.srow j hj).other C6 (by omega)).ok b7).other C8 (by omega)).other C9 (by omega)
  · exact (((O.prow.other C6 (by omega)).ok b7).other C8 (by omega)).other C9 (by omega)
  · exact (((O.trow.other C6 (by omega)).ok b7).other C8 (by omega)).other C9 (by omega)
theorem Sys.upTo {w W : World} {col : Nat → Nat} {eb N N' : Nat} {g h : Nat → Nat} {E : Nat → EndV} {k : Nat} {E' : EndV} (S : Sys w col W eb g h N (fun i => if i = k then E' else E i)) (hN : N ≤ N') : Sys w col W eb g h N' (upd E k E') :=
  ⟨S.bel, S.arr, S.arrc, fun j hj => (S.ends j hj).mono hN⟩
theorem ord_end {W' : World} {N' i' : Nat} {E' : EndV} (O : Ord w col W eb g h sb gb key i E V sent P T vp vt G) (hk : k < 2) (H : EndOk w (recol col W.heap.size k) W' k (g k) (h k) N' E') (C : Chg w col k W W') (hN : i ≤ N') (hi : N' ≤ i')
    (inv : OInv key i' (upd E k E') sent P T) : Ord w (recol col W.heap.size k) W' eb g h sb gb key i' (upd E k E') V sent P T vp vt G :=
  ⟨Sys.upTo (O.sys.step hk H C hN) hi, C.blk O.sblk (by rw [O.scol]; omega), by rw [recol_old O.sblk.lt]; exact O.scol, O.slow, C.blk O.gblk (by rw [O.gcol]; omega), by rw [recol_old O.gblk.lt]; exact O.gcol, O.glow,
    fun j hj => (O.srow j hj).other C (by omega), O.prow.other C (by omega), O.trow.other C (by omega), inv⟩
theorem upd_int (G : Nat → Nat) (k x j : Nat) : upd (fun j => Value.int .i64 (G j : Int)) k (.int .i64 (x : Int)) j = .int .i64 ((upd G k x j : Nat) : Int) := by
  unfold upd
  split <;> rfl
theorem ord_got (O : Ord w col W eb g h sb gb key i E V sent P T vp vt G) (hk : k < 2) (x : Nat) : Ord w (recol col W.heap.size 3) (W.setCell ⟨gb, k, none⟩ (.int .i64 (x : Int))) eb g h sb gb key i E V sent P T vp vt (upd G k x) := by
  have C := chg_set (w := w) (col := col) O.gblk (by decide) O.glow k (.int .i64 (x : Int))
  rw [O.gcol] at C
  refine ⟨O.sys.other C (by omega) (by omega), C.blk O.sblk (by rw [O.scol]; omega), by rw [recol_old O.sblk.lt]; exact O.scol, O.slow, ?_, by rw [recol_old O.gblk.lt]; exact O.gcol, O.glow,
    fun j hj => (O.srow j hj).other C (by omega), O.prow.other C (by omega), O.trow.other C (by omega), O.inv⟩
  have h1 := blk2_set (f := fun j => Value.int .i64 (G j : Int)) O.gblk hk (.int .i64 (x : Int))
  rw [upd_int, upd_int] at h1
  exact h1
theorem ord_pk {w1 w2 w3 w4 : World} {vp' vt' : Value} {p : List UInt8} {t : Int} (O : Ord w col W eb g h sb gb key i E V sent P T vp vt G) (b1 : Below W.heap.size W w1) (R2 : RowAt w (recol col w1.heap.size 6) w2 6 vp' (P ++ [p])) (C2 : Chg w col 6 w1 w2) (b3 : Below w2.heap.size w2 w3)
    (R4 : IntsAt w (recol (recol col w1.heap.size 6) w3.heap.size 7) w4 7 vt' (T ++ [t])) (C4 : Chg w (recol col w1.heap.size 6) 7 w3 w4) (inv : OInv key i E sent (P ++ [p]) (T ++ [t])) :
    Ord w (recol (recol col w1.heap.size 6) w3.heap.size 7) w4 eb g h sb gb key i E V sent (P ++ [p]) (T ++ [t]) vp' vt' G := by
  have z1 := b1.size
  have z2 := C2.size
  have z3 := b3.size
  have c1 : (recol col w1.heap.size 6) sb = 2 := by rw [recol_old (by have := O.sblk.lt; omega)]; exact O.scol
  have c2 : (recol col w1.heap.size 6) gb = 3 := by rw [recol_old (by have := O.gblk.lt; omega)]; exact O.gcol
  refine ⟨((((O.sys.ok b1).other C2 (by omega) (by omega)).ok b3).other C4 (by omega) (by omega)), C4.blk ((C2.blk (O.sblk.ok b1) (by rw [O.scol]; omega)).ok b3) (by rw [c1]; omega), by rw [recol_old (by have := O.sblk.lt; omega)]; exact c1, O.slow,
    C4.blk ((C2.blk (O.gblk.ok b1) (by rw [O.gcol]; omega)).ok b3) (by rw [c2]; omega), by rw [recol_old (by have := O.gblk.lt; omega)]; exact c2, O.glow, fun j hj => ((((O.srow j hj).ok b1).other C2 (by omega)).ok b3).other C4 (by omega), (R2.ok b3).other C4 (by omega), R4, inv⟩
/-- one more packet -/
theorem OInv.packet (I : OInv key i E sent P T) {t : Nat} {p : List UInt8} (ht : t < 2) (hp : PkOk key (sent (1 - t)) (E (1 - t)).got p) (hl : P.length + 1 ≤ 16 * i) : OInv key i E sent (P ++ [p]) (T ++ [(t : Int)]) := by
  have hT := I.tlen
  refine ⟨I.ends, I.len, I.msgs, by simp; omega, by simp; omega, fun j q hj => ?_⟩
  by_cases h1 : j < P.length
  · rw [List.getElem?_append_left h1] at hj
    obtain ⟨t', a, b, c⟩ := I.pk j q hj
    exact ⟨t', a, by rw [List.getElem?_append_left (by omega)]; exact b, c⟩
  · have h2 : j = P.length := by
      have := (List.getElem?_eq_some_iff.1 hj).1
      simp at this
      omega
    subst h2
    simp at hj
    subst hj
    exact ⟨t, ht, by rw [← hT]; simp, hp⟩
/-- an end that changes only itself -/
theorem OInv.end_ (I : OInv key i E sent P T) (hk : k < 2) {E' : EndV} {i' : Nat} (hE : EndI key E' (sent k) (sent (1 - k)) (E (1 - k)).got) (hg : (E k).got ≤ E'.got) (hi : i ≤ i') : OInv key i' (upd E k E') sent P T := by
  refine ⟨fun j hj => ?_, fun j hj => Nat.le_trans (I.len j hj) hi, I.msgs, I.tlen, by have := I.plen; omega, fun j p hp => ?_⟩
  · by_cases e : j = k
    · subst e
      rw [upd_at, upd_ne _ _ (by omega)]
      exact hE
    · rw [upd_ne _ _ e]
      have e1 : 1 - j = k := by omega
      rw [e1, upd_at]
      have h1 := I.ends j hj
      rw [e1] at h1
      refine h1.ogUp hg ?_
      have := hE.got
      rw [show 1 - k = j by omega] at this
      exact this
  · obtain ⟨t, h1, h2, h3⟩ := I.pk j p hp
    refine ⟨t, h1, h2, ?_⟩
    by_cases e : 1 - t = k
    · rw [e, upd_at]
      rw [e] at h3
      exact h3.got hg
    · rw [upd_ne _ _ e]
      exact h3
theorem Chg.cell {c b j : Nat} {W' : World} (C : Chg w col c W W') (hb : b < W.heap.size) (hc : col b ≠ c) : W'.cell? ⟨b, j, none⟩ = W.cell? ⟨b, j, none⟩ := by
  obtain ⟨S, hf, hS⟩ := C.fr
  unfold World.cell?
  rw [hf.block b hb fun hm => hc (hS b hm).1]
theorem RowAt.color {c : Nat} {v : Value} {ls : List (List UInt8)} {b n d : Nat} (R : RowAt w col W c v ls) (hv : v = .slice (some ⟨b, 0, none⟩) n d) : col b = c := by
  obtain ⟨vs, ho, hr, hc⟩ := R
  exact hc b (by rw [hv]; rfl)
theorem PkOk.len {own : List (List UInt8)} {og : Nat} {p : List UInt8} (h : PkOk key own og p) (h1 : og ≤ 1000000) (h2 : own.length ≤ 1000000) : p.length ≤ 1000 := by
  obtain ⟨s, a, b, rfl, hb, ha, h0, hs⟩ := h
  have h3 : s ≤ 1000000 := by
    rcases Nat.eq_zero_or_pos s with h | h
    · omega
    · have := (List.getElem?_eq_some_iff.1 (hs h)).1
      omega
  have := pktB_le (s : Int) (a : Int) b (by unfold I64; omega) (by unfold I64; omega) (by omega)
  rw [sealL_length]
  omega
theorem ord_in_calls {t : Nat} {x : List (List UInt8)} {E' : EndV} {p : List UInt8} {A : Option Addr} {n c : Nat} (O : Ord w col W eb g h sb gb key i E V sent P T vp vt G) (ht : t < 2) (hF : inF (E t) p = (x, 0, E')) (hI : EndI key E' (sent t) (sent (1 - t)) (E (1 - t)).got) (hg : E'.got = (E t).got + x.length)
    (hl : Reads W W.heap.size 1 A n (bytesV p)) (hn : n ≤ 100000) (hnc : n ≤ c) (hkey : key < 18446744073709551616) (hi : i ≤ 1000) :
    Calls Try.prog 19 #[.pointer (some ⟨g t, 0, none⟩), .slice A n c] W fun e W' => ∃ A' d', e = .returned (.tuple #[.slice A' x.length d', .int .i64 0]) ∧ Hid (Ord w (recol col W.heap.size t) W' eb g h sb gb key (i + 1) (upd E t E') V sent P T vp vt G) ∧ Hid (RowAt w (recol col W.heap.size t) W' t (.slice A' x.length d') x) ∧ Chg w col t W W' := by
  obtain ⟨q, HE, hc⟩ := O.sys.ends t ht
  have I := O.inv.ends t ht
  have h1 := O.inv.len t ht
  have h2 := O.inv.len (1 - t) (by omega)
  have hw := I.waitLen
  refine (in_any (g t) (h t) i q (E t) A n c p W HE hl hn hnc (by rw [I.key]; exact hkey) (by have := I.ack; have := I.og; omega) (by have := I.got; omega) (by rw [I.forg]; omega) (by omega) (by omega) (fun k l hk => (I.held k l hk).2.1)).mono ?_
  rintro e W' ⟨v, vs, rfl, ho, hr, H, F⟩
  rw [hF] at hr H ⊢
  obtain ⟨hH, hC⟩ := EndOk.step HE hc O.sys.bel.size H F (.inl rfl)
  have hO := ord_end (E' := E') O ht hH hC (Nat.le_succ i) (Nat.le_refl _) (O.inv.end_ ht hI (by omega) (Nat.le_succ i))
  have hR := RowAt.of_own (w := w) (col := col) ho hr O.sys.bel.size W.heap.size (Nat.le_refl _) t
  obtain ⟨A', d', rfl, -⟩ := hR.form
  exact ⟨A', d', rfl, Lib.hid hO, Lib.hid hR, hC⟩
theorem upd_self (G : Nat → Nat) (t : Nat) : upd G t (G t) = G := by
  funext j
  unfold upd
  split
  · rename_i e; rw [e]
  · rfl
theorem upd_upd (G : Nat → Nat) (t x y : Nat) : upd (upd G t x) t y = upd G t y := by
  funext j
  unfold upd
  split <;> rfl
end
end Go.Proofs.Ytbekkndkdfmijaa
