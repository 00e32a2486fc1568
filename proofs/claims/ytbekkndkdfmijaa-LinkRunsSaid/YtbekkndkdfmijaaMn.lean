/- The reference's ends beside the program's ones: what one does leaves the others. No condition. -/
import Derived.Test.YtbekkndkdfmijaaMm
import Derived.Test.YtbekkndkdfmijaaKt
set_option linter.unusedSimpArgs false
set_option linter.unusedVariables false
namespace Go.Proofs.Ytbekkndkdfmijaa
open Go.RowKit Go

/-- the reference's end, its blocks of one colour; at most n messages are held -/
def RefOk (w : World) (col : Nat → Nat) (W : World) (c g : Nat) (S : List (List UInt8)) (n : Nat) (E : EndV) : Prop :=
  ∃ vS vH ss bs, RefAt W w.heap.size g vS vH S ss bs E ∧ ss.length ≤ n ∧ ∀ i, (i = g ∨ vS.ownBlock = some i ∨ vH.ownBlock = some i) → col i = c ∧ w.heap.size ≤ i
section
variable {w W W' : World} {col : Nat → Nat} {c k g n : Nat} {S : List (List UInt8)} {E : EndV}
theorem RefAt.lt {vS vH : Value} {B : Nat} {ss : List Int} {bs : List (List UInt8)} (H : RefAt W B g vS vH S ss bs E) : ∀ i, (i = g ∨ vS.ownBlock = some i ∨ vH.ownBlock = some i) → i < W.heap.size := by
  rintro i (rfl | h | h)
  · exact H.blk.lt
  · obtain ⟨vs, ho, -⟩ := H.sent
    exact (ho.lt i h).2
  · obtain ⟨us, ho, -⟩ := H.held
    exact (ho.lt i h).2
theorem RefOk.mono {m : Nat} (H : RefOk w col W c g S n E) (h : n ≤ m) : RefOk w col W c g S m E := by
  obtain ⟨vS, vH, ss, bs, h1, h2, h3⟩ := H
  exact ⟨vS, vH, ss, bs, h1, Nat.le_trans h2 h, h3⟩
theorem RefOk.ok (H : RefOk w col W c g S n E) (b : Below W.heap.size W W') : RefOk w col W' c g S n E := by
  obtain ⟨vS, vH, ss, bs, h1, h2, h3⟩ := H
  exact ⟨vS, vH, ss, bs, h1.ok b, h2, h3⟩
theorem RefOk.other (H : RefOk w col W k g S n E) (C : Chg w col c W W') (hk : k ≠ c) : RefOk w (recol col W.heap.size c) W' k g S n E := by
  obtain ⟨vS, vH, ss, bs, h1, h2, h3⟩ := H
  obtain ⟨T, hf, hT⟩ := C.fr
  have hno : ∀ i, (i = g ∨ vS.ownBlock = some i ∨ vH.ownBlock = some i) → i ∉ T := fun i hi hm => hk ((h3 i hi).1.symm.trans (hT i hm).1)
  refine ⟨vS, vH, ss, bs, h1.fr hf (hno g (.inl rfl)) (fun i e => hno i (.inr (.inl e))) (fun i e => hno i (.inr (.inr e))) C.u8, h2, fun i hi => ⟨?_, (h3 i hi).2⟩⟩
  rw [recol_old (h1.lt i hi)]
  exact (h3 i hi).1
/-- a step of the reference's end itself -/
theorem RefOk.step {vS vH vS' vH' : Value} {ss ss' : List Int} {bs bs' : List (List UInt8)} {S' : List (List UInt8)} {E' : EndV} {n' : Nat} (H : RefAt W w.heap.size g vS vH S ss bs E) (hc : ∀ i, (i = g ∨ vS.ownBlock = some i ∨ vH.ownBlock = some i) → col i = c ∧ w.heap.size ≤ i) (hw : w.heap.size ≤ W.heap.size)
    (H' : RefAt W' w.heap.size g vS' vH' S' ss' bs' E') (hn : ss'.length ≤ n') (f : Fr (g :: (vS.ownBlock.toList ++ vH.ownBlock.toList)) W W') (hS : vS'.ownBlock = vS.ownBlock ∨ ∃ i, vS'.ownBlock = some i ∧ W.heap.size ≤ i) (hH : vH'.ownBlock = vH.ownBlock ∨ vH'.ownBlock = none ∨ ∃ i, vH'.ownBlock = some i ∧ W.heap.size ≤ i) :
    RefOk w (recol col W.heap.size c) W' c g S' n' E' ∧ Chg w col c W W' := by
  have hmem : ∀ i, i ∈ g :: (vS.ownBlock.toList ++ vH.ownBlock.toList) → (i = g ∨ vS.ownBlock = some i ∨ vH.ownBlock = some i) := fun i hi => by
    simp at hi
    exact hi
  refine ⟨⟨vS', vH', ss', bs', H', hn, fun i hi => ?_⟩, ⟨_, f, fun i hi => hc i (hmem i hi)⟩, f.u8 fun i hi => ?_⟩
  · by_cases hlt : i < W.heap.size
    · rw [recol_old hlt]
      rcases hi with rfl | h | h
      · exact hc _ (.inl rfl)
      · rcases hS with e | ⟨j, e, hj⟩
        · exact hc _ (.inr (.inl (by rw [← e]; exact h)))
        · rw [e] at h; injection h with h; omega
      · rcases hH with e | e | ⟨j, e, hj⟩
        · exact hc _ (.inr (.inr (by rw [← e]; exact h)))
        · rw [e] at h; cases h
        · rw [e] at h; injection h with h; omega
    · rw [recol_new (by omega)]
      exact ⟨rfl, by omega⟩
  · intro cs z e
    rcases hmem i hi with rfl | h | h
    · have hb := H.blk
      have hb2 : W.heap[i]? = _ := hb
      rw [hb2] at e
      injection e with e
      cases e
    · obtain ⟨vs, ho, -⟩ := H.sent
      exact own_not_u8 ho (by decide) i h cs z e
    · obtain ⟨us, ho, -⟩ := H.held
      exact own_not_u8 ho (by decide) i h cs z e
end
/-- everything: the program's ends E, the reference's ends F, the rows sent and to -/
structure Mid (w : World) (col : Nat → Nat) (W : World) (eb : Nat) (g h : Nat → Nat) (mb : Nat) (r : Nat → Nat) (N : Nat) (E F : Nat → EndV) (S : Nat → List (List UInt8)) (P : List (List UInt8)) (T : List Int) (vp vt : Value) : Prop where
  sys : Sys w col W eb g h N E
  mblk : Blk W mb 26 #[.pointer (some ⟨r 0, 0, none⟩), .pointer (some ⟨r 1, 0, none⟩)]
  mcol : col mb = 8
  refs : ∀ k, k < 2 → RefOk w col W (2 + k) (r k) (S k) N (F k)
  prow : RowAt w col W 6 vp P
  trow : IntsAt w col W 7 vt T
section
variable {w W W' : World} {col : Nat → Nat} {eb mb N N' k c : Nat} {g h r : Nat → Nat} {E F : Nat → EndV} {S : Nat → List (List UInt8)} {P : List (List UInt8)} {T : List Int} {vp vt : Value}
theorem Mid.ok (M : Mid w col W eb g h mb r N E F S P T vp vt) (b : Below W.heap.size W W') : Mid w col W' eb g h mb r N E F S P T vp vt :=
  ⟨M.sys.ok b, M.mblk.ok b, M.mcol, fun k hk => (M.refs k hk).ok b, M.prow.ok b, M.trow.ok b⟩
theorem Mid.up (M : Mid w col W eb g h mb r N E F S P T vp vt) (hN : N ≤ N') : Mid w col W eb g h mb r N' E F S P T vp vt :=
  ⟨⟨M.sys.bel, M.sys.arr, M.sys.arrc, fun j hj => (M.sys.ends j hj).mono hN⟩, M.mblk, M.mcol, fun k hk => (M.refs k hk).mono hN, M.prow, M.trow⟩
theorem Mid.prog (M : Mid w col W eb g h mb r N E F S P T vp vt) (hk : k < 2) {E' : EndV} (H : EndOk w (recol col W.heap.size k) W' k (g k) (h k) N' E') (C : Chg w col k W W') (hN : N ≤ N') :
    Mid w (recol col W.heap.size k) W' eb g h mb r N' (upd E k E') F S P T vp vt :=
  ⟨Sys.upTo (M.sys.step hk H C hN) (Nat.le_refl _), C.blk M.mblk (by rw [M.mcol]; omega), by rw [recol_old M.mblk.lt]; exact M.mcol, fun j hj => ((M.refs j hj).other C (by omega)).mono hN, M.prow.other C (by omega), M.trow.other C (by omega)⟩
theorem Mid.ref (M : Mid w col W eb g h mb r N E F S P T vp vt) (hk : k < 2) {F' : EndV} {S' : List (List UInt8)} (H : RefOk w (recol col W.heap.size (2 + k)) W' (2 + k) (r k) S' N' F') (C : Chg w col (2 + k) W W') (hN : N ≤ N') :
    Mid w (recol col W.heap.size (2 + k)) W' eb g h mb r N' E (upd F k F') (upd S k S') P T vp vt := by
  have h0 := M.sys.other C (by omega) (by omega)
  refine ⟨⟨h0.bel, h0.arr, h0.arrc, fun j hj => (h0.ends j hj).mono hN⟩, C.blk M.mblk (by rw [M.mcol]; omega), by rw [recol_old M.mblk.lt]; exact M.mcol, fun j hj => ?_, M.prow.other C (by omega), M.trow.other C (by omega)⟩
  by_cases e : j = k
  · subst e
    rw [upd_at, upd_at]
    exact H
  · rw [upd_ne _ _ e, upd_ne _ _ e]
    exact ((M.refs j hj).other C (by omega)).mono hN
theorem Mid.row (M : Mid w col W eb g h mb r N E F S P T vp vt) {vp' : Value} {P' : List (List UInt8)} (R : RowAt w (recol col W.heap.size 6) W' 6 vp' P') (C : Chg w col 6 W W') :
    Mid w (recol col W.heap.size 6) W' eb g h mb r N E F S P' T vp' vt :=
  ⟨M.sys.other C (by omega) (by omega), C.blk M.mblk (by rw [M.mcol]; omega), by rw [recol_old M.mblk.lt]; exact M.mcol, fun j hj => (M.refs j hj).other C (by omega), R, M.trow.other C (by omega)⟩
theorem Mid.int (M : Mid w col W eb g h mb r N E F S P T vp vt) {vt' : Value} {T' : List Int} (R : IntsAt w (recol col W.heap.size 7) W' 7 vt' T') (C : Chg w col 7 W W') :
    Mid w (recol col W.heap.size 7) W' eb g h mb r N E F S P T' vp vt' :=
  ⟨M.sys.other C (by omega) (by omega), C.blk M.mblk (by rw [M.mcol]; omega), by rw [recol_old M.mblk.lt]; exact M.mcol, fun j hj => (M.refs j hj).other C (by omega), M.prow.other C (by omega), R⟩
theorem Mid.mcell (M : Mid w col W eb g h mb r N E F S P T vp vt) (hk : k < 2) : W.cell? ⟨mb, k, none⟩ = some (.pointer (some ⟨r k, 0, none⟩)) := by
  match k, hk with
  | 0, _ => exact M.mblk.at_ rfl
  | 1, _ => exact M.mblk.at_ rfl
end
end Go.Proofs.Ytbekkndkdfmijaa
