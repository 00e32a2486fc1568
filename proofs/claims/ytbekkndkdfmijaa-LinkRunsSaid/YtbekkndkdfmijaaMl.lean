/- Plain laws of the reference's list of held messages. No condition. -/
import Derived.Test.YtbekkndkdfmijaaMj
set_option linter.unusedSimpArgs false
set_option linter.unusedVariables false
namespace Go.Proofs.Ytbekkndkdfmijaa
open Go.RowKit Go

/-- the message held under a number -/
def lookL (ss : List Int) (bs : List (List UInt8)) (k : Int) : Option (List UInt8) := ((ss.zip bs).find? fun p => p.1 == k).map (·.2)
theorem lookL_nil (bs : List (List UInt8)) (k : Int) : lookL [] bs k = none := rfl
theorem lookL_cons (s : Int) (ss : List Int) (b : List UInt8) (bs : List (List UInt8)) (k : Int) : lookL (s :: ss) (b :: bs) k = if s = k then some b else lookL ss bs k := by
  unfold lookL
  rw [List.zip_cons_cons, List.find?_cons]
  by_cases h : s = k
  · rw [if_pos h]
    have : ((s, b).1 == k) = true := by simpa using h
    rw [this]
    rfl
  · rw [if_neg h]
    have : ((s, b).1 == k) = false := by simpa using h
    rw [this]
theorem lookL_none {k : Int} : ∀ (ss : List Int) (bs : List (List UInt8)), k ∉ ss → lookL ss bs k = none
  | [], _, _ => rfl
  | s :: ss, [], _ => by unfold lookL; simp
  | s :: ss, b :: bs, h => by
    rw [lookL_cons, if_neg (fun e => h (by simp [e])), lookL_none ss bs (fun hm => h (by simp [hm]))]
theorem lookL_mem {k : Int} {b : List UInt8} {ss : List Int} {bs : List (List UInt8)} (h : lookL ss bs k = some b) : k ∈ ss := by
  by_cases hm : k ∈ ss
  · exact hm
  · rw [lookL_none ss bs hm] at h
    cases h
theorem lookL_at {k : Int} {b : List UInt8} : ∀ (ss : List Int) (bs : List (List UInt8)) (i : Nat), ss.Nodup → ss[i]? = some k → bs[i]? = some b → lookL ss bs k = some b
  | [], _, i, _, h, _ => by simp at h
  | s :: ss, [], i, _, _, h => by simp at h
  | s :: ss, c :: bs, 0, _, h1, h2 => by
    simp at h1 h2
    rw [lookL_cons, if_pos h1, h2]
  | s :: ss, c :: bs, i + 1, hn, h1, h2 => by
    simp at h1 h2
    have hk : k ∈ ss := List.mem_of_getElem? h1
    rw [List.nodup_cons] at hn
    rw [lookL_cons, if_neg (fun e => hn.1 (by rw [e]; exact hk))]
    exact lookL_at ss bs i hn.2 h1 h2
theorem lookL_snoc {s k : Int} {b : List UInt8} : ∀ (ss : List Int) (bs : List (List UInt8)), bs.length = ss.length → s ∉ ss → lookL (ss ++ [s]) (bs ++ [b]) k = if k = s then some b else lookL ss bs k
  | [], [], _, _ => by
    show lookL [s] [b] k = _
    rw [lookL_cons]
    by_cases h : k = s
    · rw [if_pos h, if_pos h.symm]
    · rw [if_neg h, if_neg (Ne.symm h)]
  | [], c :: bs, h, _ => by simp at h
  | x :: ss, [], h, _ => by simp at h
  | x :: ss, y :: bs, h, hs => by
    rw [List.cons_append, List.cons_append, lookL_cons, lookL_cons, lookL_snoc ss bs (by simpa using h) (fun hm => hs (by simp [hm]))]
    by_cases hx : x = k
    · have hk : k ≠ s := fun e => hs (by rw [← e, ← hx]; simp)
      rw [if_pos hx, if_pos hx, if_neg hk]
    · rw [if_neg hx, if_neg hx]
theorem lookL_erase {s k : Int} : ∀ (ss : List Int) (bs : List (List UInt8)) (i : Nat), bs.length = ss.length → ss.Nodup → ss[i]? = some s → lookL (ss.eraseIdx i) (bs.eraseIdx i) k = if k = s then none else lookL ss bs k
  | [], _, i, _, _, h => by simp at h
  | x :: ss, [], _, h, _, _ => by simp at h
  | x :: ss, y :: bs, 0, h, hn, hs => by
    simp at hs
    rw [List.nodup_cons] at hn
    show lookL ss bs k = _
    by_cases hk : k = s
    · rw [if_pos hk, lookL_none ss bs (by rw [hk, ← hs]; exact hn.1)]
    · rw [if_neg hk, lookL_cons, if_neg (fun e => hk (by rw [← e, hs]))]
  | x :: ss, y :: bs, i + 1, h, hn, hs => by
    simp at hs
    rw [List.nodup_cons] at hn
    rw [List.eraseIdx_cons_succ, List.eraseIdx_cons_succ, lookL_cons, lookL_cons, lookL_erase ss bs i (by simpa using h) hn.2 hs]
    have hxs : x ≠ s := fun e => hn.1 (by rw [e]; exact List.mem_of_getElem? hs)
    by_cases hx : x = k
    · rw [if_pos hx, if_pos hx, if_neg (fun e => hxs (by rw [hx, e]))]
    · rw [if_neg hx, if_neg hx]
theorem findI_notmem {k : Int} : ∀ (ss : List Int) (n : Nat), k ∉ ss → findI ss k n = -1
  | [], _, _ => rfl
  | x :: ss, n, h => by
    unfold findI
    rw [if_neg (fun e => h (by simp [e])), findI_notmem ss (n + 1) (fun hm => h (by simp [hm]))]
theorem findI_mem {k : Int} : ∀ (ss : List Int) (n : Nat), k ∈ ss → ∃ i, ss[i]? = some k ∧ findI ss k n = ((n + i : Nat) : Int)
  | [], _, h => by simp at h
  | x :: ss, n, h => by
    unfold findI
    by_cases hx : x = k
    · exact ⟨0, by simp [hx], by rw [if_pos hx]; rfl⟩
    · rcases List.mem_cons.1 h with h | h
      · exact absurd h.symm hx
      · obtain ⟨i, h1, h2⟩ := findI_mem ss (n + 1) h
        refine ⟨i + 1, by simpa using h1, ?_⟩
        rw [if_neg hx, h2]
        congr 1
        omega
theorem heldCells_len : ∀ (ss : List Int) (us : List Value), us.length = ss.length → (heldCells ss us).length = 2 * ss.length
  | [], [], _ => rfl
  | [], _ :: _, h => by simp at h
  | _ :: _, [], h => by simp at h
  | s :: ss, u :: us, h => by
    unfold heldCells
    rw [List.length_cons, List.length_cons, heldCells_len ss us (by simpa using h), List.length_cons]
    omega
theorem heldCells_app : ∀ (ss : List Int) (us : List Value) (ss2 : List Int) (us2 : List Value), us.length = ss.length → heldCells (ss ++ ss2) (us ++ us2) = heldCells ss us ++ heldCells ss2 us2
  | [], [], _, _, _ => rfl
  | [], _ :: _, _, _, h => by simp at h
  | _ :: _, [], _, _, h => by simp at h
  | s :: ss, u :: us, ss2, us2, h => by
    show Value.int .i64 s :: u :: heldCells (ss ++ ss2) (us ++ us2) = Value.int .i64 s :: u :: heldCells ss us ++ heldCells ss2 us2
    rw [heldCells_app ss us ss2 us2 (by simpa using h)]
    rfl
theorem heldCells_take : ∀ (ss : List Int) (us : List Value) (i : Nat), us.length = ss.length → (heldCells ss us).take (2 * i) = heldCells (ss.take i) (us.take i)
  | [], [], i, _ => by simp [heldCells]
  | [], _ :: _, _, h => by simp at h
  | _ :: _, [], _, h => by simp at h
  | s :: ss, u :: us, 0, h => by simp [heldCells]
  | s :: ss, u :: us, i + 1, h => by
    rw [show 2 * (i + 1) = 2 * i + 1 + 1 by omega]
    unfold heldCells
    simp only [List.take_succ_cons]
    rw [heldCells_take ss us i (by simpa using h)]
theorem heldCells_drop : ∀ (ss : List Int) (us : List Value) (i : Nat), us.length = ss.length → (heldCells ss us).drop (2 * i) = heldCells (ss.drop i) (us.drop i)
  | [], [], i, _ => by simp [heldCells]
  | [], _ :: _, _, h => by simp at h
  | _ :: _, [], _, h => by simp at h
  | s :: ss, u :: us, 0, h => by simp
  | s :: ss, u :: us, i + 1, h => by
    rw [show 2 * (i + 1) = 2 * i + 1 + 1 by omega]
    conv => lhs; unfold heldCells
    simp only [List.drop_succ_cons]
    exact heldCells_drop ss us i (by simpa using h)
theorem nodup_erase {ss : List Int} (h : ss.Nodup) (i : Nat) : (ss.eraseIdx i).Nodup := List.Nodup.sublist (List.eraseIdx_sublist ss i) h
theorem nodup_snoc {ss : List Int} {s : Int} (h : ss.Nodup) (hs : s ∉ ss) : (ss ++ [s]).Nodup := by
  rw [List.nodup_append]
  exact ⟨h, by simp, fun a ha b hb e => hs (by simp at hb; rw [← hb, ← e]; exact ha)⟩
/-- the run of held messages ends ahead of its bound -/
theorem runD_next {f : Int → Option (List UInt8)} : ∀ (k d : Nat), (runD f k d).length < k → f (((d + (runD f k d).length : Nat) : Int) + 1) = none
  | 0, d, h => by omega
  | k + 1, d, h => by
    cases hf : f ((d : Int) + 1) with
    | none => rw [runD_none hf (by omega)]; exact hf
    | some b =>
      rw [runD_some hf (by omega)] at h ⊢
      rw [List.length_cons, Nat.add_sub_cancel] at h ⊢
      have := runD_next (f := f) k (d + 1) (by omega)
      rw [show d + ((runD f k (d + 1)).length + 1) = d + 1 + (runD f k (d + 1)).length by omega]
      exact this
theorem runD_le (f : Int → Option (List UInt8)) : ∀ (k d : Nat), (runD f k d).length ≤ k
  | 0, d => Nat.le_refl 0
  | k + 1, d => by
    cases hf : f ((d : Int) + 1) with
    | none => rw [runD_none hf (by omega)]; simp
    | some b =>
      rw [runD_some hf (by omega), List.length_cons, Nat.add_sub_cancel]
      have := runD_le f k (d + 1)
      omega
theorem runD_all {f : Int → Option (List UInt8)} : ∀ (k d i : Nat), i < (runD f k d).length → f (((d + i : Nat) : Int) + 1) = (runD f k d)[i]?
  | 0, d, i, h => by simp [runD] at h
  | k + 1, d, i, h => by
    cases hf : f ((d : Int) + 1) with
    | none => rw [runD_none hf (by omega)] at h; simp at h
    | some b =>
      rw [runD_some hf (by omega), Nat.add_sub_cancel] at h ⊢
      cases i with
      | zero => exact hf
      | succ i =>
        rw [List.getElem?_cons_succ, ← runD_all k (d + 1) i (by simpa using h)]
        congr 2
        omega
theorem runD_short {f : Int → Option (List UInt8)} {d : Nat} (hk : ∀ k l, f k = some l → k ≤ (d : Int) + 16) : (runD f 17 d).length ≤ 16 := by
  rcases Nat.lt_or_ge 16 (runD f 17 d).length with h | h
  · have h1 := runD_all 17 d 16 h
    rw [List.getElem?_eq_getElem h] at h1
    have := hk _ _ h1
    omega
  · exact h
end Go.Proofs.Ytbekkndkdfmijaa
