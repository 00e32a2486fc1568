/- A region that draws its order and whose loads are written by its own last stores: the loads are taken first under a condition S on the world, which is owed behind every operation but those stores. No condition; nothing of the program stands here. -/
import Derived.Deep.RegionHeld3
import Derived.StillTail
import Derived.WalkKit
namespace Go.Proofs.YtnionejefpnfoaaDoor
open Go.RowKit

section
variable {P : Program} {ops : Array Oper} {Q : Exit → Act → World → Prop} {md : Region.Mode} {S : World → Prop} {bs : List Nat}

/-- none of the last stores has come up -/
def owes (bs : List Nat) (L : Array Bool) : Bool := bs.all fun b => !L.getD b false
theorem owes_less {L : Array Bool} {i : Nat} (h : owes bs (L.setIfInBounds i true) = true) : owes bs L = true := by
  unfold owes at h ⊢
  rw [List.all_eq_true] at h ⊢
  intro b hb
  have := h b hb
  cases c : L.getD b false with
  | false => rfl
  | true => rw [getD_set_true c] at this; cases this
theorem owes_set {L : Array Bool} {i : Nat} (hi : bs.contains i = false) (h : owes bs L = true) : owes bs (L.setIfInBounds i true) = true := by
  unfold owes at h ⊢
  rw [List.all_eq_true] at h ⊢
  intro b hb
  have hne : i ≠ b := by
    rintro rfl
    have : bs.contains i = true := by simpa using hb
    rw [hi] at this
    cases this
  rw [getD_set_ne false hne]
  exact h b hb
/-- whatever order is picked; S behind each operation ahead of the last stores -/
def wpBut (P : Program) (md : Region.Mode) (ops : Array Oper) (Q : Exit → Act → World → Prop) (S : World → Prop) (bs : List Nat) : Nat → Array Bool → Act → World → Prop
  | 0, L, a, w => Region.ready md ops L = [] ∧ Q .normal a w
  | f + 1, L, a, w => (Region.ready md ops L = [] → Q .normal a w) ∧ ∀ i ∈ Region.ready md ops L, wpOp P ops Q i (fun a' w' => (owes bs (L.setIfInBounds i true) = true → S w') ∧ wpBut P md ops Q S bs f (L.setIfInBounds i true) a' w') a w

theorem wpAny_of_but : ∀ f L a w, wpBut P md ops Q S bs f L a w → wpAny P md ops Q f L a w
  | 0, _, _, _, h => h
  | f + 1, _, _, _, h => ⟨h.1, fun i hi => wpOp_mono (fun a' w' k => wpAny_of_but f _ a' w' k.2) (h.2 i hi)⟩
theorem wpBut_of_any : ∀ f L a w, (∀ i ∈ Region.ready md ops L, owes bs (L.setIfInBounds i true) = false) → wpAny P md ops Q f L a w → wpBut P md ops Q S bs f L a w
  | 0, _, _, _, _, h => h
  | f + 1, L, a, w, ho, h => ⟨h.1, fun i hi => wpOp_mono (fun a' w' k => ⟨fun c => by rw [ho i hi] at c; (cases c), wpBut_of_any f _ a' w' (fun j _ => by
      cases c : owes bs ((L.setIfInBounds i true).setIfInBounds j true) with
      | false => rfl
      | true => have := owes_less c; rw [ho i hi] at this; cases this) k⟩) (h.2 i hi)⟩

/-- what holds of the listed ones, as a Bool -/
def headOk (md : Region.Mode) (ops : Array Oper) (L : Array Bool) : Bool :=
  L.size == ops.size && ((List.range ops.size).all fun j => !L.getD j false || ((ops[j]?).map (·.after.all fun e => !Region.binds md e || L.getD e.on false)).getD true)
theorem headInv_of {L : Array Bool} (h : headOk md ops L = true) : HeadInv md ops ops.size L := by
  simp only [headOk, Bool.and_eq_true, beq_iff_eq, List.all_eq_true, List.mem_range] at h
  obtain ⟨h1, h2⟩ := h
  refine ⟨h1, fun j oj hj hl e he hb => ?_, fun t ht ht' => absurd ht' (by omega)⟩
  have := h2 j (Array.getElem?_eq_some_iff.1 hj).1
  rw [hl, hj] at this
  simp only [Bool.not_true, Option.map_some, Option.getD_some, Bool.false_or, Array.all_eq_true_iff_forall_mem] at this
  have h4 := this e he
  rw [hb] at h4
  simpa using h4
/-- b waits for i, by one step or two -/
def waits2 (md : Region.Mode) (ops : Array Oper) (b i : Nat) : Bool := Region.waitsFor md ops b i || (List.range ops.size).any fun m => Region.waitsFor md ops b m && Region.waitsFor md ops m i
theorem listed_waits {L : Array Bool} {b i : Nat} (inv : HeadInv md ops ops.size L) (h : waits2 md ops b i = true) (hb : L.getD b false = true) : L.getD i false = true := by
  have one : ∀ m, Region.waitsFor md ops b m = true → L.getD m false = true := fun m hm => by
    obtain ⟨o', ho', e, he, hbe, hon⟩ := Region.waitsFor_spec hm
    rw [← hon]
    exact inv.closed b o' ho' hb e he hbe
  rcases Bool.or_eq_true_iff.1 h with h | h
  · exact one i h
  · obtain ⟨m, -, hm⟩ := List.any_eq_true.1 h
    obtain ⟨h1, h2⟩ := Bool.and_eq_true_iff.1 hm
    obtain ⟨om, hom, e, he, hbe, hon⟩ := Region.waitsFor_spec h2
    rw [← hon]
    exact inv.closed m om hom (one m h1) e he hbe

theorem wpBut_first {S' : World → Prop} {i : Nat} {o : Oper} {v : Value} (hi : ops[i]? = some o) (hsel : ∀ (j : Nat) (o : Oper) cs b, ops[j]? = some o → o.op ≠ .select cs b)
    (hQ : ∀ c a w, Q (.panic c) (a.put o.dst v) w → Q (.panic c) a w) (hib : bs.contains i = false)
    (hS' : ∀ L w, HeadInv md ops ops.size L → L.getD i true = false → (owes bs L = true → S w) → S' w) :
    ∀ (f : Nat) (L : Array Bool) (a : Act) (w : World), HeadInv md ops ops.size L →
      (∀ j oj, ops[j]? = some oj → j ≠ i → L.getD j true = false → (∀ e ∈ oj.after, Region.binds md e = true → e.on ≠ i) → o.apart ops oj = true) →
      i ∈ Region.ready md ops L → YieldsIf P ops S' o v a → (owes bs L = true → S w) → wpBut P md ops Q S bs f (L.setIfInBounds i true) (a.put o.dst v) w → wpBut P md ops Q S bs (f + 1) L a w := by
  intro f
  induction f with
  | zero =>
    intro L a w inv _ hr hy hS H
    refine ⟨fun h => absurd h (List.ne_nil_of_mem hr), fun j hj => ?_⟩
    by_cases e : j = i
    · subst e
      exact hy.wpOp hi (hS' L w inv (mem_ready.1 hr).1 hS) ⟨fun c => hS (owes_less c), H⟩
    · have := ready_mono hj e
      rw [H.1] at this
      cases this
  | succ f ih =>
    intro L a w inv hfree hr hy hS H
    refine ⟨fun h => absurd h (List.ne_nil_of_mem hr), fun j hj => ?_⟩
    by_cases e : j = i
    · subst e
      exact hy.wpOp hi (hS' L w inv (mem_ready.1 hr).1 hS) ⟨fun c => hS (owes_less c), H⟩
    · obtain ⟨hu, oj, hoj, hall⟩ := mem_ready.1 hj
      have hno : ∀ e ∈ oj.after, Region.binds md e = true → e.on ≠ i := fun e he hb k => by
        have := hall e he hb
        rw [k, getD_both (mem_ready.1 hr).1] at this
        cases this
      refine wpOp_mono (fun a' w' k => ?_) (wpOp_putIf hoj (hfree j oj hoj e hu hno) (fun cs b => hsel i o cs b hi) (fun cs b => hsel j oj cs b hoj) hQ hy (H.2 j (ready_mono hj e)))
      have hS2 : owes bs (L.setIfInBounds j true) = true → S w' := fun c => k.2.1 (by rw [Array.setIfInBounds_comm _ _ (Ne.symm e)]; exact owes_set hib c)
      refine ⟨hS2, ih _ a' w' (inv.set hj (Array.getElem?_eq_some_iff.1 hoj).1) (fun m om hm hmi hmu hmo => hfree m om hm hmi ?_ hmo) (ready_mono hr (Ne.symm e)) k.1 hS2 ?_⟩
      · by_cases c : j = m
        · subst c; exact hu
        · rwa [getD_set_ne true c] at hmu
      · rw [Array.setIfInBounds_comm _ _ e]
        exact k.2.2

/-- the closed facts at a take -/
def takeOk (md : Region.Mode) (ops : Array Oper) (bs : List Nat) (L : Array Bool) (i : Nat) : Bool :=
  Region.noSelect ops && headOk md ops L && Region.free md ops L i && (Region.ready md ops L).contains i && !bs.contains i
/-- take the load number i first -/
theorem wpBut_take (i : Nat) {o : Oper} {v : Value} {f : Nat} {L : Array Bool} {a : Act} {w : World} (hi : ops[i]? = some o) (hB : (takeOk md ops bs L i && bs.all (waits2 md ops · i)) = true)
    (hQ : ∀ c a w, Q (.panic c) (a.put o.dst v) w → Q (.panic c) a w) (hy : Region.wanted o (yielded ops a.tmps) = true ∧ ∀ w, S w → (execOp a.eval o).run P w = .ok (.value v) w) (hS : S w)
    (h : wpBut P md ops Q S bs f (L.setIfInBounds i true) (a.put o.dst v) w) : wpBut P md ops Q S bs (f + 1) L a w := by
  simp only [takeOk, Bool.and_eq_true, Bool.not_eq_true'] at hB
  obtain ⟨⟨⟨⟨⟨h1, h2⟩, h3⟩, h4⟩, h5⟩, h6⟩ := hB
  refine wpBut_first (S' := S) hi (Region.noSelect_spec h1) hQ h5 (fun L w inv hu hS => hS ?_) f L a w (headInv_of h2) (Region.free_spec hi h3) (by simpa using h4) (.inl hy) (fun _ => hS) h
  unfold owes
  rw [List.all_eq_true] at h6 ⊢
  intro b hb
  cases c : L.getD b false with
  | false => rfl
  | true =>
    have := listed_waits inv (h6 b hb) c
    rw [getD_both hu] at this
    cases this
/-- take number i first, which yields in whatever world -/
theorem wpBut_pure (i : Nat) {o : Oper} {v : Value} {f : Nat} {L : Array Bool} {a : Act} {w : World} (hi : ops[i]? = some o) (hB : takeOk md ops bs L i = true)
    (hQ : ∀ c a w, Q (.panic c) (a.put o.dst v) w → Q (.panic c) a w) (hy : Region.wanted o (yielded ops a.tmps) = true ∧ ∀ w, (execOp a.eval o).run P w = .ok (.value v) w) (hS : owes bs L = true → S w)
    (h : wpBut P md ops Q S bs f (L.setIfInBounds i true) (a.put o.dst v) w) : wpBut P md ops Q S bs (f + 1) L a w := by
  simp only [takeOk, Bool.and_eq_true, Bool.not_eq_true'] at hB
  obtain ⟨⟨⟨⟨h1, h2⟩, h3⟩, h4⟩, h5⟩ := hB
  exact wpBut_first (S' := fun _ => True) hi (Region.noSelect_spec h1) hQ h5 (fun _ _ _ _ _ => trivial) f L a w (headInv_of h2) (Region.free_spec hi h3) (by simpa using h4) (.inl ⟨hy.1, fun w _ => hy.2 w⟩) hS h
/-- number i alone may come up -/
theorem wpBut_one (i : Nat) {o : Oper} {f : Nat} {L : Array Bool} {a : Act} {w : World} (hi : ops[i]? = some o) (hr : Region.ready md ops L = [i])
    (h : ∀ K' : Act → World → Prop, Shut (∀ a w, S w → (S w → wpBut P md ops Q S bs f (L.setIfInBounds i true) a w) → K' a w) → if Region.wanted o (yielded ops a.tmps) = true then Oper.wp P o a w K' Q else K' (a.put o.dst undef) w) :
    wpBut P md ops Q S bs (f + 1) L a w := by
  refine ⟨fun e => (by rw [hr] at e; cases e), fun j hj => ?_⟩
  rw [hr] at hj
  obtain rfl : j = i := by simpa using hj
  exact wpOp_step hi fun K' hK => h K' fun a w hs hw => hK a w ⟨fun _ => hs, hw hs⟩
/-- the last stores, in the order of the text -/
theorem wpBut_seq {l : List Oper} (k : Nat) {g : Nat} {L : Array Bool} {a : Act} {w : World} (hk : bs.contains k = true) (hL : k < L.size) (hg : (l.drop k).length = g + 1) (hB : Region.seqB md l.toArray (g + 1) k L = true) (h : wpList P l.toArray Q (l.drop k) a w) : wpBut P md l.toArray Q S bs (g + 1) L a w := by
  have h0 := wpAny_of_seq (md := md) (ops := l.toArray) (Q' := Q) (l.drop k) k L a w (fun j => by simp [List.getElem?_drop]) (by rw [hg]; exact hB) h
  rw [hg] at h0
  refine wpBut_of_any _ _ _ _ (fun i hi => ?_) h0
  simp only [Region.seqB, Bool.and_eq_true, decide_eq_true_eq] at hB
  rw [hB.1] at hi
  obtain rfl : i = k := by simpa using hi
  have hk' : i ∈ bs := by simpa using hk
  cases c : owes bs (L.setIfInBounds i true) with
  | false => rfl
  | true =>
    have := List.all_eq_true.1 c i hk'
    simp [hL] at this
/-- the beginning -/
theorem wp_region_but {id : Nat} {a : Act} {w : World} (S : World → Prop) (bs : List Nat) (hm : P.follows .mixedOrders = true) (hS : S w.drew)
    (h : S w.drew → wpBut P .any ops Q S bs ops.size (Array.replicate ops.size false) a w.drew) : (Code.region id ops true).wp P Q a w :=
  wp_region_any hm (wpAny_of_but _ _ _ _ (h hS))
end
end Go.Proofs.YtnionejefpnfoaaDoor
