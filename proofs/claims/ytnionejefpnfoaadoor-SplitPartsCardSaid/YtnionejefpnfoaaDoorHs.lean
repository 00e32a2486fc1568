/- A region that draws its order: a call that leaves the world as it is may be taken first, as a load may. No condition; nothing of the program stands here. -/
import Derived.Test.YtnionejefpnfoaaDoorHq
namespace Go.Proofs.YtnionejefpnfoaaDoor
open Go.RowKit

section
variable {P : Program} {ops : Array Oper} {Q : Exit → Act → World → Prop} {md : Region.Mode} {S : World → Prop} {bs : List Nat}

/-- in every world that meets S the call o gives v and leaves the world as it is -/
def GivesC (P : Program) (ops : Array Oper) (S : World → Prop) (o : Oper) (v : Value) (a : Act) : Prop :=
  Region.wanted o (yielded ops a.tmps) = true ∧ ∀ w, S w → ∃ f args, (execOp a.eval o).run P w = .ok (.enter f args) w ∧ Calls P f args w fun E W' => E = .returned v ∧ W' = w
theorem GivesC.of_same {o : Oper} {v : Value} {a a' : Act} (hy : GivesC P ops S o v a) (he : execOp a'.eval o = execOp a.eval o) (hw : Region.wanted o (yielded ops a'.tmps) = Region.wanted o (yielded ops a.tmps)) : GivesC P ops S o v a' := by
  unfold GivesC at *
  rw [he, hw]
  exact hy
theorem GivesC.wpOp {i : Nat} {o : Oper} {v : Value} {a : Act} (hi : ops[i]? = some o) (hy : GivesC P ops S o v a) {K : Act → World → Prop} {w : World} (hS : S w) (h : K (a.put o.dst v) w) : wpOp P ops Q i K a w := by
  unfold Go.wpOp
  simp only [hi]
  obtain ⟨hw, hv⟩ := hy
  obtain ⟨f, args, hr, hc⟩ := hv w hS
  simp only [hw, if_true]
  refine .inl ?_
  unfold Oper.wp
  rw [hr, Oper.upon_enter]
  refine Calls.mono hc fun E W' hE => ?_
  obtain ⟨rfl, rfl⟩ := hE
  exact h
theorem wpOp_putC {j : Nat} {oi oj : Oper} {v : Value} (hj : ops[j]? = some oj) (hap : oi.apart ops oj = true)
    (hsi : ∀ cs b, oi.op ≠ .select cs b) (hsj : ∀ cs b, oj.op ≠ .select cs b)
    (hQ : ∀ c a w, Q (.panic c) (a.put oi.dst v) w → Q (.panic c) a w) {K : Act → World → Prop} {a : Act} {w : World}
    (hy : GivesC P ops S oi v a) (h : wpOp P ops Q j K (a.put oi.dst v) w) :
    wpOp P ops Q j (fun a' w' => GivesC P ops S oi v a' ∧ K (a'.put oi.dst v) w') a w := by
  obtain ⟨h1, h2, h3⟩ := Oper.apart_spec hap
  have keep : ∀ (a : Act), GivesC P ops S oi v a → ∀ u, GivesC P ops S oi v (a.put oj.dst u) := fun a hy u =>
    hy.of_same (execOp_put oi hsi a oj.dst u h3) (wanted_put oi a oj.dst u h3)
  have keepD : ∀ d, GivesC P ops S oi v { a with defers := d :: a.defers } := fun d => hy.of_same rfl rfl
  unfold wpOp at *
  simp only [hj] at *
  rw [wanted_put oj a oi.dst v h1] at h
  split
  · rename_i hw
    simp only [hw, if_true] at h
    rcases h with h | ⟨hasks, hlets⟩
    case inr => exact .inr ⟨by unfold Oper.asks at *; rw [execOp_put oj hsj a oi.dst v h1] at hasks; exact hasks, hlets⟩
    refine .inl ?_
    unfold Oper.wp at *
    rw [execOp_put oj hsj a oi.dst v h1] at h
    generalize (execOp a.eval oj).run P w = r at *
    cases r with
    | ok n w' =>
      cases n <;> simp only [Oper.upon] at h ⊢
      case value u => exact ⟨keep a hy u, by rw [← Act.put_comm a v u h2]; exact h⟩
      case skip => exact ⟨keep a hy _, by rw [← Act.put_comm a v undef h2]; exact h⟩
      case defer d =>
        refine ⟨keep _ (keepD d) _, ?_⟩
        rw [← Act.put_comm _ v undef h2, ← Act.put_defers]
        exact h
      case enter f args =>
        refine Calls.mono h fun e w'' he => ?_
        cases e with
        | returned u => exact ⟨keep a hy u, by rw [← Act.put_comm a v u h2]; exact he⟩
        | panicked c => exact hQ _ _ _ he
        | outgrown => exact he
      case row row args => exact Rows.mono h fun u w'' he => ⟨keep a hy u, by rw [← Act.put_comm a v u h2]; exact he⟩
    | halt x w' =>
      cases x <;> simp only [Oper.upon] at h ⊢
      case panic u => exact hQ _ _ _ h
  · rename_i hw
    simp only [hw] at h
    exact ⟨keep a hy _, by rw [← Act.put_comm a v undef h2]; exact h⟩
theorem wpBut_firstC {S' : World → Prop} {i : Nat} {o : Oper} {v : Value} (hi : ops[i]? = some o) (hsel : ∀ (j : Nat) (o : Oper) cs b, ops[j]? = some o → o.op ≠ .select cs b)
    (hQ : ∀ c a w, Q (.panic c) (a.put o.dst v) w → Q (.panic c) a w) (hib : bs.contains i = false)
    (hS' : ∀ L w, HeadInv md ops ops.size L → L.getD i true = false → (owes bs L = true → S w) → S' w) :
    ∀ (f : Nat) (L : Array Bool) (a : Act) (w : World), HeadInv md ops ops.size L →
      (∀ j oj, ops[j]? = some oj → j ≠ i → L.getD j true = false → (∀ e ∈ oj.after, Region.binds md e = true → e.on ≠ i) → o.apart ops oj = true) →
      i ∈ Region.ready md ops L → GivesC P ops S' o v a → (owes bs L = true → S w) → wpBut P md ops Q S bs f (L.setIfInBounds i true) (a.put o.dst v) w → wpBut P md ops Q S bs (f + 1) L a w := by
  intro f
  induction f with
  | zero =>
    intro L a w inv _ hr hy hS H
    refine ⟨fun h => absurd h (List.ne_nil_of_mem hr), fun j hj => ?_⟩
    by_cases e : j = i
    · subst e
      exact hy.wpOp hi (hS' L w inv (mem_ready.1 hr).1 hS) ⟨fun c => hS (owes_less c), H⟩
    · have := ready_mono hj e
      rw [H.1] at this
      cases this
  | succ f ih =>
    intro L a w inv hfree hr hy hS H
    refine ⟨fun h => absurd h (List.ne_nil_of_mem hr), fun j hj => ?_⟩
    by_cases e : j = i
    · subst e
      exact hy.wpOp hi (hS' L w inv (mem_ready.1 hr).1 hS) ⟨fun c => hS (owes_less c), H⟩
    · obtain ⟨hu, oj, hoj, hall⟩ := mem_ready.1 hj
      have hno : ∀ e ∈ oj.after, Region.binds md e = true → e.on ≠ i := fun e he hb k => by
        have := hall e he hb
        rw [k, getD_both (mem_ready.1 hr).1] at this
        cases this
      refine wpOp_mono (fun a' w' k => ?_) (wpOp_putC hoj (hfree j oj hoj e hu hno) (fun cs b => hsel i o cs b hi) (fun cs b => hsel j oj cs b hoj) hQ hy (H.2 j (ready_mono hj e)))
      have hS2 : owes bs (L.setIfInBounds j true) = true → S w' := fun c => k.2.1 (by rw [Array.setIfInBounds_comm _ _ (Ne.symm e)]; exact owes_set hib c)
      refine ⟨hS2, ih _ a' w' (inv.set hj (Array.getElem?_eq_some_iff.1 hoj).1) (fun m om hm hmi hmu hmo => hfree m om hm hmi ?_ hmo) (ready_mono hr (Ne.symm e)) k.1 hS2 ?_⟩
      · by_cases c : j = m
        · subst c; exact hu
        · rwa [getD_set_ne true c] at hmu
      · rw [Array.setIfInBounds_comm _ _ e]
        exact k.2.2
/-- take the call number i first -/
theorem wpBut_call (i : Nat) {o : Oper} {v : Value} {f : Nat} {L : Array Bool} {a : Act} {w : World} (hi : ops[i]? = some o) (hB : (takeOk md ops bs L i && bs.all (waits2 md ops · i)) = true)
    (hQ : ∀ c a w, Q (.panic c) (a.put o.dst v) w → Q (.panic c) a w) (hy : GivesC P ops S o v a) (hS : S w)
    (h : wpBut P md ops Q S bs f (L.setIfInBounds i true) (a.put o.dst v) w) : wpBut P md ops Q S bs (f + 1) L a w := by
  simp only [takeOk, Bool.and_eq_true, Bool.not_eq_true'] at hB
  obtain ⟨⟨⟨⟨⟨h1, h2⟩, h3⟩, h4⟩, h5⟩, h6⟩ := hB
  refine wpBut_firstC (S' := S) hi (Region.noSelect_spec h1) hQ h5 (fun L w inv hu hS => hS ?_) f L a w (headInv_of h2) (Region.free_spec hi h3) (by simpa using h4) hy (fun _ => hS) h
  unfold owes
  rw [List.all_eq_true] at h6 ⊢
  intro b hb
  cases c : L.getD b false with
  | false => rfl
  | true =>
    have := listed_waits inv (h6 b hb) c
    rw [getD_both hu] at this
    cases this
/-- numbers i and j alone may come up -/
theorem wpBut_two (i j : Nat) {oi oj : Oper} {f : Nat} {L : Array Bool} {a : Act} {w : World} (hi : ops[i]? = some oi) (hj : ops[j]? = some oj) (hr : Region.ready md ops L = [i, j])
    (h1 : ∀ K' : Act → World → Prop, Shut (∀ a w, S w → (S w → wpBut P md ops Q S bs f (L.setIfInBounds i true) a w) → K' a w) → if Region.wanted oi (yielded ops a.tmps) = true then Oper.wp P oi a w K' Q else K' (a.put oi.dst undef) w)
    (h2 : ∀ K' : Act → World → Prop, Shut (∀ a w, S w → (S w → wpBut P md ops Q S bs f (L.setIfInBounds j true) a w) → K' a w) → if Region.wanted oj (yielded ops a.tmps) = true then Oper.wp P oj a w K' Q else K' (a.put oj.dst undef) w) :
    wpBut P md ops Q S bs (f + 1) L a w := by
  refine ⟨fun e => (by rw [hr] at e; cases e), fun k hk => ?_⟩
  rw [hr] at hk
  simp only [List.mem_cons, List.not_mem_nil, or_false] at hk
  rcases hk with rfl | rfl
  · exact wpOp_step hi fun K' hK => h1 K' fun a w hs hw => hK a w ⟨fun _ => hs, hw hs⟩
  · exact wpOp_step hj fun K' hK => h2 K' fun a w hs hw => hK a w ⟨fun _ => hs, hw hs⟩
/-- another condition that says more -/
theorem wpBut_imp {S2 : World → Prop} (hS : ∀ w, S2 w → S w) : ∀ f L a w, wpBut P md ops Q S2 bs f L a w → wpBut P md ops Q S bs f L a w
  | 0, _, _, _, h => h
  | f + 1, _, _, _, h => ⟨h.1, fun i hi => wpOp_mono (fun a' w' k => ⟨fun c => hS _ (k.1 c), wpBut_imp hS f _ a' w' k.2⟩) (h.2 i hi)⟩
/-- nothing is left -/
theorem wpBut_done {f : Nat} {L : Array Bool} {a : Act} {w : World} (hr : Region.ready md ops L = []) (h : Q .normal a w) : wpBut P md ops Q S bs f L a w := by
  cases f with
  | zero => exact ⟨hr, h⟩
  | succ f => exact ⟨fun _ => h, fun i hi => by rw [hr] at hi; cases hi⟩
end
end Go.Proofs.YtnionejefpnfoaaDoor
