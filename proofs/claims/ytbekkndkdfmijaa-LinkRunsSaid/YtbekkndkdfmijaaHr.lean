/- A load in a region that draws its order, taken first where the last operations wait for it over many steps. No condition; nothing of the program stands here. -/
import Derived.Test.YtbekkndkdfmijaaHq
namespace Go.Proofs.Ytbekkndkdfmijaa
open Go.RowKit
section
variable {P : Program} {ops : Array Oper} {Q : Exit → Act → World → Prop} {md : Region.Mode} {S : World → Prop} {bs : List Nat}
/-- b waits for i, over at most f + 1 steps -/
def waitsF (md : Region.Mode) (ops : Array Oper) : Nat → Nat → Nat → Bool
  | 0, b, i => Region.waitsFor md ops b i
  | f + 1, b, i => Region.waitsFor md ops b i || (List.range ops.size).any fun m => Region.waitsFor md ops b m && waitsF md ops f m i
theorem listed_one {L : Array Bool} {b i : Nat} (inv : HeadInv md ops ops.size L) (h : Region.waitsFor md ops b i = true) (hb : L.getD b false = true) : L.getD i false = true := by
  obtain ⟨o', ho', e, he, hbe, hon⟩ := Region.waitsFor_spec h
  rw [← hon]
  exact inv.closed b o' ho' hb e he hbe
theorem listed_waitsF {L : Array Bool} {i : Nat} (inv : HeadInv md ops ops.size L) : ∀ f b, waitsF md ops f b i = true → L.getD b false = true → L.getD i false = true
  | 0, b, h, hb => listed_one inv h hb
  | f + 1, b, h, hb => by
    unfold waitsF at h
    rcases Bool.or_eq_true_iff.1 h with h | h
    · exact listed_one inv h hb
    · obtain ⟨m, -, hm⟩ := List.any_eq_true.1 h
      obtain ⟨h1, h2⟩ := Bool.and_eq_true_iff.1 hm
      exact listed_waitsF inv f m h2 (listed_one inv h1 hb)
/-- take the load number i first -/
theorem wpBut_takeF (i fuel : Nat) {o : Oper} {v : Value} {f : Nat} {L : Array Bool} {a : Act} {w : World} (hi : ops[i]? = some o) (hB : (takeOk md ops bs L i && bs.all (waitsF md ops fuel · i)) = true)
    (hQ : ∀ c a w, Q (.panic c) (a.put o.dst v) w → Q (.panic c) a w) (hy : Region.wanted o (yielded ops a.tmps) = true ∧ ∀ w, S w → (execOp a.eval o).run P w = .ok (.value v) w) (hS : S w)
    (h : wpBut P md ops Q S bs f (L.setIfInBounds i true) (a.put o.dst v) w) : wpBut P md ops Q S bs (f + 1) L a w := by
  simp only [takeOk, Bool.and_eq_true, Bool.not_eq_true'] at hB
  obtain ⟨⟨⟨⟨⟨h1, h2⟩, h3⟩, h4⟩, h5⟩, h6⟩ := hB
  refine wpBut_first (S' := S) hi (Region.noSelect_spec h1) hQ h5 (fun L w inv hu hS => hS ?_) f L a w (headInv_of h2) (Region.free_spec hi h3) (by simpa using h4) (.inl hy) (fun _ => hS) h
  unfold owes
  rw [List.all_eq_true] at h6 ⊢
  intro b hb
  cases c : L.getD b false with
  | false => rfl
  | true =>
    have := listed_waitsF inv fuel b (h6 b hb) c
    rw [getD_both hu] at this
    cases this
end
end Go.Proofs.Ytbekkndkdfmijaa
