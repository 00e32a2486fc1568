/- LinkRuns: what each call does to the whole state. No condition but sizes. -/
import Derived.Test.YtbekkndkdfmijaaMp
import Derived.Test.YtbekkndkdfmijaaMn
set_option linter.unusedSimpArgs false
set_option linter.unusedVariables false
namespace Go.Proofs.Ytbekkndkdfmijaa
open Go.RowKit Go

section
variable {w W : World} {col : Nat → Nat} {eb mb N k key i : Nat} {g h r : Nat → Nat} {E F : Nat → EndV} {S : Nat → List (List UInt8)} {P : List (List UInt8)} {T : List Int} {vp vt : Value} {A : Option Addr} {n c : Nat} {l : List UInt8}
theorem mid_send (M : Mid w col W eb g h mb r N E F S P T vp vt) (hk : k < 2) (hl : Reads W W.heap.size 1 A n (bytesV l)) (hn : n ≤ 65536) (hw : (E k).wait.length < 1000) :
    Calls Try.prog 11 #[.pointer (some ⟨g k, 0, none⟩), .slice A n c] W fun e W' => e = .returned (.int .i64 0) ∧ Hid (Mid w (recol col W.heap.size k) W' eb g h mb r N (upd E k { E k with wait := (E k).wait ++ [l] }) F S P T vp vt) ∧ Chg w col k W W' := by
  obtain ⟨q, HE, hc⟩ := M.sys.ends k hk
  refine (send_any (g k) (h k) N q (E k) A n c l W HE hl hn hw).mono ?_
  rintro e W' ⟨q', rfl, H6, hq6, F6⟩
  obtain ⟨hH, hC⟩ := EndOk.step HE hc M.sys.bel.size H6 F6 hq6
  exact ⟨rfl, Lib.hid (M.prog hk hH hC (Nat.le_refl _)), hC⟩
theorem mid_rsend (M : Mid w col W eb g h mb r N E F S P T vp vt) (hk : k < 2) (hl : Sl W (.slice A n c) l) (hn : n ≤ 65536) (hw : (F k).wait.length < 1000) (hS : (S k).length ≤ 100000) :
    Calls Try.prog 12 #[.pointer (some ⟨r k, 0, none⟩), .slice A n c] W fun e W' => e = .returned (.int .i64 0) ∧ Hid (Mid w (recol col W.heap.size (2 + k)) W' eb g h mb r N E (upd F k { F k with wait := (F k).wait ++ [l] }) (upd S k (S k ++ [l])) P T vp vt) ∧ Chg w col (2 + k) W W' := by
  obtain ⟨vS, vH, ss, bs, H, h2, hc⟩ := M.refs k hk
  refine (rSend_any H hl hn hw hS M.sys.bel.size).mono ?_
  rintro e W' ⟨vS', rfl, H', hv, f⟩
  obtain ⟨hH, hC⟩ := RefOk.step H hc M.sys.bel.size H' h2 (f.mono fun i hi => by simp at hi ⊢; rcases hi with hi | hi <;> simp [hi]) hv (.inl rfl)
  exact ⟨rfl, Lib.hid (M.ref hk hH hC (Nat.le_refl _)), hC⟩
theorem mid_out (M : Mid w col W eb g h mb r N E F S P T vp vt) (hk : k < 2) (I : EndR key (E k) (S k) i) (hi : i ≤ 1000) (hkey : key < 18446744073709551616) :
    Calls Try.prog 13 #[.pointer (some ⟨g k, 0, none⟩)] W fun e W' => ∃ A' d', e = .returned (.slice A' (outF (E k)).length d') ∧ Hid (Mid w (recol col W.heap.size k) W' eb g h mb r N (upd E k { E k with owe := false }) F S P T vp vt) ∧ Hid (RowAt w (recol col W.heap.size k) W' k (.slice A' (outF (E k)).length d') (outF (E k))) ∧ Chg w col k W W' := by
  obtain ⟨q, HE, hc⟩ := M.sys.ends k hk
  have h1 := I.waitLen
  have h2 := I.slen
  have h3 := I.got
  have h4 := I.ack
  refine (out_any (g k) (h k) N q (E k) W HE (by omega) (by omega) (by rw [I.key]; exact hkey) I.win0 I.win (fun m hm => by have := I.msgs m (by rw [I.wait] at hm; exact List.mem_of_mem_drop hm); omega) (by omega)).mono ?_
  rintro e W' ⟨v, vs, rfl, ho, hr, H6, F6⟩
  obtain ⟨hH, hC⟩ := EndOk.step HE hc M.sys.bel.size H6 (F6.mono (fun i hi => by simp at hi; simp [hi])) (.inl rfl)
  have hR := RowAt.of_own (w := w) (col := col) ho hr M.sys.bel.size W.heap.size (Nat.le_refl _) k
  obtain ⟨A', d', rfl, -⟩ := hR.form
  exact ⟨A', d', rfl, Lib.hid (M.prog hk hH hC (Nat.le_refl _)), Lib.hid hR, hC⟩
theorem mid_rout (M : Mid w col W eb g h mb r N E F S P T vp vt) (hk : k < 2) (I : EndR key (F k) (S k) i) (hi : i ≤ 1000) (hkey : key < 18446744073709551616) :
    Calls Try.prog 14 #[.pointer (some ⟨r k, 0, none⟩)] W fun e W' => ∃ A' d', e = .returned (.slice A' (outF (F k)).length d') ∧ Hid (Mid w (recol col W.heap.size (2 + k)) W' eb g h mb r N E (upd F k { F k with owe := false }) S P T vp vt) ∧ Hid (RowAt w (recol col W.heap.size (2 + k)) W' (2 + k) (.slice A' (outF (F k)).length d') (outF (F k))) ∧ Chg w col (2 + k) W W' := by
  obtain ⟨vS, vH, ss, bs, H, h2, hc⟩ := M.refs k hk
  refine (rOut_any H I hi hkey).mono ?_
  rintro e W' ⟨v, vs, rfl, ho, hr, H', f⟩
  obtain ⟨hH, hC⟩ := RefOk.step H hc M.sys.bel.size H' h2 (f.mono fun i hi => by simp at hi; simp [hi]) (.inl rfl) (.inl rfl)
  have hR := RowAt.of_own (w := w) (col := col) ho hr M.sys.bel.size W.heap.size (Nat.le_refl _) (2 + k)
  obtain ⟨A', d', rfl, -⟩ := hR.form
  have hM := M.ref hk hH hC (Nat.le_refl _)
  rw [show upd S k (S k) = S by funext j; unfold upd; split <;> simp_all] at hM
  exact ⟨A', d', rfl, Lib.hid hM, Lib.hid hR, hC⟩
theorem mid_in (M : Mid w col W eb g h mb r N E F S P T vp vt) (hk : k < 2) (I : EndR key (E k) (S k) i) (hi : i ≤ 1000) (hN : N ≤ 1000) (hkey : key < 18446744073709551616) (hl : Reads W W.heap.size 1 A n (bytesV l)) (hn : n ≤ 100000) (hnc : n ≤ c) :
    Calls Try.prog 19 #[.pointer (some ⟨g k, 0, none⟩), .slice A n c] W fun e W' => ∃ A' d', e = .returned (.tuple #[.slice A' (inF (E k) l).1.length d', .int .i64 ((inF (E k) l).2.1 : Int)]) ∧ Hid (Mid w (recol col W.heap.size k) W' eb g h mb r (N + 1) (upd E k (inF (E k) l).2.2) F S P T vp vt) ∧ Hid (RowAt w (recol col W.heap.size k) W' k (.slice A' (inF (E k) l).1.length d') (inF (E k) l).1) ∧ Chg w col k W W' := by
  obtain ⟨q, HE, hc⟩ := M.sys.ends k hk
  have h1 := I.waitLen
  have h2 := I.slen
  have h3 := I.got
  have h4 := I.ack
  have h5 := I.forg
  refine (in_any (g k) (h k) N q (E k) A n c l W HE hl hn hnc (by rw [I.key]; exact hkey) (by omega) (by omega) (by omega) (by omega) (by omega) (fun s b hs => (I.held s b hs).2.1)).mono ?_
  rintro e W' ⟨v, vs, rfl, ho, hr, H6, F6⟩
  obtain ⟨hH, hC⟩ := EndOk.step HE hc M.sys.bel.size H6 F6 (.inl rfl)
  have hR := RowAt.of_own (w := w) (col := col) ho hr M.sys.bel.size W.heap.size (Nat.le_refl _) k
  obtain ⟨A', d', rfl, -⟩ := hR.form
  exact ⟨A', d', rfl, Lib.hid (M.prog hk hH hC (Nat.le_succ _)), Lib.hid hR, hC⟩
theorem mid_rin (M : Mid w col W eb g h mb r N E F S P T vp vt) (hk : k < 2) (I : EndR key (F k) (S k) i) (hi : i ≤ 1000) (hN : N ≤ i) (hkey : key < 18446744073709551616) (hl : Reads W W.heap.size 1 A n (bytesV l)) (hn : n ≤ 100000) (hnc : n ≤ c) :
    Calls Try.prog 20 #[.pointer (some ⟨r k, 0, none⟩), .slice A n c] W fun e W' => ∃ A' d', e = .returned (.tuple #[.slice A' (inF (F k) l).1.length d', .int .i64 ((inF (F k) l).2.1 : Int)]) ∧ Hid (Mid w (recol col W.heap.size (2 + k)) W' eb g h mb r (N + 1) E (upd F k (inF (F k) l).2.2) S P T vp vt) ∧ Hid (RowAt w (recol col W.heap.size (2 + k)) W' (2 + k) (.slice A' (inF (F k) l).1.length d') (inF (F k) l).1) ∧ Chg w col (2 + k) W W' := by
  obtain ⟨vS, vH, ss, bs, H, h2, hc⟩ := M.refs k hk
  refine (rIn_any H I hi hkey (by omega) hl hn hnc M.sys.bel.size).mono ?_
  rintro e W' ⟨v, vs, vH', ss', bs', rfl, ho, hr, H', hs, hv, f⟩
  obtain ⟨hH, hC⟩ := RefOk.step (n' := N + 1) H hc M.sys.bel.size H' (by omega) f (.inl rfl) hv
  have hR := RowAt.of_own (w := w) (col := col) ho hr M.sys.bel.size W.heap.size (Nat.le_refl _) (2 + k)
  obtain ⟨A', d', rfl, -⟩ := hR.form
  have hM := M.ref hk hH hC (Nat.le_succ _)
  rw [show upd S k (S k) = S by funext j; unfold upd; split <;> simp_all] at hM
  exact ⟨A', d', rfl, Lib.hid hM, Lib.hid hR, hC⟩
end
/-- the numbers behind the state -/
structure RunI (key i : Nat) (E : Nat → EndV) (S : Nat → List (List UInt8)) (P : List (List UInt8)) (T : List Int) : Prop where
  ends : ∀ k, k < 2 → EndR key (E k) (S k) i
  tlen : T.length = P.length
  plen : P.length ≤ 16 * i
  pk : ∀ p ∈ P, 12 ≤ p.length ∧ p.length ≤ 1000
  tk : ∀ (j : Nat) (t : Int), T[j]? = some t → t = 0 ∨ t = 1
section
variable {key i : Nat} {E : Nat → EndV} {S : Nat → List (List UInt8)} {P : List (List UInt8)} {T : List Int} {k : Nat}
theorem RunI.up (I : RunI key i E S P T) : RunI key (i + 1) E S P T :=
  ⟨fun k hk => (I.ends k hk).up (Nat.le_succ i), I.tlen, by have := I.plen; omega, I.pk, I.tk⟩
theorem RunI.send (I : RunI key i E S P T) (hk : k < 2) {b : List UInt8} (hb : b.length ≤ 100) : RunI key (i + 1) (upd E k { E k with wait := (E k).wait ++ [b] }) (upd S k (S k ++ [b])) P T := by
  refine ⟨fun j hj => ?_, I.tlen, by have := I.plen; omega, I.pk, I.tk⟩
  by_cases e : j = k
  · subst e
    rw [upd_at, upd_at]
    exact (I.ends j hj).send hb
  · rw [upd_ne _ _ e, upd_ne _ _ e]
    exact (I.ends j hj).up (Nat.le_succ i)
theorem RunI.end_ (I : RunI key i E S P T) (hk : k < 2) {E' : EndV} (h : EndR key E' (S k) (i + 1)) : RunI key (i + 1) (upd E k E') S P T := by
  refine ⟨fun j hj => ?_, I.tlen, by have := I.plen; omega, I.pk, I.tk⟩
  by_cases e : j = k
  · subst e
    rw [upd_at]
    exact h
  · rw [upd_ne _ _ e]
    exact (I.ends j hj).up (Nat.le_succ i)
theorem RunI.packet (I : RunI key i E S P T) {p : List UInt8} {t : Int} (hp : 12 ≤ p.length ∧ p.length ≤ 1000) (ht : t = 0 ∨ t = 1) (hl : P.length + 1 ≤ 16 * i) : RunI key i E S (P ++ [p]) (T ++ [t]) := by
  have hT := I.tlen
  refine ⟨I.ends, by simp; omega, by simp; omega, fun q hq => ?_, fun j s hs => ?_⟩
  · rcases List.mem_append.1 hq with hq | hq
    · exact I.pk q hq
    · simp at hq; rw [hq]; exact hp
  · by_cases hj : j < T.length
    · rw [List.getElem?_append_left hj] at hs
      exact I.tk j s hs
    · have : j = T.length := by
        have := (List.getElem?_eq_some_iff.1 hs).1
        simp at this
        omega
      subst this
      simp at hs
      rw [← hs]
      exact ht
end
end Go.Proofs.Ytbekkndkdfmijaa
