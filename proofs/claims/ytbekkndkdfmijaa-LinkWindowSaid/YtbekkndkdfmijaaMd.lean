/- In, Out, Copy, New by colours; the packets of an acknowledgement. No condition but sizes. -/
import Derived.Test.YtbekkndkdfmijaaMb
set_option linter.unusedSimpArgs false
set_option linter.unusedVariables false
namespace Go.Proofs.Ytbekkndkdfmijaa
open Go.RowKit Go

section
variable {w W : World} {col : Nat → Nat} {k g h N : Nat} {E : EndV}
theorem in_ok {A : Option Addr} {n c : Nat} {l : List UInt8} {x : List (List UInt8)} {E' : EndV} (H : EndOk w col W k g h N E) (hB : Below w.heap.size w W) (hF : inF E l = (x, 0, E')) (hl : Reads W W.heap.size 1 A n (bytesV l)) (hn : n ≤ 100000) (hnc : n ≤ c) (hkey : E.key < 18446744073709551616)
    (hack : E.ack ≤ 1000000) (hgot : E.got ≤ 1000000) (hforg : E.forg ≤ 1000000) (hwl : E.wait.length ≤ 1000) (hN : N ≤ 1000) (hkeys : ∀ k l, E.held k = some l → k ≤ (E.got : Int) + 16) :
    Calls Try.prog 19 #[.pointer (some ⟨g, 0, none⟩), .slice A n c] W fun e W' => ∃ A' d', e = .returned (.tuple #[.slice A' x.length d', .int .i64 0]) ∧ Hid (EndOk w (recol col W.heap.size k) W' k g h (N + 1) E' ∧ Chg w col k W W' ∧ Below w.heap.size w W') := by
  obtain ⟨q, HE, hc⟩ := H
  refine (in_any g h N q E A n c l W HE hl hn hnc hkey hack hgot hforg hwl (by omega) hkeys).mono ?_
  rintro e W' ⟨v, vs, rfl, ho, hr, H', F⟩
  rw [hF] at hr H' ⊢
  obtain ⟨hH, hC⟩ := EndOk.step HE hc hB.size H' F (.inl rfl)
  have hl2 := hr.1
  obtain ⟨A', d', rfl, -, -, -⟩ := own_slice ho
  rw [hl2]
  exact ⟨A', d', rfl, Lib.hid ⟨hH, hC, hC.bel hB⟩⟩
theorem out_ok (H : EndOk w col W k g h N E) (hB : Below w.heap.size w W) (hkey : E.key < 18446744073709551616) (hack : E.ack ≤ 1000000) (hgot : E.got ≤ 1000000) (hw0 : 1 ≤ E.win) (hw : E.win ≤ 16) (hmsg : ∀ l ∈ E.wait, l.length ≤ 1000) (hwl : E.wait.length ≤ 1000) :
    Calls Try.prog 13 #[.pointer (some ⟨g, 0, none⟩)] W fun e W' => ∃ A d, e = .returned (.slice A (outF E).length d) ∧ Hid (EndOk w (recol col W.heap.size k) W' k g h N { E with owe := false } ∧ Chg w col k W W' ∧ Below w.heap.size w W') ∧ Hid (RowAt w (recol col W.heap.size k) W' k (.slice A (outF E).length d) (outF E)) := by
  obtain ⟨q, HE, hc⟩ := H
  refine (out_any g h N q E W HE hack hgot hkey hw0 hw hmsg hwl).mono ?_
  rintro e W' ⟨v, vs, rfl, ho, hr, H', F⟩
  obtain ⟨hH, hC⟩ := EndOk.step HE hc hB.size H' (F.mono (fun i hi => by simp at hi; simp [hi])) (.inl rfl)
  have hR := RowAt.of_own (w := w) (col := col) ho hr hB.size W.heap.size (Nat.le_refl _) k
  obtain ⟨A, d, rfl, -⟩ := hR.form
  exact ⟨A, d, rfl, Lib.hid ⟨hH, hC, hC.bel hB⟩, Lib.hid hR⟩
theorem copy_ok (k2 : Nat) (H : EndOk w col W k g h N E) (hB : Below w.heap.size w W) (hwl : E.wait.length ≤ 1000) (hN : N ≤ 100000) :
    Calls Try.prog 31 #[.pointer (some ⟨g, 0, none⟩)] W fun e W' => ∃ g' h', e = .returned (.pointer (some ⟨g', 0, none⟩)) ∧ Hid (EndOk w (recol col W.heap.size k2) W' k2 g' h' N E ∧ Below W.heap.size W W') := by
  obtain ⟨q, HE, hc⟩ := H
  refine (copy_any g h N q E W HE hwl hN).mono ?_
  rintro e W' ⟨g', h', q', rfl, H', hlow, hb⟩
  exact ⟨g', h', rfl, Lib.hid ⟨⟨q', H', fun i hi => ⟨recol_new (hlow i hi), Nat.le_trans hB.size (hlow i hi)⟩⟩, hb⟩⟩
theorem new_ok (k2 key : Nat) (hB : Below w.heap.size w W) :
    Calls Try.prog 28 #[.int .i64 1, .int .u64 (key : Int)] W fun e W' => ∃ g' h', e = .returned (.tuple #[.pointer (some ⟨g', 0, none⟩), .int .i64 0]) ∧ Hid (EndOk w (recol col W.heap.size k2) W' k2 g' h' 0 (newE 1 key) ∧ Below W.heap.size W W') := by
  refine (new_any 1 key W (by omega) (by omega)).mono ?_
  rintro e W' ⟨g', h', rfl, H', lg, lh, hb⟩
  refine ⟨g', h', rfl, Lib.hid ⟨⟨none, H', fun i hi => ?_⟩, hb⟩⟩
  have := hB.size
  simp at hi
  rcases hi with rfl | rfl
  · exact ⟨recol_new lg, by omega⟩
  · exact ⟨recol_new lh, by omega⟩
end
theorem rAck_w {W : World} (a : Nat) (ha : a ≤ 1000) :
    Calls Try.prog 18 #[.agg #[.int .i64 0, .int .i64 (a : Int), .slice none 0 0]] W fun e W' => ∃ A N c, e = .returned (.slice A N c) ∧ Hid (Per W' A N (pktB 0 (a : Int) [])) ∧ Hid (N ≤ 1000) ∧ Below W.heap.size W W' := by
  have hl := pktB_le 0 (a : Int) [] (by unfold I64; omega) (by unfold I64; omega) (by simp)
  refine (rPkt_any 0 (a : Int) none 0 0 [] W (by unfold I64; omega) (by unfold I64; omega) (Reads.nil_ _ _ _ _) (by omega)).mono ?_
  rintro e W' ⟨v, rfl, ho, hb⟩
  obtain ⟨A, c, rfl, hr⟩ := own_reads1 ho
  exact ⟨A, _, c, rfl, Lib.hid (per_of hr), Lib.hid (by simp at hl ⊢; omega), hb⟩
theorem rSeal_a {W : World} {A : Option Addr} {N c key : Nat} {l : List UInt8} (HP : Hid (Per W A N l)) (HN : Hid (N ≤ 1000)) (hk : key < 18446744073709551616) :
    Calls Try.prog 17 #[.int .u64 (key : Int), .slice A N c] W fun e W' => ∃ A' N' c', e = .returned (.slice A' N' c') ∧ Hid (Per W' A' N' (sealL key l) ∧ N' ≤ 2000 ∧ N' ≤ c') ∧ Below W.heap.size W W' := by
  have hl := HP.out.len
  have hn := HN.out
  refine (rSeal_any key A N c l W hk (HP.out W (Ok.refl _)) (by omega)).mono ?_
  rintro e W' ⟨v, rfl, ho, hb⟩
  have hr := ho
  obtain ⟨A', c', rfl, hc, -, -⟩ := own_slice ho
  exact ⟨A', _, c', rfl, Lib.hid ⟨per_of (Reads.of_own hr), by rw [sealL_length]; omega, hc⟩, hb⟩
end Go.Proofs.Ytbekkndkdfmijaa
