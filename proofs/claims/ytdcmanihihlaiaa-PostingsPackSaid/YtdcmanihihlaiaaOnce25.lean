/- dryrotlaw25.PostingsOnce: the walk. -/
import Derived.Test.YtdcmanihihlaiaaUnpack25
namespace Go.Proofs.Ytdcmanihihlaiaa
open Go.RowKit HP
set_option linter.unusedSimpArgs false
set_option linter.unusedVariables false

theorem unpackI_some {b l : List Int} (h : unpackI b = some l) : canB l = true ∧ packI l = b ∧ l.length ≤ 1000000 := by
  unfold unpackI at h
  split at h
  · cases h
  · split at h
    · rename_i hh
      cases h
      refine ⟨hh.1, hh.2, ?_⟩
      have := hh.1
      simp only [canB, Bool.and_eq_true, decide_eq_true_eq] at this
      omega
    · cases h

set_option maxHeartbeats 2000000 in
set_option maxRecDepth 100000 in
theorem once_ok (E : Env) (q : HP) (A : Option Addr) (b0 : List Int) (c : Nat) (w : World) (hl : b0.length ≤ c) (hb0 : Bytes b0) (hw : Sat E w q) (hq0 : ∀ w, Sat E w q → Cells w A (u8s b0)) :
    Calls Try.prog 3 #[.slice A b0.length c] w fun e w' => e = .returned (.bool true) ∧ Sat E w' q := by
  obtain ⟨b, m, hm, hmn⟩ : ∃ (b : List Int) (m : Nat), b = b0.take m ∧ m = min b0.length 400 := ⟨_, _, rfl, rfl⟩
  have hbm : b.length = m := by rw [hm, List.length_take]; omega
  have hb : Bytes b := by rw [hm]; exact fun x hx => hb0 x (List.mem_of_mem_take hx)
  have hq : ∀ w, Sat E w q → Cells w A (u8s b) := fun w h => by
    have := (hq0 w h).take m
    rw [hm]; simpa [u8s] using this
  go_enter Try.func3, Try.ntmps3
  clear hm hq0 hb0
  have HB := Aside.mk hbm
  generalize b0.length = n at *
  obtain ⟨k, hk⟩ : ∃ k : Nat, k = (if n ≤ 400 then n else 400) := ⟨_, rfl⟩
  have hbk : b.length = k := by rw [hbm, hmn, hk]; split <;> omega
  have hkc : b.length ≤ c := by rw [hbm, hmn]; omega
  have hU := fun w => unpack_ok E q A b c w hkc hb (by rw [hbm, hmn]; omega)
  rw [hbk] at hU
  have HK := Aside.mk hbk
  clear hbk hmn hbm hkc HB
  by_cases h4 : n ≤ 400
  all_goals
    simp only [h4, if_true, if_false] at hk
    subst hk
    go_wp2_with fail
    refine (hU _ hw hq).mono ?_
    clear hU
    cases hu : unpackI b with
    | none =>
      rintro e w1 ⟨rfl, hw1⟩
      clear hu hw
      go_wp2_with fail
      refine (awake_ok E q _ hw1).mono ?_
      rintro e w2 ⟨rfl, hw2⟩
      have HT := Aside.mk hw2
      clear hw1 hw2 hq hb
      go_wp2
      go_ret
      exact ⟨rfl, HT.out⟩
    | some l =>
      obtain ⟨h1, h2', h3⟩ := unpackI_some hu
      have H2 := Aside.mk h2'
      clear h2'
      rintro e w1 ⟨v, rfl, hw1⟩
      obtain ⟨A1, c1, rfl, hlc, -⟩ := hw1.row_slice
      clear hu hw
      go_wp2_with fail
      refine (pack_ok E _ A1 l c1 _ h3 hlc hw1 (fun w h => ⟨h.row_cells⟩) h1).mono ?_
      rintro e w2 ⟨v2, rfl, hw2⟩
      obtain ⟨A2, c2, rfl, -, -⟩ := hw2.row_slice
      have hlen2 : (packI l).length ≤ 9223372036854775806 := by rw [H2.out, HK.out]; omega
      have hE := equalB_ok A2 A (packI l) b c2 c w2 hw2.row_cells (hq _ hw2.right.right) hlen2
      rw [HK.out] at hE
      clear hw1 hlen2
      go_wp2_with fail
      refine hE.mono ?_
      rintro e w3 ⟨rfl, n3, rfl⟩
      have HT := Aside.mk (hw2.right.right.drewN (n := n3))
      have hd : (packI l == b) = true := by simp [H2.out]
      rw [hd]
      clear hd hw2 hq hb hE
      go_wp2
      go_ret
      exact ⟨rfl, HT.out⟩
end Go.Proofs.Ytdcmanihihlaiaa
