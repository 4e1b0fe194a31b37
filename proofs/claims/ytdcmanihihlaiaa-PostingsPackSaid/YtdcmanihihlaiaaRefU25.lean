/- dryrotref25.Unpack: the walk. -/
import Derived.Test.YtdcmanihihlaiaaRefI25
namespace Go.Proofs.Ytdcmanihihlaiaa
open Go.RowKit HP
set_option linter.unusedSimpArgs false
set_option linter.unusedVariables false

def rFin (b : List Int) : Option (List Int) → Option (List Int)
  | none => none
  | some l => if canB l = true ∧ packI l = b then some l else none
def rTail (b : List Int) (count : Int) : Option (List Int × List Int) → Option (List Int)
  | none => none
  | some x => rFin b (rNums count.toNat x.2 x.1 [])
theorem refUnpackI_tail (b : List Int) : refUnpackI b = if (takeI b).2.2 = false ∨ (takeI b).1 > 100000 then none else rTail b (takeI b).1 (rHeads 12501 (takeI b).1 0 (takeI b).2.1 []) := by
  unfold refUnpackI
  split
  · rfl
  · cases rHeads 12501 (takeI b).1 0 (takeI b).2.1 [] with
    | none => rfl
    | some x =>
      obtain ⟨rest, firsts⟩ := x
      simp only [rTail]
      cases rNums (takeI b).1.toNat firsts rest [] <;> rfl
theorem takeI_fit (l : List Int) (h : Bytes l) : 0 ≤ (takeI l).1 ∧ (takeI l).1 < 34359738368 ∧ Bytes (takeI l).2.1 ∧ (takeI l).2.1.length ≤ l.length := by
  unfold takeI
  cases hh : numG l 5 0 0 with
  | none =>
    refine ⟨by simp, by simp, ?_, by simp⟩
    intro x hx
    simp at hx
  | some r =>
    obtain ⟨n, k⟩ := r
    obtain ⟨h1, h2⟩ := numG_bd l 5 0 0 (n, k) (by omega) (by omega) (by decide) h hh
    exact ⟨h1, h2, h.drop k, by simp⟩

theorem str_beq {a b : List Int} (ha : Bytes a) (hb : Bytes b) : ((strOf a).toList == (strOf b).toList) = decide (a = b) := by
  rw [ByteArray.toList_eq, ByteArray.toList_eq]
  by_cases h : a = b
  · simp [h]
  · have h3 : ¬ (strOf a).data = (strOf b).data := fun h2 => h (strOf_inj ha hb (Go.WideShapes.bytes_inj (by rw [h2])))
    simp [h, h3]

set_option maxHeartbeats 2000000 in
set_option maxRecDepth 100000 in
theorem refUnpack_ok (E : Env) (q : HP) (A : Option Addr) (b : List Int) (c : Nat) (w : World) (hl : b.length ≤ c) (hb : Bytes b) (hcl : b.length ≤ 1000000) (hw : Sat E w q) (hq : ∀ w, Sat E w q → Cells w A (u8s b)) :
    Calls Try.prog 18 #[.slice A b.length c] w (unpackPost E q (refUnpackI b)) := by
  have HU : Aside (refUnpackI b = if (takeI b).2.2 = false ∨ (takeI b).1 > 100000 then none else rTail b (takeI b).1 (rHeads 12501 (takeI b).1 0 (takeI b).2.1 [])) := ⟨refUnpackI_tail b⟩
  go_enter Try.func18, Try.ntmps18
  go_wp2_with fail
  refine (take_ok E q q A b c w hl hb hcl hw (fun _ h => h) hq).mono ?_
  rintro e w1 ⟨A1, c1, rfl, hw1, hc1, hq1⟩
  obtain ⟨hn0, hn1, hb1, hl1⟩ := takeI_fit b hb
  have HB := Aside.mk (And.intro hb (And.intro hq hl))
  generalize takeI b = r at *
  obtain ⟨count, rest, ok⟩ := r
  dsimp only at *
  clear hw hq hb
  cases ok with
  | false =>
    have HT : Aside (unpackPost E q (refUnpackI b) (.returned (.tuple #[.slice none 0 0, .int .i64 5])) w1) := ⟨by rw [HU.out, if_pos (.inl rfl)]; exact ⟨rfl, hw1⟩⟩
    clear hw1 hq1 HU hb1
    go_wp2
    go_ret2
    exact HT.out
  | true =>
    by_cases hm : count > 100000
    · have HT : Aside (unpackPost E q (refUnpackI b) (.returned (.tuple #[.slice none 0 0, .int .i64 5])) w1) := ⟨by rw [HU.out, if_pos (.inr hm)]; exact ⟨rfl, hw1⟩⟩
      clear hw1 hq1 HU hb1
      go_wp2
      go_ret2
      exact HT.out
    · rw [if_neg (by rintro (h | h) <;> first | (cases h; done) | omega)] at HU
      have hrl : rest.length ≤ 1000000 := by omega
      have HS0 := Aside.mk (hw1.row_nil 3 1 none)
      have HQ1 := Aside.mk hq1
      have HB1 := Aside.mk hb1
      clear hw1 hq1 hb1 hn1 hl hl1 hcl
      go_wp2
      go_loopw [5, 7, 8, 9] (fun x5 x7 x8 x9 wr => ∃ (r : Nat) (i last : Int) (rest : List Int) (A1 : Option Addr) (c1 : Nat) (firsts : List Int) (N : Nat),
        x9 = .int .i64 i ∧ x8 = .int .i64 last ∧ x5 = .slice A1 rest.length c1 ∧ i = 8 * N ∧ count - i ≤ 8 * r ∧ N + r ≤ 12501 ∧ 0 ≤ last ∧ last ≤ 2147483647 ∧ rest.length ≤ c1 ∧ rest.length ≤ 1000000 ∧ Aside (Bytes rest) ∧ Aside (∀ w, Sat E w q → Cells w A1 (u8s rest)) ∧
        Aside (firsts.length = N ∧ ∀ x ∈ firsts, 0 ≤ x ∧ x ≤ 2147483647) ∧
        Aside (refUnpackI b = rTail b count (rHeads r (count - i) last rest firsts)) ∧
        Aside (Sat E wr (HP.row 3 1 x7 N (i64s firsts) * q))) (fun _ _ _ x _ => (count + 8 - intOf x).toNat)
      case atStart => exact ⟨12501, 0, 0, rest, A1, c1, [], 0, rfl, rfl, rfl, rfl, by omega, by omega, by omega, by omega, hc1, hrl, HB1, HQ1, ⟨rfl, fun x hx => by cases hx⟩, ⟨by rw [HU.out, Int.sub_zero]⟩, HS0⟩
      case round =>
        clear HS0 HQ1 HB1 HU hc1 hrl
        obtain ⟨r, i, last, rest, A1, c1, firsts, N, rfl, rfl, rfl, hi, hr, hN, hl0, hl1, hc1, hrl, HB1, HQ1, HF, HO, HS⟩ := hrel
        obtain ⟨A7, c7, rfl, -, -⟩ := HS.out.row_slice
        subst hi
        by_cases hlt : 8 * (N : Int) < count
        · obtain ⟨r, rfl⟩ : ∃ r', r = r' + 1 := ⟨r - 1, by omega⟩
          rw [rHeads, if_pos (show count - 8 * (N : Int) > 0 by omega)] at HO
          go_wp2_with fail
          refine (take_ok E _ q A1 rest c1 _ hc1 HB1.out hrl HS.out (fun _ h => h.right) HQ1.out).mono ?_
          rintro e w2 ⟨A2, c2, rfl, hw2, hc2, hq2⟩
          obtain ⟨hn0', hn1', hb2, hl2⟩ := takeI_fit rest HB1.out
          have hrl2 : (takeI rest).2.1.length ≤ 1000000 := by omega
          generalize takeI rest = r1 at *
          obtain ⟨n1, rest1, ok1⟩ := r1
          dsimp only at *
          clear HS HB1 HQ1 hl2 hc1 hrl
          go_wp2_with fail
          refine (take_ok E _ q A2 rest1 c2 _ hc2 hb2 hrl2 hw2 (fun _ h => h.right) hq2).mono ?_
          rintro e w3 ⟨A3, c3, rfl, hw3, hc3, hq3⟩
          obtain ⟨hn0'', hn1'', hb3, hl3⟩ := takeI_fit rest1 hb2
          have hrl3 : (takeI rest1).2.1.length ≤ 1000000 := by omega
          generalize takeI rest1 = r2 at *
          obtain ⟨n2, rest2, ok2⟩ := r2
          dsimp only at *
          have HS3 := Aside.mk hw3
          have HB3 := Aside.mk hb3
          have HQ3 := Aside.mk hq3
          clear hw3 hw2 hb2 hq2 hb3 hq3 hl3 hc2 hrl2
          by_cases hbad : ok1 = false ∨ ok2 = false ∨ n1 > 2147483647 - last
          · rw [if_pos hbad] at HO
            have HT : Aside (unpackPost E q (refUnpackI b) (.returned (.tuple #[.slice none 0 0, .int .i64 5])) w3) := ⟨by rw [HO.out]; exact ⟨rfl, HS3.out.right⟩⟩
            clear HS3 HO HB3 HQ3 HF
            cases ok1 with
            | false =>
              clear hbad
              go_wp2
              go_ret2
              exact HT.out
            | true =>
              cases ok2 with
              | false =>
                clear hbad
                go_wp2
                go_ret2
                exact HT.out
              | true =>
                have hbad2 : 2147483647 - last < n1 := by simpa using hbad
                clear hbad
                go_wp2
                go_ret2
                exact HT.out
          · rw [if_neg hbad] at HO
            obtain ⟨rfl, rfl, hbad2⟩ : ok1 = true ∧ ok2 = true ∧ n1 ≤ 2147483647 - last := by
              simp at hbad
              exact ⟨hbad.1, hbad.2.1, by omega⟩
            clear hbad
            go_wp2_with (at_builtin; refine wpList_append_new slI64 rfl rfl (by rfl) (by rfl) HS3.out (by rfl) (by rfl) (by unfold maxLen; omega) (by omega) (fun v4 w4 hw4 => ?_); have HW4 := Aside.mk hw4; clear hw4 HS3)
            go_roundw
            case rel =>
              refine ⟨r, 8 * ((N + 1 : Nat) : Int), last + n1, rest2, A3, c3, firsts ++ [last + n1], N + 1, by first | (congr 1; done) | (congr 1; push_cast; omega), rfl, rfl, rfl, by first | (push_cast; done) | (push_cast; omega) | omega, by omega, by omega, by omega, hc3, hrl3, HB3, HQ3, ⟨by simp [HF.out.1], ?_⟩, ⟨?_⟩, ⟨?_⟩⟩
              · intro x hx
                rcases List.mem_append.1 hx with hx | hx
                · exact HF.out.2 x hx
                · simp only [List.mem_singleton] at hx; omega
              · rw [HO.out, show count - 8 * (N : Int) - 8 = count - 8 * ((N + 1 : Nat) : Int) by push_cast; omega]
              · simpa only [i64s, List.map_append, List.map_cons, List.map_nil] using HW4.out
            case measure => simp [intOf]; omega
        · rw [rHeads_stop _ _ _ _ (by omega)] at HO
          obtain ⟨m, rfl⟩ := Int.eq_ofNat_of_zero_le hn0
          simp only [rTail, Int.toNat_natCast] at HO
          have hm8 : m ≤ 8 * N := by omega
          have hm5 : m ≤ 100000 := by omega
          have HS1 := Aside.mk (HS.out.row_nil 3 1 none)
          clear HS hlt hr hn0 hl0 hl1
          go_wp2
          go_loopw [5, 15, 72] (fun x5 x15 x72 wr => ∃ (k n : Nat) (rest : List Int) (A1 : Option Addr) (c1 : Nat) (l : List Int), x72 = .int .i64 k ∧ x5 = .slice A1 rest.length c1 ∧ k + n = m ∧ rest.length ≤ c1 ∧ rest.length ≤ 1000000 ∧ Aside (Bytes rest) ∧ Aside (∀ w, Sat E w q → Cells w A1 (u8s rest)) ∧
            Aside (l.length = k ∧ ∀ x ∈ l, 0 ≤ x ∧ x ≤ 4294967296 * k) ∧ Aside (refUnpackI b = rFin b (rNums n firsts rest l)) ∧
            Aside (Sat E wr (HP.row 3 1 x15 k (i64s l) * (HP.row 3 1 (.slice A7 N c7) N (i64s firsts) * q)))) (fun _ _ x _ => m - (intOf x).toNat)
          case atStart => exact ⟨0, m, rest, A1, c1, [], rfl, rfl, by omega, hc1, hrl, HB1, HQ1, ⟨rfl, fun x hx => by cases hx⟩, HO, HS1⟩
          case round =>
            clear HS1 HQ1 HB1 HO hc1 hrl
            obtain ⟨k, n, rest, A1, c1, l, rfl, rfl, hkn, hc1, hrl, HB1, HQ1, HL, HO, HS⟩ := hrel
            obtain ⟨A15, c15, rfl, hlc15, -⟩ := HS.out.row_slice
            by_cases hlt : k < m
            · obtain ⟨n, rfl⟩ : ∃ n', n = n' + 1 := ⟨n - 1, by omega⟩
              by_cases h8 : k % 8 = 0
              · rw [rNums, if_pos (by rw [HL.out.1]; exact h8), HL.out.1] at HO
                obtain ⟨j, hj⟩ : ∃ j, k / 8 = j := ⟨_, rfl⟩
                have hjN : j < N := by omega
                have hrem : (k : Int).tmod 8 = 0 := by rw [Int.tmod_eq_emod_of_nonneg (by omega)]; omega
                have hquo : (k : Int).tdiv 8 = (j : Int) := by rw [Int.tdiv_eq_ediv_of_nonneg (by omega)]; omega
                have hjf : j < firsts.length := by rw [HF.out.1]; exact hjN
                obtain ⟨y, hy⟩ : ∃ y, firsts[j] = y := ⟨_, rfl⟩
                have hyb := HF.out.2 y (by rw [← hy]; exact List.getElem_mem _)
                have HY : Aside (firsts.getD (k / 8) 0 = y) := ⟨by rw [hj]; simp [List.getD, List.getElem?_eq_getElem hjf, hy]⟩
                rw [HY.out] at HO
                have hc := HS.out.s2.row_cells
                obtain ⟨a, ha, hcx⟩ := hc.at_ j (by rw [i64s_length]; exact hjf)
                obtain ⟨g, o, rfl⟩ : ∃ g o, a = ⟨g, o, none⟩ := slice_addr hc ha (k := j) (by rw [i64s_length]; exact hjf)
                subst ha
                rw [addr_add] at hcx
                simp only [i64s, List.getElem_map, hy] at hcx
                have HJ := Aside.mk hj
                have H8 := Aside.mk h8
                clear hc hy hj h8 hjf
                have hj0 : (0 : Int) ≤ (j : Int) := by omega
                have hj1 : (j : Int) < (N : Int) := by omega
                go_wp2_with (at_builtin; refine wpList_append_new slI64 rfl rfl (by rfl) (by rfl) HS.out (by rfl) (by rfl) (by unfold maxLen; omega) (by omega) (fun v4 w4 hw4 => ?_); have HW4 := Aside.mk hw4; clear hw4 HS)
                go_roundw
                case rel =>
                  refine ⟨k + 1, n, rest, A1, c1, l ++ [y], by go_num, rfl, by omega, hc1, hrl, HB1, HQ1, ⟨by simp [HL.out.1], ?_⟩, HO, ⟨?_⟩⟩
                  · intro x hx
                    rcases List.mem_append.1 hx with hx | hx
                    · have := HL.out.2 x hx; push_cast; omega
                    · simp only [List.mem_singleton] at hx; push_cast; omega
                  · simpa only [i64s, List.map_append, List.map_cons, List.map_nil] using HW4.out
                case measure => simp [intOf]; omega
              · rw [rNums, if_neg (by rw [HL.out.1]; exact h8)] at HO
                obtain ⟨j, rfl⟩ : ∃ j, k = j + 1 := ⟨k - 1, by omega⟩
                obtain ⟨r, hr⟩ : ∃ r : Int, ((j : Int) + 1).tmod 8 = r := ⟨_, rfl⟩
                have hr0 : ¬ r = 0 := by
                  rw [← hr, Int.tmod_eq_emod_of_nonneg (by omega)]; omega
                have hrb : 0 ≤ r ∧ r ≤ 7 := by
                  rw [← hr, Int.tmod_eq_emod_of_nonneg (by omega)]; omega
                have hjl : j < l.length := by rw [HL.out.1]; omega
                obtain ⟨y, hy⟩ : ∃ y, l[j] = y := ⟨_, rfl⟩
                have hyb := HL.out.2 y (by rw [← hy]; exact List.getElem_mem _)
                have hyb2 : 0 ≤ y ∧ y ≤ 4294967296 * 100000 := by
                  refine ⟨hyb.1, ?_⟩
                  have : ((j + 1 : Nat) : Int) ≤ 100000 := by omega
                  omega
                have HY : Aside ((i64s l)[j]? = some (.int .i64 y)) := ⟨by simp [i64s, List.getElem?_eq_getElem hjl, hy]⟩
                have HLD : Aside (l.getLastD 0 = y) := ⟨by
                  rw [List.getLastD_eq_getLast?, List.getLast?_eq_getElem?, HL.out.1, Nat.add_sub_cancel, List.getElem?_eq_getElem hjl, hy]; rfl⟩
                rw [HLD.out] at HO
                have HYB := Aside.mk hyb
                have H8 := Aside.mk h8
                clear hy hyb hjl h8
                go_wp2_with fail
                refine (take_ok E _ q A1 rest c1 _ hc1 HB1.out hrl HS.out (fun _ h => h.right.right) HQ1.out).mono ?_
                rintro e w2 ⟨A2, c2, rfl, hw2, hc2, hq2⟩
                obtain ⟨hn0', hn1', hb2, hl2⟩ := takeI_fit rest HB1.out
                have hrl2 : (takeI rest).2.1.length ≤ 1000000 := by omega
                generalize takeI rest = r1 at *
                obtain ⟨n1, rest1, ok1⟩ := r1
                dsimp only at *
                clear HS HB1 HQ1 hl2 hc1 hrl
                have hc := hw2.row_cells
                obtain ⟨a, ha, -⟩ := hc.at_ j (by rw [i64s_length, HL.out.1]; omega)
                obtain ⟨g, o, rfl⟩ : ∃ g o, a = ⟨g, o, none⟩ := slice_addr hc ha (k := j) (by rw [i64s_length, HL.out.1]; omega)
                subst ha
                have hcx := hw2.row_cell j _ HY.out
                have HW2 := Aside.mk hw2
                have HB2 := Aside.mk hb2
                have HQ2 := Aside.mk hq2
                clear hc hw2 hb2 hq2
                by_cases hbad : ok1 = false ∨ n1 > 2147483647
                · rw [if_pos hbad] at HO
                  have HT : Aside (unpackPost E q (refUnpackI b) (.returned (.tuple #[.slice none 0 0, .int .i64 5])) w2) := ⟨by rw [HO.out]; exact ⟨rfl, HW2.out.right.right⟩⟩
                  clear HW2 HO HB2 HQ2 HF
                  cases ok1 with
                  | false =>
                    clear hbad
                    go_wp2
                    go_ret2
                    exact HT.out
                  | true =>
                    have hbad2 : 2147483647 < n1 := by simpa using hbad
                    clear hbad
                    go_wp2
                    go_ret2
                    exact HT.out
                · rw [if_neg hbad] at HO
                  obtain ⟨rfl, hbad2⟩ : ok1 = true ∧ n1 ≤ 2147483647 := by
                    simp at hbad
                    exact ⟨hbad.1, by omega⟩
                  clear hbad
                  have hj0 : (0 : Int) ≤ (j : Int) := by omega
                  have hj1 : (j : Int) < (j : Int) + 1 := by omega
                  go_wp2_with (at_builtin; refine wpList_append_new slI64 rfl rfl (by rfl) (by rfl) HW2.out (by rfl) (by rfl) (by unfold maxLen; omega) (by omega) (fun v4 w4 hw4 => ?_); have HW4 := Aside.mk hw4; clear hw4 HW2)
                  go_roundw
                  case rel =>
                    refine ⟨j + 1 + 1, n, rest1, A2, c2, l ++ [y + n1 + 1], by go_num, rfl, by omega, hc2, hrl2, HB2, HQ2, ⟨by simp [HL.out.1], ?_⟩, HO, ⟨?_⟩⟩
                    · intro x hx
                      rcases List.mem_append.1 hx with hx | hx
                      · have := HL.out.2 x hx; push_cast at this ⊢; omega
                      · have := HYB.out
                        simp only [List.mem_singleton] at hx; push_cast at this ⊢; omega
                    · simpa only [i64s, List.map_append, List.map_cons, List.map_nil] using HW4.out
                  case measure => simp [intOf]; omega
            · obtain rfl : n = 0 := by omega
              obtain rfl : k = m := by omega
              rw [rNums, rFin] at HO
              obtain rfl := HL.out.1
              have hS := HS.out
              have hcu := hS.row_cells
              clear HS HL HF HB1 HQ1
              by_cases hc : canB l = true
              · go_wp2_with fail
                refine (refPack_ok E _ A15 l c15 _ hm5 hlc15 hS (fun w h => h.row_cells) hc).mono ?_
                rintro e w2 ⟨v2, rfl, hw2⟩
                obtain ⟨A2, c2, rfl, -, -⟩ := hw2.row_slice
                have e0 := run_string (P := Try.prog) (c := c2) Try.underlying22 Try.underlying5 Try.underlying9 hw2.row_cells
                have e1 := run_string (P := Try.prog) (c := c) Try.underlying22 Try.underlying5 Try.underlying9 (HB.out.2.1 _ hw2.right.right.right)
                have hsb := str_beq (packI_bytes l) HB.out.1
                clear hS hcu
                by_cases he : packI l = b
                · have HT : Aside (unpackPost E q (refUnpackI b) (.returned (.tuple #[.slice A15 l.length c15, .int .i64 0])) w2) := ⟨by
                    rw [HO.out, if_pos ⟨hc, he⟩]
                    have := hw2.right
                    exact ⟨_, rfl, this.drop2⟩⟩
                  rw [decide_eq_true he] at hsb
                  clear he HO hw2 hc
                  go_wp2
                  go_ret2
                  exact HT.out
                · have HT : Aside (unpackPost E q (refUnpackI b) (.returned (.tuple #[.slice none 0 0, .int .i64 5])) w2) := ⟨by
                    rw [HO.out, if_neg (fun h => he h.2)]; exact ⟨rfl, hw2.right.right.right⟩⟩
                  rw [decide_eq_false he] at hsb
                  clear he HO hw2 hc
                  go_wp2
                  go_ret2
                  exact HT.out
              · go_wp2_with fail
                refine (refPack_no A15 l c15 _ (by omega) ⟨hcu⟩ (by simpa using hc)).mono ?_
                rintro e w2 ⟨rfl, rfl⟩
                have HT : Aside (unpackPost E q (refUnpackI b) (.returned (.tuple #[.slice none 0 0, .int .i64 5])) w2) := ⟨by
                  rw [HO.out, if_neg (fun h => hc h.1)]; exact ⟨rfl, hS.right.right⟩⟩
                clear HO hS hc hcu
                go_wp2
                go_ret2
                exact HT.out
end Go.Proofs.Ytdcmanihihlaiaa
