/- disk.named: whether a text is a file's name. -/
import Derived.Test.YtgdcdcacccaanaaDiskA
import Derived.Laws.IdiomStrings
namespace Go.Proofs.Ytgdcdcacccaanaa
open Go.RowKit HP
set_option linter.unusedSimpArgs false
set_option linter.unusedVariables false

def strangeB (c : Int) : Bool := decide (c ≠ 46) && (decide (c < 97) || decide (122 < c)) && (decide (c < 48) || decide (57 < c))
set_option maxHeartbeats 1000000 in
set_option maxRecDepth 100000 in
theorem strange_ok (c : Int) (w : World) : Calls Try.prog 61 #[.int .i32 c] w fun e w' => e = .returned (.bool (strangeB c)) ∧ w' = w := by
  have HB : Aside (strangeB c = (decide (c ≠ 46) && (decide (c < 97) || decide (122 < c)) && (decide (c < 48) || decide (57 < c)))) := ⟨rfl⟩
  go_enter Try.func61, Try.ntmps61
  by_cases h1 : c = 46
  · have e1 : strangeB c = false := by rw [HB.out]; simp [h1]
    rw [e1]
    clear HB e1
    subst h1
    go_wp2
    go_ret
    exact ⟨by first | rfl | exact ret_bool (by simp [h1]), rfl⟩
  · by_cases h2 : c < 97
    · by_cases h3 : c < 48
      · have e1 : strangeB c = true := by rw [HB.out]; simp [h1, h2, h3]
        rw [e1]
        clear HB e1
        go_wp2
        go_ret
        exact ⟨by first | rfl | exact ret_bool (by simp [h1]), rfl⟩
      · by_cases h4 : 57 < c
        · have e1 : strangeB c = true := by rw [HB.out]; simp [h1, h2, h4]
          rw [e1]
          clear HB e1
          go_wp2
          go_ret
          exact ⟨by first | rfl | exact ret_bool (by simp [h1]), rfl⟩
        · have e1 : strangeB c = false := by rw [HB.out]; simp [h1, h2, h3, h4]
          rw [e1]
          clear HB e1
          go_wp2
          go_ret
          exact ⟨by first | rfl | exact ret_bool (by simp [h1]), rfl⟩
    · by_cases h5 : 122 < c
      · have e1 : strangeB c = true := by rw [HB.out]; simp [h1, h5] <;> omega
        rw [e1]
        clear HB e1
        have h6 : ¬ c < 48 := by omega
        have h7 : 57 < c := by omega
        go_wp2
        go_ret
        exact ⟨by first | rfl | exact ret_bool (by simp [h1]), rfl⟩
      · have e1 : strangeB c = false := by rw [HB.out]; simp [h2, h5]
        rw [e1]
        clear HB e1
        go_wp2
        go_ret
        exact ⟨by first | rfl | exact ret_bool (by simp [h1]), rfl⟩
/-- The code points of a text. -/
def runesOf (s : ByteArray) : List Int := (Conv.runesFrom s s.size 0 #[]).toList.map intOf
theorem runesFrom_ints (s : ByteArray) : ∀ (n i : Nat) (acc : Array Value), (∀ v ∈ acc.toList, ∃ c, v = .int .i32 c) → ∀ v ∈ (Conv.runesFrom s n i acc).toList, ∃ c, v = .int .i32 c := by
  intro n
  induction n with
  | zero => intro i acc h; simpa [Conv.runesFrom] using h
  | succ n ih =>
    intro i acc h
    unfold Conv.runesFrom
    split
    · refine ih _ _ ?_
      intro v hv
      simp only [Array.toList_push, List.mem_append, List.mem_singleton] at hv
      rcases hv with hv | rfl
      · exact h v hv
      · exact ⟨_, rfl⟩
    · exact h
theorem runesFrom_eq (s : ByteArray) : (Conv.runesFrom s s.size 0 #[]).toList = (runesOf s).map (Value.int .i32) := by
  unfold runesOf
  rw [List.map_map]
  conv => lhs; rw [← List.map_id (Conv.runesFrom s s.size 0 #[]).toList]
  apply List.map_congr_left
  intro v hv
  obtain ⟨c, rfl⟩ := runesFrom_ints s s.size 0 #[] (fun v hv => by simp at hv) v hv
  rfl
def namedB (s : ByteArray) : Bool := !s.toList.isEmpty && decide (s.size ≤ 24) && !(runesOf s).any strangeB

set_option maxHeartbeats 1000000 in
set_option maxRecDepth 100000 in
theorem index_ok (A : Option Addr) (l : List Int) (c : Nat) (w : World) (hl : l.length ≤ 1000000) (h : Cells w A (l.map (Value.int .i32))) :
    Calls Try.prog 75 #[.slice A l.length c, .func (Fn.func 61) #[] #[]] w fun e w' => ∃ i : Int, e = .returned (.int .i64 i) ∧ (0 ≤ i ↔ l.any strangeB = true) ∧ w' = w := by
  generalize hany : l.any strangeB = r
  have HR := Aside.mk hany
  clear hany
  go_enter Try.func75, Try.ntmps75
  go_wp2
  go_loop [8] (fun x => ∃ k : Nat, x = .int .i64 k ∧ k ≤ l.length ∧ Aside (r = (l.drop k).any strangeB)) (fun x => l.length - (intOf x).toNat)
  case atStart => exact ⟨0, rfl, Nat.zero_le _, ⟨HR.out.symm⟩⟩
  case round =>
    obtain ⟨k, rfl, hk, HA⟩ := hrel
    by_cases hlt : k < l.length
    · obtain ⟨a, ha, hcx⟩ := h.at_ k (by simpa using hlt)
      obtain ⟨g, o, rfl⟩ : ∃ g o, a = ⟨g, o, none⟩ := slice_addr h ha (k := k) (by simpa using hlt)
      subst ha
      rw [addr_add] at hcx
      simp only [List.getElem_map] at hcx
      rw [List.drop_eq_getElem_cons hlt, List.any_cons] at HA
      generalize l[k] = y at *
      have hk0 : (0 : Int) ≤ (k : Int) := by omega
      have hk1 : (k : Int) < (l.length : Int) := by omega
      go_wp2_with fail
      refine (strange_ok y _).mono ?_
      rintro e w1 ⟨rfl, rfl⟩
      cases hs : strangeB y with
      | true =>
        have HT : Aside (r = true) := ⟨by rw [HA.out, hs]; rfl⟩
        clear hs HA
        go_wp2
        go_ret
        rw [HT.out]
        first
          | exact ⟨_, rfl, by simp, rfl⟩
          | exact ⟨_, rfl, by simp⟩
      | false =>
        rw [hs, Bool.false_or] at HA
        clear hs
        go_wp2
        go_round
        case rel => exact ⟨k + 1, by go_num, by omega, HA⟩
        case measure => simp [intOf]; omega
    · have HT : Aside (r = false) := ⟨by rw [HA.out, List.drop_of_length_le (by omega)]; rfl⟩
      clear HA
      go_wp2
      go_ret
      rw [HT.out]
      first
        | exact ⟨_, rfl, by simp, rfl⟩
        | exact ⟨_, rfl, by simp⟩
set_option maxHeartbeats 1000000 in
set_option maxRecDepth 100000 in
theorem contains_ok (A : Option Addr) (l : List Int) (c : Nat) (w : World) (hl : l.length ≤ 1000000) (h : Cells w A (l.map (Value.int .i32))) :
    Calls Try.prog 62 #[.slice A l.length c, .func (Fn.func 61) #[] #[]] w fun e w' => e = .returned (.bool (l.any strangeB)) ∧ w' = w := by
  go_enter Try.func62, Try.ntmps62
  go_wp2_with fail
  refine (index_ok A l c w hl h).mono ?_
  rintro e w1 ⟨i, rfl, hi, rfl⟩
  have HI := Aside.mk hi
  clear hi h
  go_wp2
  go_ret
  refine ⟨ret_bool ?_, rfl⟩
  have := HI.out
  cases hs : l.any strangeB with
  | true => rw [hs] at this; simpa using this
  | false => rw [hs] at this; simpa using this

set_option maxHeartbeats 1000000 in
set_option maxRecDepth 100000 in
theorem named_ok (E : Env) (q : HP) (s : ByteArray) (w : World) (hw : Sat E w q) :
    Calls Try.prog 37 #[.string s] w fun e w' => e = .returned (.bool (namedB s)) ∧ Sat E w' q := by
  have HN : Aside (namedB s = (!s.toList.isEmpty && decide (s.size ≤ 24) && !(runesOf s).any strangeB)) := ⟨rfl⟩
  go_enter Try.func37, Try.ntmps37
  cases he : s.toList.isEmpty with
  | true =>
    have hE : s.toList = [] := List.isEmpty_iff.1 he
    rw [he] at HN
    have HF : Aside (namedB s = false) := ⟨by rw [HN.out]; rfl⟩
    clear HN
    go_wp2
    go_ret
    exact ⟨ret_bool (by rw [HF.out]), hw⟩
  | false =>
    have hE : ¬ s.toList = [] := fun h => by rw [h] at he; cases he
    rw [he] at HN
    by_cases h24 : s.size ≤ 24
    · have HF : Aside (namedB s = !(runesOf s).any strangeB) := ⟨by rw [HN.out]; simp [h24]⟩
      clear HN
      have hsz := size_runesFrom s s.size 0 #[]
      simp only [List.size_toArray, List.length_nil, Nat.zero_add] at hsz
      have hconv := run_runes_of_string (P := Try.prog) w 9 111 21 s Try.underlying9 Try.underlying111 Try.underlying21 (by omega)
      have hlen : (Conv.runesFrom s s.size 0 #[]).size = (runesOf s).length := by
        rw [← Array.length_toList, runesFrom_eq, List.length_map]
      have heq : Conv.runesFrom s s.size 0 #[] = ((runesOf s).map (Value.int .i32)).toArray := by
        rw [← runesFrom_eq]
      have hrl : (runesOf s).length ≤ 1000000 := by omega
      rw [hlen, heq] at hconv
      clear hsz hlen heq
      generalize runesOf s = rs at *
      generalize grownCap w rs.length 0 21 = cap at *
      have hcells : Cells (w.alloc (.cells ((rs.map (Value.int .i32)).toArray ++ Array.replicate (cap - rs.length) (.int .i32 0)) 21)) (some ⟨w.heap.size, 0, none⟩) (rs.map (Value.int .i32)) := by
        have h9 := (Cells.fresh w (rs.map (Value.int .i32) ++ List.replicate (cap - rs.length) (.int .i32 0)) 21 (0, 0)).take rs.length
        rw [List.take_append_of_le_length (by simp), List.take_of_length_le (by simp)] at h9
        rw [show ((rs.map (Value.int .i32)).toArray ++ Array.replicate (cap - rs.length) (Value.int .i32 0)) = (rs.map (Value.int .i32) ++ List.replicate (cap - rs.length) (Value.int .i32 0)).toArray by simp]
        exact h9
      have HS := Aside.mk ((hw.alloc (.cells ((rs.map (Value.int .i32)).toArray ++ Array.replicate (cap - rs.length) (.int .i32 0)) 21)).right)
      have HC := Aside.mk (show Cells (World.drew (w.alloc (.cells ((rs.map (Value.int .i32)).toArray ++ Array.replicate (cap - rs.length) (.int .i32 0)) 21))) (some ⟨w.heap.size, 0, none⟩) (rs.map (Value.int .i32)) from hcells)
      clear hw hcells
      go_wp2_with fail
      refine (contains_ok _ rs cap _ hrl HC.out).mono ?_
      rintro e w1 ⟨rfl, rfl⟩
      clear hconv HC
      go_wp2
      go_ret
      exact ⟨ret_bool (by rw [HF.out]), HS.out.drew⟩
    · have HF : Aside (namedB s = false) := ⟨by rw [HN.out]; simp [h24]⟩
      clear HN
      go_wp2
      go_ret
      exact ⟨ret_bool (by rw [HF.out]), hw⟩
end Go.Proofs.Ytgdcdcacccaanaa
