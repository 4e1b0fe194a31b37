/- disk: New, none, burn, Fuse. -/
import Derived.Test.YtgdcdcacccaanaaFrame
import Derived.Carry
import Derived.Laws.Cover3
import Derived.Test.YtgdcdcacccaanaaProg
namespace Go.Proofs.Ytgdcdcacccaanaa
open Go.RowKit HP
set_option linter.unusedSimpArgs false
set_option linter.unusedVariables false

/-- A disk's own block: its room, its map's block, its fuse. -/
def HP.dsk (d : Nat) (room fuse : Int) (m : Nat) : HP := HP.pt d (.cells #[.int .i64 room, .map (some m), .int .i64 fuse] 70)

set_option maxHeartbeats 1000000 in
set_option maxRecDepth 100000 in
theorem disk_new_no (room : Int) (w : World) (h : room < 0 ∨ 100000 < room) :
    Calls Try.prog 11 #[.int .i64 room] w fun e w' => e = .returned (.tuple #[.pointer none, .int .i64 1]) ∧ w' = w := by
  go_enter Try.func11, Try.ntmps11
  by_cases h0 : room < 0
  · clear h
    go_wp2
    go_ret2
    exact ⟨rfl, rfl⟩
  · have h1 : 100000 < room := by omega
    clear h
    go_wp2
    go_ret2
    exact ⟨rfl, rfl⟩
set_option maxHeartbeats 1000000 in
set_option maxRecDepth 100000 in
theorem disk_new (E : Env) (q : HP) (room : Int) (w : World) (h0 : 0 ≤ room) (h1 : room ≤ 100000) (hw : Sat E w q) :
    Calls Try.prog 11 #[.int .i64 room] w fun e w' => ∃ d m, e = .returned (.tuple #[.pointer (some ⟨d, 0, none⟩), .int .i64 0]) ∧ Sat E w' (HP.dsk d room (-1) m * (HP.pt m (.map #[] 0) * q)) := by
  have HW := Aside.mk hw
  clear hw
  have hmm := @run_makeMap Try.prog
  go_enter Try.func11, Try.ntmps11
  have h2 : ¬ room < 0 := by omega
  have h3 : ¬ 100000 < room := by omega
  go_wp2
  go_ret2
  have h4 := (HW.out.alloc (.map #[] 0)).alloc (.cells #[.int .i64 room, .map (some w.heap.size), .int .i64 (-1)] 70)
  have e1 : (w.alloc (.map #[] 0)).heap.size = w.heap.size + 1 := by
    show (w.heap.push _).size = _
    exact Array.size_push _
  rw [e1] at h4
  first
    | exact ⟨w.heap.size + 1, rfl, w.heap.size, h4⟩
    | exact ⟨w.heap.size + 1, w.heap.size, rfl, h4⟩
theorem run_map_nil {P : Program} {t k e : TypeId} (h : P.underlying t = some (.map k e)) (r : Option Nat) (w : World) : (binOp .eql t (.map r) (.map none)).run P w = .ok (.bool r.isNone) w := by
  simp only [binOp]
  simp [run_equal_map_nil w t k e r h]
set_option maxHeartbeats 1000000 in
set_option maxRecDepth 100000 in
theorem disk_none (E : Env) (q : HP) (d : Nat) (room fuse : Int) (m : Nat) (w : World) (hw : Sat E w (HP.dsk d room fuse m * q)) :
    Calls Try.prog 36 #[.pointer (some ⟨d, 0, none⟩)] w fun e w' => e = .returned (.bool false) ∧ w' = w := by
  have c1 := hw.cell 1
  simp only [List.getElem?_toArray, List.getElem?_cons_zero, List.getElem?_cons_succ] at c1
  clear hw
  have hmn := fun r => run_map_nil (P := Try.prog) Try.underlying68 r w
  go_enter Try.func36, Try.ntmps36
  go_wp2
  go_ret
  exact ⟨rfl, rfl⟩
set_option maxHeartbeats 1000000 in
set_option maxRecDepth 100000 in
theorem disk_none_nil (w : World) : Calls Try.prog 36 #[.pointer none] w fun e w' => e = .returned (.bool true) ∧ w' = w := by
  go_enter Try.func36, Try.ntmps36
  go_wp2
  go_ret
  exact ⟨rfl, rfl⟩
set_option maxHeartbeats 1000000 in
set_option maxRecDepth 100000 in
theorem disk_none_new (E : Env) (q : HP) (d : Nat) (w : World) (hw : Sat E w (HP.pt d (.cells #[.int .i64 0, .map none, .int .i64 0] 70) * q)) :
    Calls Try.prog 36 #[.pointer (some ⟨d, 0, none⟩)] w fun e w' => e = .returned (.bool true) ∧ w' = w := by
  have c1 := hw.cell 1
  simp only [List.getElem?_toArray, List.getElem?_cons_zero, List.getElem?_cons_succ] at c1
  clear hw
  have hmn := fun r => run_map_nil (P := Try.prog) Try.underlying68 r w
  go_enter Try.func36, Try.ntmps36
  go_wp2
  go_ret
  exact ⟨rfl, rfl⟩
/-- What a change takes off the fuse, and whether the disk goes on. -/
def burnI (fuse : Int) : Int × Bool := if fuse > 0 then (fuse - 1, true) else (fuse, decide (fuse < 0))
set_option maxHeartbeats 1000000 in
set_option maxRecDepth 100000 in
theorem disk_burn (E : Env) (q : HP) (d : Nat) (room fuse : Int) (m : Nat) (w : World) (hf : fuse ≤ 9223372036854775807) (hw : Sat E w (HP.dsk d room fuse m * q)) :
    Calls Try.prog 38 #[.pointer (some ⟨d, 0, none⟩)] w fun e w' => e = .returned (.bool (burnI fuse).2) ∧ Sat E w' (HP.dsk d room (burnI fuse).1 m * q) := by
  have c2 := hw.cell 2
  have f2 := hw.thaw 2
  simp only [List.getElem?_toArray, List.getElem?_cons_zero, List.getElem?_cons_succ] at c2
  have HT := fun v => hw.set (i := 2) v
  have HW := Aside.mk (And.intro hw HT)
  clear hw HT
  go_enter Try.func38, Try.ntmps38
  by_cases h : 0 < fuse
  · have e1 : burnI fuse = (fuse - 1, true) := by simp [burnI, h]
    have H1 := Aside.mk e1
    clear e1
    go_wp2
    go_ret
    rw [H1.out]
    exact ⟨rfl, HW.out.2 (.int .i64 (fuse - 1))⟩
  · have e1 : burnI fuse = (fuse, decide (fuse < 0)) := by simp [burnI, h]
    have H1 := Aside.mk e1
    clear e1
    go_wp2
    go_ret
    rw [H1.out]
    exact ⟨rfl, HW.out.1⟩
set_option maxHeartbeats 1000000 in
set_option maxRecDepth 100000 in
theorem disk_fuse (E : Env) (q : HP) (d : Nat) (room fuse : Int) (m : Nat) (n : Int) (w : World) (hw : Sat E w (HP.dsk d room fuse m * q)) :
    Calls Try.prog 35 #[.pointer (some ⟨d, 0, none⟩), .int .i64 n] w fun e w' => (n < 0 ∧ e = .returned (.int .i64 1) ∧ w' = w) ∨ (0 ≤ n ∧ e = .returned (.int .i64 0) ∧ Sat E w' (HP.dsk d room n m * q)) := by
  go_enter Try.func35, Try.ntmps35
  go_wp2_with fail
  refine (disk_none E q d room fuse m w hw).mono ?_
  rintro e w1 ⟨rfl, rfl⟩
  have f2 := hw.thaw 2
  have c2 := hw.cell 2
  simp only [List.getElem?_toArray, List.getElem?_cons_zero, List.getElem?_cons_succ] at c2
  have HT := Aside.mk (hw.set (i := 2) (.int .i64 n))
  clear hw
  by_cases h : n < 0
  · go_wp2
    go_ret
    exact .inl ⟨h, rfl, rfl⟩
  · go_wp2
    go_ret
    exact .inr ⟨by omega, rfl, HT.out⟩
end Go.Proofs.Ytgdcdcacccaanaa
