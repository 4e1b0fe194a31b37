/- A cursor that no call made: Seek, Next, All; and the law PostingsNobody's walk. -/
import Derived.Test.YtdcmanihihlaiaaAwake25
namespace Go.Proofs.Ytdcmanihihlaiaa
open Go.RowKit HP
set_option linter.unusedSimpArgs false
set_option linter.unusedVariables false

set_option maxHeartbeats 1000000 in
set_option maxRecDepth 100000 in
theorem seek_nil (n : Int) (w : World) : Calls Try.prog 21 #[.pointer none, .int .i64 n] w fun e w' => e = .returned (.tuple #[.int .i64 0, .bool false]) ∧ w' = w := by
  go_enter Try.func21, Try.ntmps21
  go_wp2
  go_ret2
  exact ⟨rfl, rfl⟩
set_option maxHeartbeats 1000000 in
set_option maxRecDepth 100000 in
theorem next_nil (w : World) : Calls Try.prog 20 #[.pointer none] w fun e w' => e = .returned (.tuple #[.int .i64 0, .bool false]) ∧ w' = w := by
  go_enter Try.func20, Try.ntmps20
  go_wp2_with fail
  refine (seek_nil 0 w).mono ?_
  rintro e w1 ⟨rfl, rfl⟩
  go_wp2
  go_ret2
  exact ⟨rfl, rfl⟩
set_option maxHeartbeats 1000000 in
set_option maxRecDepth 100000 in
theorem all_nil (w : World) : Calls Try.prog 22 #[.pointer none] w fun e w' => e = .returned (.slice none 0 0) ∧ w' = w := by
  go_enter Try.func22, Try.ntmps22
  go_wp2_with fail
  refine (next_nil w).mono ?_
  rintro e w1 ⟨rfl, rfl⟩
  go_wp2
  go_loopw [3, 5] (fun x y wr => x = .slice none 0 0 ∧ y = .bool false ∧ wr = w1) (fun _ _ _ => 0)
  case atStart => exact ⟨rfl, rfl, rfl⟩
  case round =>
    obtain ⟨rfl, rfl, rfl⟩ := hrel
    go_wp2
    go_ret
    exact ⟨rfl, rfl⟩

def HP.cur (b : Nat) (over : Bool) : HP := HP.pt b (.cells #[.nilIface, .int .i64 0, .bool over] 42)
set_option maxHeartbeats 1000000 in
set_option maxRecDepth 100000 in
theorem seek_new (E : Env) (q : HP) (b : Nat) (n : Int) (w : World) (hw : Sat E w (HP.cur b false * q)) : Calls Try.prog 21 #[.pointer (some ⟨b, 0, none⟩), .int .i64 n] w fun e w' => e = .returned (.tuple #[.int .i64 0, .bool false]) ∧ w' = w := by
  go_enter Try.func21, Try.ntmps21
  have c0 := hw.cell 0
  have c1 := hw.cell 1
  have c2 := hw.cell 2
  simp only [List.getElem?_toArray, List.getElem?_cons_zero, List.getElem?_cons_succ] at c0 c1 c2
  clear hw
  go_wp2
  go_ret2
  exact ⟨rfl, rfl⟩
set_option maxHeartbeats 1000000 in
set_option maxRecDepth 100000 in
theorem next_new (E : Env) (q : HP) (b : Nat) (w : World) (hw : Sat E w (HP.cur b false * q)) : Calls Try.prog 20 #[.pointer (some ⟨b, 0, none⟩)] w fun e w' => e = .returned (.tuple #[.int .i64 0, .bool false]) ∧ w' = w := by
  go_enter Try.func20, Try.ntmps20
  go_wp2_with fail
  refine (seek_new E q b 0 w hw).mono ?_
  rintro e w1 ⟨rfl, rfl⟩
  clear hw
  go_wp2
  go_ret2
  exact ⟨rfl, rfl⟩
set_option maxHeartbeats 1000000 in
set_option maxRecDepth 100000 in
theorem all_new (E : Env) (q : HP) (b : Nat) (w : World) (hw : Sat E w (HP.cur b false * q)) : Calls Try.prog 22 #[.pointer (some ⟨b, 0, none⟩)] w fun e w' => e = .returned (.slice none 0 0) ∧ Sat E w' (HP.cur b true * q) := by
  go_enter Try.func22, Try.ntmps22
  go_wp2_with fail
  refine (next_new E q b w hw).mono ?_
  rintro e w1 ⟨rfl, rfl⟩
  have HS := Aside.mk hw
  clear hw
  go_wp2
  go_loopw [3, 5] (fun x y wr => x = .slice none 0 0 ∧ y = .bool false ∧ wr = w1) (fun _ _ _ => 0)
  case atStart => exact ⟨rfl, rfl, rfl⟩
  case round =>
    obtain ⟨rfl, rfl, rfl⟩ := hrel
    have c2 := HS.out.cell 2
    have f2 := HS.out.thaw 2
    have HT := Aside.mk (HS.out.set (i := 2) (.bool true))
    simp only [List.getElem?_toArray, List.getElem?_cons_zero, List.getElem?_cons_succ] at c2
    go_wp2
    go_ret
    exact ⟨rfl, HT.out⟩

set_option maxHeartbeats 2000000 in
set_option maxRecDepth 100000 in
theorem nobody_ok (E : Env) (q : HP) (n : Int) (w : World) (hw : Sat E w q) : Calls Try.prog 6 #[.int .i64 n] w fun e w' => e = .returned (.bool true) ∧ Sat E w' q := by
  go_enter Try.func6, Try.ntmps6
  go_wp2_with fail
  have HS := Aside.mk ((hw.alloc (.cells #[.nilIface, .int .i64 0, .bool false] 42)).alloc (.cells #[.pointer none, .pointer (some ⟨w.heap.size, 0, none⟩)] 38))
  have hsz : (w.alloc (.cells #[.nilIface, .int .i64 0, .bool false] 42)).heap.size = w.heap.size + 1 := by
    show (w.heap.push _).size = _
    exact Array.size_push _
  rw [hsz] at HS
  clear hw hsz
  generalize w.heap.size = b at *
  generalize World.alloc (World.alloc _ _) _ = w0 at *
  go_loopw [13] (fun x wr => (x = .int .i64 0 ∧ Aside (Sat E wr (HP.pt (b + 1) (.cells #[.pointer none, .pointer (some ⟨b, 0, none⟩)] 38) * (HP.cur b false * q)))) ∨
      (x = .int .i64 1 ∧ Aside (Sat E wr (HP.pt (b + 1) (.cells #[.pointer none, .pointer (some ⟨b, 0, none⟩)] 38) * (HP.cur b false * q)))) ∨ (x = .int .i64 2 ∧ Aside (Sat E wr q))) (fun x _ => 2 - (intOf x).toNat)
  case atStart => exact .inl ⟨rfl, HS⟩
  case round =>
    clear HS
    rcases hrel with ⟨rfl, HS⟩ | ⟨rfl, HS⟩ | ⟨rfl, HS⟩
    · have c0 := HS.out.cell 0
      simp only [List.getElem?_toArray, List.getElem?_cons_zero, List.getElem?_cons_succ] at c0
      go_wp2_with fail
      refine (next_nil _).mono ?_
      rintro e w1 ⟨rfl, rfl⟩
      go_wp2_with fail
      refine (seek_nil n _).mono ?_
      rintro e w1 ⟨rfl, rfl⟩
      go_wp2_with fail
      refine (all_nil _).mono ?_
      rintro e w1 ⟨rfl, rfl⟩
      go_wp2
      go_roundw
      case rel => exact .inr (.inl ⟨rfl, HS⟩)
      case measure => simp [intOf]
    · have c0 := HS.out.cell 1
      simp only [List.getElem?_toArray, List.getElem?_cons_zero, List.getElem?_cons_succ] at c0
      have h1 := HS.out.s2
      clear HS
      go_wp2_with fail
      refine (next_new E _ b _ h1).mono ?_
      rintro e w1 ⟨rfl, rfl⟩
      go_wp2_with fail
      refine (seek_new E _ b n _ h1).mono ?_
      rintro e w1 ⟨rfl, rfl⟩
      go_wp2_with fail
      refine (all_new E _ b _ h1).mono ?_
      rintro e w1 ⟨rfl, h2⟩
      have HS := Aside.mk h2.right.right
      clear h1 h2
      go_wp2
      go_roundw
      case rel => exact .inr (.inr ⟨by first | rfl | trivial, HS⟩)
      case measure => simp [intOf]
    · go_wp2_with fail
      refine (awake_ok E q _ HS.out).mono ?_
      rintro e w1 ⟨rfl, h1⟩
      have HT := Aside.mk h1
      clear HS h1
      go_wp2
      go_ret
      exact ⟨rfl, HT.out⟩
end Go.Proofs.Ytdcmanihihlaiaa
