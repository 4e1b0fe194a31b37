/- (*Disk).Write: what it refuses. -/
import Derived.Test.YtgdcdcacccaanaaDiskW
import Derived.Test.YtgdcdcacccaanaaDiskH
namespace Go.Proofs.Ytgdcdcacccaanaa
open Go.RowKit HP
set_option linter.unusedSimpArgs false
set_option linter.unusedVariables false

theorem le_sum_mem {l : List Nat} {n : Nat} (h : n ∈ l) : n ≤ l.sum := by
  induction l with
  | nil => cases h
  | cons x l ih =>
    rw [List.sum_cons]
    rcases List.mem_cons.1 h with rfl | h
    · omega
    · have := ih h; omega
/-- What stands at a name, in a world's words: the slice that the map holds. -/
theorem find_file {E : Env} {q : HP} {w : World} {d : Nat} {m : Nat} {A : Dk} {es : Array MapEntry} {clock : Nat} {fs : List Fil} (hv : View A es clock fs) (hw : Sat E w (HP.dk d A.room A.fuse m es clock fs * q)) (name : ByteArray) (hn : name.size ≤ maxLen) :
    ∃ (v : Value) (B : Option Addr) (c : Nat), v = .slice B (A.at name).length c ∧ (Instr.lookup 68 (.map (some m)) (.string name) false).run Try.prog w = .ok v w ∧ (Instr.lookup 68 (.map (some m)) (.string name) true).run Try.prog w = .ok (.tuple #[v, .bool (lk A.files name).isSome]) w ∧
      ((lk A.files name = none ∧ v = .slice none 0 0) ∨ ∃ (j : Nat) (f : Fil), fs[j]? = some f ∧ f.name = name ∧ f.val = v ∧ lk A.files name = some f.cs) := by
  rcases lookup_file hv.map hw name hn with ⟨h1, h2, h3⟩ | ⟨j, f, hj, hname, hf, h2, h3⟩
  · have hlk : lk A.files name = none := by rw [← hv.same]; unfold lkF; rw [h1]; rfl
    refine ⟨_, none, 0, ?_, h2, ?_, .inl ⟨hlk, rfl⟩⟩
    · simp [Dk.at, hlk]
    · rw [hlk]; exact h3
  · have hlk : lk A.files name = some f.cs := by rw [← hv.same]; unfold lkF; rw [hf]; rfl
    obtain ⟨B, c, hvl⟩ := val_slice hw (List.mem_of_getElem? hj)
    refine ⟨f.val, B, c, ?_, h2, ?_, .inr ⟨j, f, hj, hname, rfl, hlk⟩⟩
    · simp [Dk.at, hlk, hvl, Fil.cs]
    · rw [hlk]; exact h3
theorem burnt_dsk {E : Env} {q : HP} {w : World} {d m : Nat} {A : Dk} {es : Array MapEntry} {clock : Nat} {fs : List Fil} (h : Sat E w (HP.dsk d A.room (burnI A.fuse).1 m * (HP.pt m (.map es clock) * (HP.all (fs.map HP.fil) * q)))) :
    Sat E w (HP.dk d A.burnt.room A.burnt.fuse m es clock fs * q) := h.perm (by unfold HP.dk Dk.burnt; ac_rfl)
theorem dk_parts {E : Env} {q : HP} {w : World} {d m : Nat} {room fuse : Int} {es : Array MapEntry} {clock : Nat} {fs : List Fil} (h : Sat E w (HP.dk d room fuse m es clock fs * q)) :
    Sat E w (HP.dsk d room fuse m * (HP.pt m (.map es clock) * (HP.all (fs.map HP.fil) * q))) := h.perm (by unfold HP.dk; ac_rfl)
theorem at_le {A : Dk} (h : A.Fine) (s : ByteArray) : (A.at s).length ≤ sizeF A.files := by
  unfold Dk.at
  cases hl : lk A.files s with
  | none => simp
  | some l =>
    have hm := lk_mem hl
    simp only [Option.getD_some, sizeF]
    exact le_sum_mem (List.mem_map.2 ⟨_, hm, rfl⟩)
theorem at_small {A : Dk} (h : A.Fine) (s : ByteArray) : (A.at s).length ≤ 100000 := by
  have h1 := at_le h s
  have h2 := h.fits
  have h3 := h.room
  omega
set_option maxHeartbeats 1000000 in
set_option maxRecDepth 100000 in
theorem disk_write_arg (E : Env) (q : HP) (d : Nat) (A : Dk) (name : ByteArray) (i : Int) (Ab : Option Addr) (l : List Int) (n c : Nat) (w : World) (hn : name.size ≤ maxLen) (hl : l.length = n) (hs : n ≤ maxLen)
    (hbad : namedB name = false ∨ l.length ≠ 128 ∨ i < 0 ∨ (A.at name).length < i) (hw : Sat E w (HP.disk d A * q)) :
    Calls Try.prog 12 #[.pointer (some ⟨d, 0, none⟩), .string name, .int .i64 i, .slice Ab n c] w fun e w' => e = .returned (.int .i64 1) ∧ Sat E w' (HP.disk d A * q) := by
  obtain ⟨m, es, clock, fs, hv, hd⟩ := hw.disk_open
  have hsm := at_small hv.fine name
  unfold maxLen at hs
  clear hw
  go_enter Try.func12, Try.ntmps12
  go_wp2_with fail
  refine (disk_none E _ d _ _ m w (dk_parts hd)).mono ?_
  rintro e w1 ⟨rfl, rfl⟩
  have c1 := (dk_parts hd).cell 1
  simp only [List.getElem?_toArray, List.getElem?_cons_zero, List.getElem?_cons_succ] at c1
  obtain ⟨v, B, cc, hvB, hlook, -, -⟩ := find_file hv hd name hn
  rw [hvB] at hlook
  clear hvB
  generalize (A.at name).length = k at *
  go_wp2_with fail
  refine (named_ok E _ name w1 hd).mono ?_
  rintro e w2 ⟨rfl, hd2⟩
  have HT : Aside (Sat E w2 (HP.disk d A * q)) := ⟨Sat.disk_close hv hd2⟩
  clear hd hd2 hv c1 hlook
  cases hnm : namedB name with
  | false =>
    clear hnm hbad
    go_wp2
    go_ret
    exact ⟨rfl, HT.out⟩
  | true =>
    rw [hnm] at hbad
    have hbad : l.length ≠ 128 ∨ i < 0 ∨ (k : Int) < i := by simpa using hbad
    clear hnm
    by_cases h1 : n = 128
    · subst h1
      have hbad : i < 0 ∨ (k : Int) < i := by omega
      by_cases h2 : i < 0
      · clear hbad
        go_wp2
        go_ret
        exact ⟨rfl, HT.out⟩
      · have h3 : (k : Int) < i := by omega
        clear hbad
        go_wp2
        go_ret
        exact ⟨rfl, HT.out⟩
    · have h1' : ¬ ((n : Int) = 128) := by omega
      clear hbad
      go_wp2
      go_ret
      exact ⟨rfl, HT.out⟩
end Go.Proofs.Ytgdcdcacccaanaa
