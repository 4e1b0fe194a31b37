/- (*Disk).Write: a disk that has stopped, or is full. -/
import Derived.Test.YtgdcdcacccaanaaDiskX
namespace Go.Proofs.Ytgdcdcacccaanaa
open Go.RowKit HP
set_option linter.unusedSimpArgs false
set_option linter.unusedVariables false

set_option maxHeartbeats 1000000 in
set_option maxRecDepth 100000 in
theorem disk_write_dead (E : Env) (q : HP) (d : Nat) (A : Dk) (name : ByteArray) (i : Int) (Ab : Option Addr) (c : Nat) (w : World) (hn : name.size ≤ maxLen)
    (hnm : namedB name = true) (hi0 : 0 ≤ i) (hi1 : i ≤ (A.at name).length) (hgo : A.goes = false) (hw : Sat E w (HP.disk d A * q)) :
    Calls Try.prog 12 #[.pointer (some ⟨d, 0, none⟩), .string name, .int .i64 i, .slice Ab 128 c] w fun e w' => e = .returned (.int .i64 31) ∧ Sat E w' (HP.disk d A.burnt * q) := by
  obtain ⟨m, es, clock, fs, hv, hd⟩ := hw.disk_open
  have hsm := at_small hv.fine name
  have hfu := hv.fine.fuse
  clear hw
  go_enter Try.func12, Try.ntmps12
  go_wp2_with fail
  refine (disk_none E _ d _ _ m w (dk_parts hd)).mono ?_
  rintro e w1 ⟨rfl, rfl⟩
  have c1 := (dk_parts hd).cell 1
  simp only [List.getElem?_toArray, List.getElem?_cons_zero, List.getElem?_cons_succ] at c1
  obtain ⟨v, B, cc, hvB, hlook, -, -⟩ := find_file hv hd name hn
  rw [hvB] at hlook
  clear hvB
  generalize (A.at name).length = k at *
  go_wp2_with fail
  refine (named_ok E _ name w1 hd).mono ?_
  rintro e w2 ⟨rfl, hd2⟩
  clear hd c1 hlook
  rw [hnm]
  clear hnm
  go_wp2_with fail
  refine (disk_burn E _ d _ _ m w2 hfu.2 (dk_parts hd2)).mono ?_
  rintro e w3 ⟨rfl, hd3⟩
  have HT : Aside (Sat E w3 (HP.disk d A.burnt * q)) := ⟨Sat.disk_close hv.burnt (burnt_dsk hd3)⟩
  have hgo' : (burnI A.fuse).2 = false := hgo
  rw [hgo']
  clear hd2 hd3 hv hgo hgo' hfu
  go_wp2
  go_ret
  exact ⟨rfl, HT.out⟩
theorem burnt_files (A : Dk) : A.burnt.files = A.files := rfl
theorem burnt_at (A : Dk) (s : ByteArray) : A.burnt.at s = A.at s := rfl
theorem burnt_free (A : Dk) : A.burnt.free = A.free := rfl
set_option maxHeartbeats 1000000 in
set_option maxRecDepth 100000 in
theorem disk_write_full (E : Env) (q : HP) (d : Nat) (A : Dk) (name : ByteArray) (Ab : Option Addr) (c : Nat) (w : World) (hn : name.size ≤ maxLen)
    (hnm : namedB name = true) (hgo : A.goes = true) (hfr : A.free ≤ 0) (hw : Sat E w (HP.disk d A * q)) :
    Calls Try.prog 12 #[.pointer (some ⟨d, 0, none⟩), .string name, .int .i64 ((A.at name).length : Int), .slice Ab 128 c] w fun e w' => e = .returned (.int .i64 4) ∧ Sat E w' (HP.disk d A.burnt * q) := by
  obtain ⟨m, es, clock, fs, hv, hd⟩ := hw.disk_open
  have hsm := at_small hv.fine name
  have hfu := hv.fine.fuse
  have htt := hv.total
  have hszl := hv.size_le
  have hrm := hv.fine.room
  clear hw
  go_enter Try.func12, Try.ntmps12
  go_wp2_with fail
  refine (disk_none E _ d _ _ m w (dk_parts hd)).mono ?_
  rintro e w1 ⟨rfl, rfl⟩
  have c1 := (dk_parts hd).cell 1
  simp only [List.getElem?_toArray, List.getElem?_cons_zero, List.getElem?_cons_succ] at c1
  obtain ⟨v, B, cc, hvB, hlook, -, -⟩ := find_file hv hd name hn
  rw [hvB] at hlook
  clear hvB
  generalize (A.at name).length = k at *
  have HH := Aside.mk (And.intro htt (And.intro hszl hrm))
  clear htt hszl hrm
  go_wp2_with fail
  refine (named_ok E _ name w1 hd).mono ?_
  rintro e w2 ⟨rfl, hd2⟩
  clear hd c1 hlook
  rw [hnm]
  clear hnm
  go_wp2_with fail
  refine (disk_burn E _ d _ _ m w2 hfu.2 (dk_parts hd2)).mono ?_
  rintro e w3 ⟨rfl, hd3⟩
  have hgo' : (burnI A.fuse).2 = true := hgo
  rw [hgo']
  clear hd2 hgo hgo' hfu
  go_wp2_with fail
  refine (disk_free E q d A.burnt.room A.burnt.fuse m es clock fs w3 hv.map HH.out.2.2 (by rw [HH.out.1]; have := HH.out.2.1; omega) (burnt_dsk hd3)).mono ?_
  rintro e w4 ⟨rfl, hd4⟩
  have HT : Aside (Sat E w4 (HP.disk d A.burnt * q)) := ⟨Sat.disk_close hv.burnt hd4⟩
  have hr : A.burnt.room - (total fs : Int) ≤ 0 := by
    have := HH.out.1
    unfold Dk.free at hfr
    rw [this]; exact hfr
  generalize A.burnt.room - (total fs : Int) = fr at *
  clear hd4 hd3 hv hfr HH
  go_wp2
  go_ret
  exact ⟨rfl, HT.out⟩
end Go.Proofs.Ytgdcdcacccaanaa
