/- (*Disk).Read. -/
import Derived.Test.YtgdcdcacccaanaaCloneB
namespace Go.Proofs.Ytgdcdcacccaanaa
open Go.RowKit HP
set_option linter.unusedSimpArgs false
set_option linter.unusedVariables false

def readPost (E : Env) (q : HP) (r : Option (Nat × Cel)) (e : Ending) (w' : World) : Prop :=
  match r with
  | none => e = .returned (.tuple #[.slice none 0 0, .int .i64 30]) ∧ Sat E w' q
  | some x => ∃ v, e = .returned (.tuple #[v, .int .i64 0]) ∧ Sat E w' (HP.row 5 1 v 128 (b8s x.2.read) * q)
set_option maxHeartbeats 1000000 in
set_option maxRecDepth 100000 in
theorem disk_read (E : Env) (q : HP) (d : Nat) (room fuse : Int) (m : Nat) (es : Array MapEntry) (clock : Nat) (fs : List Fil) (name : ByteArray) (i : Int) (w : World) (hn : name.size ≤ maxLen) (hm : MapOf es clock fs) (hg : Good fs) (hw : Sat E w (HP.dk d room fuse m es clock fs * q)) :
    Calls Try.prog 16 #[.pointer (some ⟨d, 0, none⟩), .string name, .int .i64 i] w (readPost E (HP.dk d room fuse m es clock fs * q) (celAt fs name i)) := by
  go_enter Try.func16, Try.ntmps16
  go_wp2_with fail
  have h1 : Sat E w (HP.dsk d room fuse m * (HP.pt m (.map es clock) * (HP.all (fs.map HP.fil) * q))) := hw.perm (by unfold HP.dk; ac_rfl)
  refine (disk_none E _ d room fuse m w h1).mono ?_
  rintro e w1 ⟨rfl, rfl⟩
  clear h1
  go_wp2_with fail
  refine (disk_at E q d room fuse m es clock fs name i _ hn hm hw).mono ?_
  rintro e w2 ⟨rfl, rfl⟩
  rw [cellAt_eq]
  cases hx : celAt fs name i with
  | none =>
    have HT : Aside (readPost E (HP.dk d room fuse m es clock fs * q) (celAt fs name i) (.returned (.tuple #[.slice none 0 0, .int .i64 30])) w2) := ⟨by rw [hx]; exact ⟨rfl, hw⟩⟩
    clear hw hx hm hg
    go_wp2
    go_ret2
    exact HT.out
  | some x =>
    obtain ⟨f, hf, hxf⟩ := celAt_mem hx
    obtain ⟨r, hr⟩ := Sat.cel_of hw hf hxf
    have hlen := (hg f hf x hxf).1
    obtain ⟨bk, c⟩ := x
    have hcells : Cells w2 (some ⟨bk, 0, none⟩) (b8s c.read) := fun j u hj => by
      refine ⟨_, rfl, ?_⟩
      rw [addr_add, Nat.zero_add]
      have := Sat.cell (E := E) (q := r) (w := w2) (b := bk) (c := c.vals.toArray) hr j
      rw [this]
      have hjl := (List.getElem?_eq_some_iff.1 hj).1
      simp only [List.getElem?_toArray, Cel.vals]
      rw [List.getElem?_append_left hjl, hj]
    have HX := Aside.mk hx
    have HH := Aside.mk (And.intro hw (And.intro hcells hlen))
    clear hw hx hm hg hr hf hxf hcells hlen
    go_wp2_with fail
    refine (cloneBytes_ok E _ (some ⟨bk, 0, none⟩) c.read 128 128 _ HH.out.2.2 (by omega) HH.out.1 HH.out.2.1).mono ?_
    rintro e w3 ⟨v, rfl, hw3⟩
    have HT : Aside (readPost E (HP.dk d room fuse m es clock fs * q) (celAt fs name i) (.returned (.tuple #[v, .int .i64 0])) w3) := ⟨by
      rw [HX.out]; exact ⟨v, rfl, hw3⟩⟩
    clear HH HX hw3
    go_wp2
    go_ret2
    exact HT.out
end Go.Proofs.Ytgdcdcacccaanaa
