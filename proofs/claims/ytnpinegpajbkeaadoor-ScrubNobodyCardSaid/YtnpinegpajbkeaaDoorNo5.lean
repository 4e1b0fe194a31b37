/- Texts of one claim, one behind the other: DiskRm, Nones, PairA, PairW, StA, StB, DiskRo, StC, PairP, PairD, ChunkA, ChunkB, PairS, PairG, ExtP, FreshP, NeedsP, PairLo, HeldP. -/
import Derived.Test.YtnpinegpajbkeaaDoorNo4
import Derived.Shelf.Abstract
import Derived.Shelf.RegionOpen
import Derived.OwnWalkIn
import Derived.TacticsInMore
import Derived.LoopNIn
import Derived.LoopIn
import Derived.Outline
import Derived.IntWalk
/- (*Disk).Remove, Extents, Free, Fuse: over a disk told by its files. -/
namespace Go.Proofs.YtnpinegpajbkeaaDoor
open Go.RowKit HP
set_option linter.unusedSimpArgs false
set_option linter.unusedVariables false

set_option maxHeartbeats 1000000 in
set_option maxRecDepth 100000 in
theorem disk_extents (E : Env) (q : HP) (d : Nat) (A : Dk) (name : ByteArray) (w : World) (hn : name.size ≤ maxLen) (hw : Sat E w (HP.disk d A * q)) :
    Calls Tryd.prog 48 #[.pointer (some ⟨d, 0, none⟩), .string name] w fun e w' => e = .returned (.int .i64 ((A.at name).length : Int)) ∧ w' = w := by
  obtain ⟨m, es, clock, fs, hv, hd⟩ := hw.disk_open
  have hsm := at_small hv.fine name
  obtain ⟨k, hk⟩ : ∃ k, k = (A.at name).length := ⟨_, rfl⟩
  simp only [← hk] at hsm ⊢
  clear hw
  go_enter Tryd.func48, Tryd.ntmps48
  go_wp2_with fail
  refine (disk_none E _ d _ _ m w (dk_parts hd)).mono ?_
  rintro e w1 ⟨rfl, rfl⟩
  have c1 := (dk_parts hd).cell 1
  simp only [List.getElem?_toArray, List.getElem?_cons_zero, List.getElem?_cons_succ] at c1
  obtain ⟨v, B, cc, hvB, hlook, -, -⟩ := find_file hv hd name hn
  rw [hvB] at hlook
  clear hvB hd hv
  rw [← hk] at hlook
  clear hk
  go_wp2
  go_ret
  exact ⟨rfl, rfl⟩
theorem disk_free_ok (E : Env) (q : HP) (d : Nat) (A : Dk) (w : World) (hw : Sat E w (HP.disk d A * q)) :
    Calls Tryd.prog 83 #[.pointer (some ⟨d, 0, none⟩)] w fun e w' => e = .returned (.int .i64 A.free) ∧ Sat E w' (HP.disk d A * q) := by
  obtain ⟨m, es, clock, fs, hv, hd⟩ := hw.disk_open
  refine (disk_free E q d A.room A.fuse m es clock fs w hv.map hv.fine.room (by rw [hv.total]; have := hv.size_le; omega) hd).mono ?_
  rintro e w' ⟨rfl, h⟩
  exact ⟨by rw [hv.total]; rfl, Sat.disk_close hv h⟩
theorem disk_fuse_ok (E : Env) (q : HP) (d : Nat) (A : Dk) (n : Int) (w : World) (hn : n ≤ 9223372036854775807) (hw : Sat E w (HP.disk d A * q)) :
    Calls Tryd.prog 38 #[.pointer (some ⟨d, 0, none⟩), .int .i64 n] w fun e w' => (n < 0 ∧ e = .returned (.int .i64 1) ∧ Sat E w' (HP.disk d A * q)) ∨ (0 ≤ n ∧ e = .returned (.int .i64 0) ∧ Sat E w' (HP.disk d { A with fuse := n } * q)) := by
  obtain ⟨m, es, clock, fs, hv, hd⟩ := hw.disk_open
  refine (disk_fuse E _ d _ _ m n w (dk_parts hd)).mono ?_
  rintro e w' (⟨h1, rfl, rfl⟩ | ⟨h1, rfl, h⟩)
  · exact .inl ⟨h1, rfl, hw⟩
  · refine .inr ⟨h1, rfl, Sat.disk_close (m := m) (hv.fuel n ⟨by omega, hn⟩) (h.perm ?_)⟩
    unfold HP.dk
    ac_rfl
/-- Whether a disk was made: 'Fuse(-1)' of one that was. -/
theorem disk_asked (E : Env) (q : HP) (d : Nat) (A : Dk) (w : World) (hw : Sat E w (HP.disk d A * q)) :
    Calls Tryd.prog 38 #[.pointer (some ⟨d, 0, none⟩), .int .i64 (-1)] w fun e w' => e = .returned (.int .i64 1) ∧ Sat E w' (HP.disk d A * q) :=
  (disk_fuse_ok E q d A (-1) w (by omega) hw).mono fun e w' h => by
    rcases h with ⟨_, he, hs⟩ | ⟨h0, _, _⟩
    · exact ⟨he, hs⟩
    · omega
set_option maxHeartbeats 1000000 in
set_option maxRecDepth 100000 in
theorem disk_remove (E : Env) (q : HP) (d : Nat) (A : Dk) (name : ByteArray) (w : World) (hn : name.size ≤ maxLen) (hw : Sat E w (HP.disk d A * q)) :
    Calls Tryd.prog 80 #[.pointer (some ⟨d, 0, none⟩), .string name] w fun e w' => e = .returned (.int .i64 (A.remove name).1) ∧ Sat E w' (HP.disk d (A.remove name).2 * q) := by
  obtain ⟨m, es, clock, fs, hv, hd⟩ := hw.disk_open
  have hfu := hv.fine.fuse
  have HF : Aside (A.remove name = match lk A.files name with
    | none => (30, A)
    | some _ => if A.goes = false then (31, A.burnt) else (0, { A.burnt with files := delF A.files name })) := ⟨rfl⟩
  clear hw
  go_enter Tryd.func80, Tryd.ntmps80
  go_wp2_with fail
  refine (disk_none E _ d _ _ m w (dk_parts hd)).mono ?_
  rintro e w1 ⟨rfl, rfl⟩
  have c1 := (dk_parts hd).cell 1
  simp only [List.getElem?_toArray, List.getElem?_cons_zero, List.getElem?_cons_succ] at c1
  obtain ⟨v, B, cc, hvB, -, hlook, hcase⟩ := find_file hv hd name hn
  clear hvB
  rcases hcase with ⟨hlk, -⟩ | ⟨j, f, hj, hname, hfv, hlk⟩
  · rw [hlk] at HF hlook
    have HT : Aside (A.remove name = (30, A) ∧ Sat E w1 (HP.disk d A * q)) := ⟨HF.out, Sat.disk_close hv hd⟩
    clear HF hd hv hlk hfu
    go_wp2
    go_ret
    rw [HT.out.1]
    exact ⟨rfl, HT.out.2⟩
  · rw [hlk] at HF hlook
    subst hname
    have HV := Aside.mk (And.intro hv hj)
    clear hlk hv hj hfv
    go_wp2_with fail
    refine (disk_burn E _ d _ _ m w1 hfu.2 (dk_parts hd)).mono ?_
    rintro e w3 ⟨rfl, hd3⟩
    cases hgo : A.goes with
    | false =>
      have hgo' : (burnI A.fuse).2 = false := hgo
      rw [hgo']
      have HT : Aside (A.remove f.name = (31, A.burnt) ∧ Sat E w3 (HP.disk d A.burnt * q)) := ⟨by rw [HF.out]; simp [hgo], Sat.disk_close HV.out.1.burnt (burnt_dsk hd3)⟩
      clear HF hd hd3 HV hgo hgo' hfu hlook c1
      go_wp2
      go_ret
      rw [HT.out.1]
      exact ⟨rfl, HT.out.2⟩
    | true =>
      have hgo' : (burnI A.fuse).2 = true := hgo
      rw [hgo']
      have HS : Aside (A.remove f.name = (0, { A.burnt with files := delF A.files f.name })) := ⟨by rw [HF.out]; simp [hgo]⟩
      obtain ⟨hv, hj⟩ := HV.out
      have c3 := hd3.cell 1
      simp only [List.getElem?_toArray, List.getElem?_cons_zero, List.getElem?_cons_succ] at c3
      have hrun : (Builtin.delete_ #[36, 9] 0 #[.map (some m), .string f.name]).run Tryd.prog w3 = .ok (.tuple #[]) (ChangeMaps.setBlock w3 m (.map (es.eraseIdxIfInBounds j) clock)) := by
        rcases delete_str (P := Tryd.prog) (t := 36) (ty := 0) Tryd.underlying9 Tryd.underlying36 hd3.s2.get hv.map.1 f.name hn with ⟨hno, -⟩ | ⟨i, x, hi, hx, h⟩
        · have h1 : (Value.string f.name, f.val) ∈ fs.map (fun f => (Value.string f.name, f.val)) := List.mem_map.2 ⟨f, List.mem_of_getElem? hj, rfl⟩
          rw [← hv.map.2.1] at h1
          obtain ⟨x, hx, hxe⟩ := List.mem_map.1 h1
          simp only [Prod.mk.injEq] at hxe
          exact absurd hxe.1 (hno x hx)
        · have h6 := congrArg (fun l => l[i]?) hv.map.2.1
          simp only [List.getElem?_map, hi, Option.map_some] at h6
          cases hfi : fs[i]? with
          | none => rw [hfi] at h6; cases h6
          | some g =>
            rw [hfi] at h6
            simp only [Option.map_some, Option.some.injEq, Prod.mk.injEq] at h6
            have hgn : g.name = f.name := by
              have := h6.1.symm.trans hx
              injection this
            have hil : i < fs.length := (List.getElem?_eq_some_iff.1 hfi).1
            have hij : i = j := by
              have e1 : (fs.map (·.name))[i]? = some f.name := by rw [List.getElem?_map, hfi, ← hgn]; rfl
              have e2 : (fs.map (·.name))[j]? = some f.name := by rw [List.getElem?_map, hj]; rfl
              exact (List.getElem?_inj (by simpa using hil) hv.map.2.2.1).1 (e1.trans e2.symm)
            subst hij
            exact h
      have h4 : Sat E (ChangeMaps.setBlock w3 m (.map (es.eraseIdxIfInBounds j) clock)) (HP.disk d { A.burnt with files := delF A.files f.name } * q) := by
        have h5 := Sat.setBlk hd3.s2 (.map (es.eraseIdxIfInBounds j) clock)
        refine Sat.disk_close (m := m) (hv.burnt.erase hj) ?_
        have h6 : Sat E (ChangeMaps.setBlock w3 m (.map (es.eraseIdxIfInBounds j) clock)) (HP.all (fs.map HP.fil) * (HP.pt m (.map (es.eraseIdxIfInBounds j) clock) * (HP.dsk d A.room (burnI A.fuse).1 m * q))) := h5.perm (by ac_rfl)
        rw [all_take (l := fs.map HP.fil) (j := j) (p := HP.fil f) (by rw [List.getElem?_map, hj]; rfl), map_erase] at h6
        exact (h6.perm (HP.mul_assoc _ _ _)).right.perm (by unfold HP.dk; show _ = HP.dsk d A.room (burnI A.fuse).1 m * _ * q; ac_rfl)
      have HT := Aside.mk (And.intro HS.out h4)
      clear HF hd hd3 HV hgo hgo' hfu hlook c1 hv hj h4 HS
      go_wp2_with (at_builtin; refine wpList_delete_run rfl rfl rfl rfl hrun ?_)
      go_ret
      rw [HT.out.1]
      exact ⟨rfl, HT.out.2⟩
end Go.Proofs.YtnpinegpajbkeaaDoor
/- A disk that no call made: what every call answers. -/
namespace Go.Proofs.YtnpinegpajbkeaaDoor
open Go.RowKit HP
set_option linter.unusedSimpArgs false
set_option linter.unusedVariables false

set_option maxHeartbeats 1000000 in
set_option maxRecDepth 100000 in
theorem none_write (p : Value) (s : ByteArray) (i : Int) (v : Value) (w : World) (hn : Calls Tryd.prog 61 #[p] w fun e w' => e = .returned (.bool true) ∧ w' = w) : Calls Tryd.prog 59 #[p, .string s, .int .i64 i, v] w fun e w' => e = .returned (.int .i64 2) ∧ w' = w := by
  go_enter Tryd.func59, Tryd.ntmps59
  go_wp2_with fail
  refine hn.mono ?_
  rintro e w1 ⟨rfl, rfl⟩
  clear hn
  go_wp2
  go_ret
  exact ⟨rfl, rfl⟩
set_option maxHeartbeats 1000000 in
set_option maxRecDepth 100000 in
theorem none_sync (p : Value) (s : ByteArray) (w : World) (hn : Calls Tryd.prog 61 #[p] w fun e w' => e = .returned (.bool true) ∧ w' = w) : Calls Tryd.prog 60 #[p, .string s] w fun e w' => e = .returned (.int .i64 2) ∧ w' = w := by
  go_enter Tryd.func60, Tryd.ntmps60
  go_wp2_with fail
  refine hn.mono ?_
  rintro e w1 ⟨rfl, rfl⟩
  clear hn
  go_wp2
  go_ret
  exact ⟨rfl, rfl⟩
set_option maxHeartbeats 1000000 in
set_option maxRecDepth 100000 in
theorem none_remove (p : Value) (s : ByteArray) (w : World) (hn : Calls Tryd.prog 61 #[p] w fun e w' => e = .returned (.bool true) ∧ w' = w) : Calls Tryd.prog 80 #[p, .string s] w fun e w' => e = .returned (.int .i64 2) ∧ w' = w := by
  go_enter Tryd.func80, Tryd.ntmps80
  go_wp2_with fail
  refine hn.mono ?_
  rintro e w1 ⟨rfl, rfl⟩
  clear hn
  go_wp2
  go_ret
  exact ⟨rfl, rfl⟩
set_option maxHeartbeats 1000000 in
set_option maxRecDepth 100000 in
theorem none_rot (p : Value) (s : ByteArray) (i k m : Int) (w : World) (hn : Calls Tryd.prog 61 #[p] w fun e w' => e = .returned (.bool true) ∧ w' = w) : Calls Tryd.prog 20 #[p, .string s, .int .i64 i, .int .i64 k, .int .u8 m] w fun e w' => e = .returned (.int .i64 2) ∧ w' = w := by
  go_enter Tryd.func20, Tryd.ntmps20
  go_wp2_with fail
  refine hn.mono ?_
  rintro e w1 ⟨rfl, rfl⟩
  clear hn
  go_wp2
  go_ret
  exact ⟨rfl, rfl⟩
set_option maxHeartbeats 1000000 in
set_option maxRecDepth 100000 in
theorem none_fuse (p : Value) (n : Int) (w : World) (hn : Calls Tryd.prog 61 #[p] w fun e w' => e = .returned (.bool true) ∧ w' = w) : Calls Tryd.prog 38 #[p, .int .i64 n] w fun e w' => e = .returned (.int .i64 2) ∧ w' = w := by
  go_enter Tryd.func38, Tryd.ntmps38
  go_wp2_with fail
  refine hn.mono ?_
  rintro e w1 ⟨rfl, rfl⟩
  clear hn
  go_wp2
  go_ret
  exact ⟨rfl, rfl⟩
set_option maxHeartbeats 1000000 in
set_option maxRecDepth 100000 in
theorem none_read (p : Value) (s : ByteArray) (i : Int) (w : World) (hn : Calls Tryd.prog 61 #[p] w fun e w' => e = .returned (.bool true) ∧ w' = w) : Calls Tryd.prog 24 #[p, .string s, .int .i64 i] w fun e w' => e = .returned (.tuple #[.slice none 0 0, .int .i64 2]) ∧ w' = w := by
  go_enter Tryd.func24, Tryd.ntmps24
  go_wp2_with fail
  refine hn.mono ?_
  rintro e w1 ⟨rfl, rfl⟩
  clear hn
  go_wp2
  go_ret2
  exact ⟨rfl, rfl⟩
set_option maxHeartbeats 1000000 in
set_option maxRecDepth 100000 in
theorem none_extents (p : Value) (s : ByteArray) (w : World) (hn : Calls Tryd.prog 61 #[p] w fun e w' => e = .returned (.bool true) ∧ w' = w) : Calls Tryd.prog 48 #[p, .string s] w fun e w' => e = .returned (.int .i64 0) ∧ w' = w := by
  go_enter Tryd.func48, Tryd.ntmps48
  go_wp2_with fail
  refine hn.mono ?_
  rintro e w1 ⟨rfl, rfl⟩
  clear hn
  go_wp2
  go_ret
  exact ⟨rfl, rfl⟩
set_option maxHeartbeats 1000000 in
set_option maxRecDepth 100000 in
theorem none_free (p : Value)  (w : World) (hn : Calls Tryd.prog 61 #[p] w fun e w' => e = .returned (.bool true) ∧ w' = w) : Calls Tryd.prog 83 #[p] w fun e w' => e = .returned (.int .i64 0) ∧ w' = w := by
  go_enter Tryd.func83, Tryd.ntmps83
  go_wp2_with fail
  refine hn.mono ?_
  rintro e w1 ⟨rfl, rfl⟩
  clear hn
  go_wp2
  go_ret
  exact ⟨rfl, rfl⟩
set_option maxHeartbeats 1000000 in
set_option maxRecDepth 100000 in
theorem none_damaged (p : Value)  (w : World) (hn : Calls Tryd.prog 61 #[p] w fun e w' => e = .returned (.bool true) ∧ w' = w) : Calls Tryd.prog 25 #[p] w fun e w' => e = .returned (.slice none 0 0) ∧ w' = w := by
  go_enter Tryd.func25, Tryd.ntmps25
  go_wp2_with fail
  refine hn.mono ?_
  rintro e w1 ⟨rfl, rfl⟩
  clear hn
  go_wp2
  go_ret
  exact ⟨rfl, rfl⟩
set_option maxHeartbeats 1000000 in
set_option maxRecDepth 100000 in
theorem none_copy (p : Value)  (w : World) (hn : Calls Tryd.prog 61 #[p] w fun e w' => e = .returned (.bool true) ∧ w' = w) : Calls Tryd.prog 18 #[p] w fun e w' => e = .returned (.pointer none) ∧ w' = w := by
  go_enter Tryd.func18, Tryd.ntmps18
  go_wp2_with fail
  refine hn.mono ?_
  rintro e w1 ⟨rfl, rfl⟩
  clear hn
  go_wp2
  go_ret
  exact ⟨rfl, rfl⟩
end Go.Proofs.YtnpinegpajbkeaaDoor
/- pair: halves, none. -/
namespace Go.Proofs.YtnpinegpajbkeaaDoor
open Go.RowKit HP
set_option linter.unusedSimpArgs false
set_option linter.unusedVariables false

def dotA : ByteArray := ⟨#[46, 97]⟩
def dotB : ByteArray := ⟨#[46, 98]⟩
theorem agTwo : AgTy Tryd.prog 131 2 := ⟨⟨_, Tryd.underlying131, rfl⟩, by kernel_rfl⟩
set_option maxHeartbeats 1000000 in
set_option maxRecDepth 100000 in
theorem pair_halves (E : Env) (q : HP) (name : ByteArray) (w : World) (hn : name.size + 2 ≤ maxLen) (hw : Sat E w q) :
    Calls Tryd.prog 74 #[.string name] w fun e w' => e = .returned (.agg #[.string (name ++ dotA), .string (name ++ dotB)]) ∧ Sat E w' q := by
  have HW := Aside.mk hw
  have hn2 : name.size + 2 ≤ 9223372036854775807 := by unfold maxLen at hn; omega
  unfold dotA dotB
  go_enter Tryd.func74, Tryd.ntmps74
  have h1 := hw.alloc (.cells [.string (name ++ ⟨#[46, 97]⟩), .string (name ++ ⟨#[46, 98]⟩)].toArray 131)
  have r1 := run_loadAgg (P := Tryd.prog) (n := 2) agTwo rfl (Sat.ptCells (off := 0) (l := [.string (name ++ ⟨#[46, 97]⟩), .string (name ++ ⟨#[46, 98]⟩)]) h1 rfl)
  go_wp2
  exact ⟨rfl, _, results_cell (t := 2) (by kernel_rfl) rfl r1, rfl, h1.right⟩
set_option maxHeartbeats 1000000 in
set_option maxRecDepth 100000 in
theorem pair_none (E : Env) (q : HP) (d : Nat) (A : Dk) (w : World) (hw : Sat E w (HP.disk d A * q)) :
    Calls Tryd.prog 96 #[.pointer (some ⟨d, 0, none⟩)] w fun e w' => e = .returned (.bool false) ∧ Sat E w' (HP.disk d A * q) := by
  have HW := Aside.mk hw
  clear hw
  go_enter Tryd.func96, Tryd.ntmps96
  go_wp2_with fail
  refine (disk_asked E q d A _ HW.out).mono ?_
  rintro e w1 ⟨rfl, h1⟩
  have H1 := Aside.mk h1
  clear h1
  go_wp2
  go_ret
  exact ⟨rfl, H1.out⟩
end Go.Proofs.YtnpinegpajbkeaaDoor
/- pair.write. -/
namespace Go.Proofs.YtnpinegpajbkeaaDoor
open Go.RowKit HP
set_option linter.unusedSimpArgs false
set_option linter.unusedVariables false

/-- Payloads written to a file, one behind the other, and synced. -/
def wrF (A : Dk) (f : ByteArray) (gen : Nat) : Nat → List (List Int) → Int × Dk
  | _, [] => A.sync f
  | i, p :: r =>
    if ¬ FrameOk i gen p.length then (1, A)
    else if (A.write f i (extI f i gen p)).1 = 0 then wrF (A.write f i (extI f i gen p)).2 f gen (i + 1) r
    else A.write f i (extI f i gen p)
def wrL (A : Dk) (i gen : Nat) (ps : List (List Int)) : List ByteArray → Int × Dk
  | [] => (0, A)
  | f :: r => if (wrF A f gen i ps).1 = 0 then wrL (wrF A f gen i ps).2 i gen ps r else wrF A f gen i ps
def halvesL (name : ByteArray) : List ByteArray := [name ++ dotA, name ++ dotB]
def wrP (A : Dk) (name : ByteArray) (i gen : Nat) (ps : List (List Int)) : Int × Dk := wrL A i gen ps (halvesL name)
def Sl.val8 (s : Sl Int) : Value := .slice s.A s.l.length s.cap
structure PayOk (s : Sl Int) : Prop where
  len : s.l.length ≤ s.cap
  bytes : Bytes s.l
theorem dotA_size (name : ByteArray) : (name ++ dotA).size = name.size + 2 := by rw [ByteArray.size_append]; rfl
theorem dotB_size (name : ByteArray) : (name ++ dotB).size = name.size + 2 := by rw [ByteArray.size_append]; rfl
end Go.Proofs.YtnpinegpajbkeaaDoor
/- stripe: names, Groups, Need, none, Drop. -/
namespace Go.Proofs.YtnpinegpajbkeaaDoor
open Go.RowKit HP
set_option linter.unusedSimpArgs false
set_option linter.unusedVariables false

def dot0 : ByteArray := ⟨#[46, 48]⟩
def dot1 : ByteArray := ⟨#[46, 49]⟩
def dot2 : ByteArray := ⟨#[46, 50]⟩
def dotP : ByteArray := ⟨#[46, 112]⟩
def stripesL (name : ByteArray) : List ByteArray := [name ++ dot0, name ++ dot1, name ++ dot2, name ++ dotP]
def groupsI (n : Int) : Int := if n ≤ 0 then 1 else (n - 1) / 105 / 3 + 1
theorem agFour : AgTy Tryd.prog 103 4 := ⟨⟨_, Tryd.underlying103, rfl⟩, by kernel_rfl⟩
theorem dot_size (name : ByteArray) : (name ++ dot0).size = name.size + 2 ∧ (name ++ dot1).size = name.size + 2 ∧ (name ++ dot2).size = name.size + 2 ∧ (name ++ dotP).size = name.size + 2 := ⟨by rw [ByteArray.size_append]; rfl, by rw [ByteArray.size_append]; rfl, by rw [ByteArray.size_append]; rfl, by rw [ByteArray.size_append]; rfl⟩
set_option maxHeartbeats 1000000 in
set_option maxRecDepth 100000 in
theorem stripe_names (E : Env) (q : HP) (name : ByteArray) (w : World) (hn : name.size + 2 ≤ maxLen) (hw : Sat E w q) :
    Calls Tryd.prog 56 #[.string name] w fun e w' => e = .returned (.agg #[.string (name ++ dot0), .string (name ++ dot1), .string (name ++ dot2), .string (name ++ dotP)]) ∧ Sat E w' q := by
  have hn2 : name.size + 2 ≤ 9223372036854775807 := by unfold maxLen at hn; omega
  unfold dot0 dot1 dot2 dotP
  go_enter Tryd.func56, Tryd.ntmps56
  have h1 := hw.alloc (.cells [.string (name ++ ⟨#[46, 48]⟩), .string (name ++ ⟨#[46, 49]⟩), .string (name ++ ⟨#[46, 50]⟩), .string (name ++ ⟨#[46, 112]⟩)].toArray 103)
  have r1 := run_loadAgg (P := Tryd.prog) (n := 4) agFour rfl (Sat.ptCells (off := 0) (l := [.string (name ++ ⟨#[46, 48]⟩), .string (name ++ ⟨#[46, 49]⟩), .string (name ++ ⟨#[46, 50]⟩), .string (name ++ ⟨#[46, 112]⟩)]) h1 rfl)
  go_wp2
  exact ⟨rfl, _, results_cell (t := 2) (by kernel_rfl) rfl r1, rfl, h1.right⟩
set_option maxHeartbeats 1000000 in
set_option maxRecDepth 100000 in
theorem stripe_groups (n : Int) (w : World) (h : wf64 n) : Calls Tryd.prog 19 #[.int .i64 n] w fun e w' => e = .returned (.int .i64 (groupsI n)) ∧ w' = w := by
  unfold wf64 at h
  by_cases hn : n ≤ 0
  · go_enter Tryd.func19, Tryd.ntmps19
    go_wp2
    go_ret
    exact ⟨by unfold groupsI; rw [if_pos hn]; rfl, rfl⟩
  · have e1 : (n - 1).tdiv 105 = (n - 1) / 105 := Int.tdiv_eq_ediv_of_nonneg (by omega)
    have e2 : ((n - 1) / 105).tdiv 3 = (n - 1) / 105 / 3 := Int.tdiv_eq_ediv_of_nonneg (by omega)
    go_enter Tryd.func19, Tryd.ntmps19
    go_wp2
    go_ret
    exact ⟨by unfold groupsI; rw [if_neg (by omega)]; rfl, rfl⟩
theorem groupsI_le {n : Int} (h : wf64 n) : 1 ≤ groupsI n ∧ groupsI n ≤ 29280546942396115 := by
  unfold groupsI
  unfold wf64 at h
  split <;> omega
set_option maxHeartbeats 1000000 in
set_option maxRecDepth 100000 in
theorem stripe_none (E : Env) (q : HP) (d : Nat) (A : Dk) (w : World) (hw : Sat E w (HP.disk d A * q)) :
    Calls Tryd.prog 52 #[.pointer (some ⟨d, 0, none⟩)] w fun e w' => e = .returned (.bool false) ∧ Sat E w' (HP.disk d A * q) := by
  have HW := Aside.mk hw
  clear hw
  go_enter Tryd.func52, Tryd.ntmps52
  go_wp2_with fail
  refine (disk_asked E q d A _ HW.out).mono ?_
  rintro e w1 ⟨rfl, h1⟩
  have H1 := Aside.mk h1
  clear h1
  go_wp2
  go_ret
  exact ⟨rfl, H1.out⟩
def dropT (A : Dk) : List ByteArray → Int × Dk
  | [] => (0, A)
  | f :: r => if (A.at f).length = 0 then dropT A r else if (A.remove f).1 = 0 then dropT (A.remove f).2 r else A.remove f
def dropS (A : Dk) (name : ByteArray) : Int × Dk := dropT A (stripesL name)
set_option maxHeartbeats 2000000 in
set_option maxRecDepth 100000 in
theorem stripe_drop (E : Env) (q : HP) (d : Nat) (A : Dk) (name : ByteArray) (w : World) (hname : name.size + 2 ≤ maxLen) (hw : Sat E w (HP.disk d A * q)) :
    Calls Tryd.prog 53 #[.pointer (some ⟨d, 0, none⟩), .string name] w fun e w' => e = .returned (.int .i64 (dropS A name).1) ∧ Sat E w' (HP.disk d (dropS A name).2 * q) := by
  have hfa : (name ++ dot0).size ≤ maxLen := by rw [(dot_size name).1]; exact hname
  have hfb : (name ++ dot1).size ≤ maxLen := by rw [(dot_size name).2.1]; exact hname
  have hfc : (name ++ dot2).size ≤ maxLen := by rw [(dot_size name).2.2.1]; exact hname
  have hfd : (name ++ dotP).size ≤ maxLen := by rw [(dot_size name).2.2.2]; exact hname
  have HF : Aside (stripesL name = [name ++ dot0, name ++ dot1, name ++ dot2, name ++ dotP]) := ⟨rfl⟩
  have HW0 := Aside.mk hw
  clear hw
  go_enter Tryd.func53, Tryd.ntmps53
  go_wp2_with fail
  refine (stripe_none E q d A _ HW0.out).mono ?_
  rintro e w0 ⟨rfl, h0⟩
  have H0 := Aside.mk h0
  clear h0
  go_wp2_with fail
  refine (stripe_names E _ name _ hname H0.out).mono ?_
  rintro e w1 ⟨rfl, h1⟩
  obtain ⟨fa, hfae⟩ : ∃ fa, fa = name ++ dot0 := ⟨_, rfl⟩
  obtain ⟨fb, hfbe⟩ : ∃ fb, fb = name ++ dot1 := ⟨_, rfl⟩
  obtain ⟨fc, hfce⟩ : ∃ fc, fc = name ++ dot2 := ⟨_, rfl⟩
  obtain ⟨fd, hfde⟩ : ∃ fd, fd = name ++ dotP := ⟨_, rfl⟩
  rw [← hfae] at hfa HF ⊢
  rw [← hfbe] at hfb HF ⊢
  rw [← hfce] at hfc HF ⊢
  rw [← hfde] at hfd HF ⊢
  clear hfae hfbe hfce hfde
  have H1 := Aside.mk h1
  clear h1
  have i0 : ∀ w, (Instr.index 103 (.agg #[.string fa, .string fb, .string fc, .string fd]) (.int .i64 0)).run Tryd.prog w = .ok (.string fa) w := fun w => by kernel_rfl
  have i1 : ∀ w, (Instr.index 103 (.agg #[.string fa, .string fb, .string fc, .string fd]) (.int .i64 1)).run Tryd.prog w = .ok (.string fb) w := fun w => by kernel_rfl
  have i2 : ∀ w, (Instr.index 103 (.agg #[.string fa, .string fb, .string fc, .string fd]) (.int .i64 2)).run Tryd.prog w = .ok (.string fc) w := fun w => by kernel_rfl
  have i3 : ∀ w, (Instr.index 103 (.agg #[.string fa, .string fb, .string fc, .string fd]) (.int .i64 3)).run Tryd.prog w = .ok (.string fd) w := fun w => by kernel_rfl
  go_wp2
  go_loopw [12] (fun v12 wr => ∃ (h : Nat) (B : Dk), h ≤ 4 ∧ v12 = .int .i64 h ∧ Aside (dropT B ((stripesL name).drop h) = dropS A name) ∧ Aside (Sat E wr (HP.disk d B * q))) (fun i _ => 4 - (intOf i).toNat)
  case atStart => exact ⟨0, A, by omega, rfl, ⟨rfl⟩, H1⟩
  case round =>
    obtain ⟨h, B, hh, rfl, HA, HS⟩ := hrel
    by_cases hlt : h < 4
    · obtain ⟨f, hf, hff, hix⟩ : ∃ f : ByteArray, f.size ≤ maxLen ∧ (stripesL name).drop h = f :: (stripesL name).drop (h + 1) ∧ ∀ w, (Instr.index 103 (.agg #[.string fa, .string fb, .string fc, .string fd]) (.int .i64 (h : Int))).run Tryd.prog w = .ok (.string f) w := by
        rw [HF.out]
        have hc : h = 0 ∨ h = 1 ∨ h = 2 ∨ h = 3 := by omega
        rcases hc with h0 | h0 | h0 | h0 <;> subst h0
        · exact ⟨fa, hfa, rfl, i0⟩
        · exact ⟨fb, hfb, rfl, i1⟩
        · exact ⟨fc, hfc, rfl, i2⟩
        · exact ⟨fd, hfd, rfl, i3⟩
      have hlt2 : (h : Int) < 4 := by omega
      have HD : Aside (dropT B (f :: (stripesL name).drop (h + 1)) = if (B.at f).length = 0 then dropT B ((stripesL name).drop (h + 1)) else if (B.remove f).1 = 0 then dropT (B.remove f).2 ((stripesL name).drop (h + 1)) else B.remove f) := ⟨rfl⟩
      rw [hff, HD.out] at HA
      clear hff HD
      clear i0 i1 i2 i3
      go_wp2_with fail
      refine (disk_extents E q d B f _ hf HS.out).mono ?_
      rintro e w2 ⟨rfl, rfl⟩
      by_cases hz : (B.at f).length = 0
      · rw [if_pos hz] at HA
        rw [hz]
        clear hz
        go_wp2
        go_roundw
        case rel => exact ⟨h + 1, B, by omega, by push_cast; rfl, HA, HS⟩
        case measure => simp [intOf]; omega
      · rw [if_neg hz] at HA
        obtain ⟨m, hm⟩ : ∃ m, m = (B.at f).length := ⟨_, rfl⟩
        rw [← hm] at hz ⊢
        clear hm
        have hz2 : ((m : Int) == 0) = false := by rw [beq_eq_false_iff_ne]; omega
        have hz3 : ¬ (m : Int) = 0 := by omega
        go_wp2_with fail
        refine (disk_remove E q d B f _ hf HS.out).mono ?_
        rintro e w3 ⟨rfl, h3⟩
        have H3 := Aside.mk h3
        clear h3
        by_cases h0 : (B.remove f).1 = 0
        · rw [if_pos h0] at HA
          rw [h0]
          generalize (B.remove f).2 = B2 at *
          clear h0 hz hz2 hz3
          go_wp2
          go_roundw
          case rel => exact ⟨h + 1, B2, by omega, by push_cast; rfl, HA, H3⟩
          case measure => simp [intOf]; omega
        · rw [if_neg h0] at HA
          obtain ⟨ec, hec⟩ : ∃ ec, ec = (B.remove f).1 := ⟨_, rfl⟩
          rw [← hec] at h0 ⊢
          have HE := Aside.mk hec
          have HX := Aside.mk HA.out.symm
          clear hec HA hz hz2 hz3
          go_wp2
          go_ret
          rw [HX.out, HE.out]
          exact ⟨rfl, H3.out⟩
    · have hh2 : h = 4 := by omega
      subst hh2
      rw [HF.out] at HA
      have HX : Aside (dropS A name = (0, B)) := ⟨by rw [← HA.out]; rfl⟩
      clear HA i0 i1
      go_wp2
      go_ret
      rw [HX.out]
      exact ⟨rfl, HS.out⟩
end Go.Proofs.YtnpinegpajbkeaaDoor
/- stripe.of, stripe.payload. -/
namespace Go.Proofs.YtnpinegpajbkeaaDoor
open Go.RowKit HP
set_option linter.unusedSimpArgs false
set_option linter.unusedVariables false

/-- A part with its length ahead. -/
def slotI (p : List Int) : List Int := (p.length : Int) :: (p ++ List.replicate (105 - p.length) 0)
theorem slotI_length {p : List Int} (h : p.length ≤ 105) : (slotI p).length = 106 := by
  unfold slotI
  rw [List.length_cons, List.length_append, List.length_replicate]
  omega
theorem slotI_bytes {p : List Int} (h : p.length ≤ 105) (hb : Bytes p) : Bytes (slotI p) := by
  intro x hx
  rcases List.mem_cons.1 hx with rfl | hx
  · omega
  · rcases List.mem_append.1 hx with hx | hx
    · exact hb x hx
    · rw [List.eq_of_mem_replicate hx]; omega
theorem agSlot : AgTy Tryd.prog 99 106 := ⟨⟨_, Tryd.underlying99, rfl⟩, by kernel_rfl⟩
theorem zero_slot : (b8s (List.replicate 106 0)).toArray = Tryd.zeroCells99 := by kernel_rfl
theorem zero_slot1 (n : Nat) : Tryd.zeroCells99.setIfInBounds 0 (.int .u8 (n : Int)) = (b8s ([(n : Int)] ++ List.replicate 105 0)).toArray := by
  rw [← zero_slot]
  rfl
theorem splice_all {I : List Int} (h : I.length = 106) : splice Tryd.zeroCells99.toList 0 (b8s I) = b8s I := by
  rw [← zero_slot]
  unfold splice
  rw [List.take_zero, List.nil_append, Nat.zero_add, List.drop_of_length_le (by simp [b8s_length, h]), List.append_nil]
set_option maxHeartbeats 2000000 in
set_option maxRecDepth 100000 in
theorem stripe_of (E : Env) (q : HP) (A : Option Addr) (p : List Int) (n c : Nat) (w : World) (hpn : p.length = n) (hn : n ≤ 105) (hq : ∀ w, Sat E w q → Cells w A (b8s p)) (hw : Sat E w q) :
    Calls Tryd.prog 54 #[.slice A n c] w fun e w' => e = .returned (.agg (b8s (slotI p)).toArray) ∧ Sat E w' q := by
  have h0 : Sat E ((w.alloc (.cells Tryd.zeroCells99 99)).alloc (.cells (Tryd.zeroCells99.setIfInBounds 0 (.int .u8 (n : Int))) 99)) (HP.pt (w.heap.size + 1) (.cells (b8s ([(n : Int)] ++ List.replicate 105 0)).toArray 99) * (HP.pt w.heap.size (.cells Tryd.zeroCells99 99) * q)) := by
    rw [← zero_slot1]
    have h1 := (hw.alloc (.cells Tryd.zeroCells99 99)).alloc (.cells (Tryd.zeroCells99.setIfInBounds 0 (.int .u8 (n : Int))) 99)
    rw [show (w.alloc (.cells Tryd.zeroCells99 99)).heap.size = w.heap.size + 1 by simp] at h1
    exact h1
  have HQ := Aside.mk (And.intro hq hpn)
  have H0 := Aside.mk h0
  have hwr : IntKind.u8.wrap (n : Int) = (n : Int) := by rw [IntKind.wrap_u8]; omega
  have hsl : (slotI p).length = 106 := slotI_length (by rw [hpn]; exact hn)
  have hsp : splice (b8s ([(n : Int)] ++ List.replicate 105 0)) 1 (b8s p) = b8s (slotI p) := by
    rw [splice_zero (a := [(n : Int)]) (off := 1) (c := p) (n := 105) rfl (by rw [hpn]; exact hn)]
    unfold slotI
    rw [hpn]
    simp
  have HS := Aside.mk (And.intro hsl hsp)
  clear hq hw hpn h0 hsl hsp
  go_enter Tryd.func54, Tryd.ntmps54
  go_wp2_with (first | (at_builtin; fail) | (refine wpList_load_run rfl rfl rfl r1 ?_) | (refine wpList_store_run rfl rfl rfl rfl rfl r2 ?_) | (refine wpList_copy_pt (L := [(n : Int)] ++ List.replicate 105 0) (src := p) slB8.under (by kernel_rfl) rfl rfl rfl rfl H0.out HQ.out.2 (by omega) (by simp; omega) (HQ.out.1 _ H0.out.right.right) (fun w11 h11 => ?_); rw [HS.out.2] at h11; have r1 := run_loadAgg agSlot (by rw [b8s_length]; exact HS.out.1) (Sat.ptCells (off := 0) (l := b8s (slotI p)) h11 (by rw [List.drop_zero, List.take_length])); have r2 := run_storeAgg agSlot (g := w.heap.size) (off := 0) (cs := b8s (slotI p)) h11.s2.get (by rw [b8s_length]; exact HS.out.1) (by rw [← zero_slot]; simp [b8s_length]) (b8s_one (slotI p)); have h16 := h11.s2.splice (splice Tryd.zeroCells99.toList 0 (b8s (slotI p))); rw [splice_all HS.out.1] at h16 r2; have r3 := run_loadAgg agSlot (by rw [b8s_length]; exact HS.out.1) (Sat.ptCells (off := 0) (l := b8s (slotI p)) h16 (by rw [List.drop_zero, List.take_length])); have H16 := Aside.mk h16; clear h11 h16 H0; generalize World.setRow w11 w.heap.size (b8s (slotI p)).toArray = w16 at *; simp only [Act.put, List.setIfInBounds_toArray, List.set_cons_zero, List.set_cons_succ]))
  exact ⟨rfl, _, results_cell (t := 2) (by kernel_rfl) rfl r3, rfl, H16.out.right.right⟩
theorem run_slot_slice (w : World) (b : Nat) (lo hi : Int) (h0 : 0 ≤ lo) (h1 : lo ≤ hi) (h2 : hi ≤ 106) (h3 : lo < 106) : (Instr.sliceAt 99 (.pointer (some ⟨b, 0, none⟩)) (some (.int .i64 lo)) (some (.int .i64 hi)) none).run Tryd.prog w = .ok (.slice (some ⟨b, lo.toNat, none⟩) (hi - lo).toNat (106 - lo.toNat)) w := by
  have f1 : 0 ≤ hi ∧ hi ≤ 106 := by omega
  have f2 : 0 ≤ lo ∧ lo ≤ hi := by omega
  have e5 : ¬ 106 = lo.toNat := by omega
  have e6 : (sizeOf 5).run Tryd.prog w = .ok 1 w := by kernel_rfl
  have e7 : hi.toNat - lo.toNat = (hi - lo).toNat := by omega
  have e9 : max hi 0 = hi := by omega
  have e10 : max lo 0 = lo := by omega
  simp [Instr.sliceAt, run_underlying Tryd.underlying99, Instr.sureAddr, Instr.sliceBounds, Instr.sliceBound, asIntOf, f1, f2, e5, e6, e7, e9, e10, Addr.add_lit]
/-- What a file has of a slot. -/
def payI (k : Nat) (S : List Int) : List Int := if k = 3 then S else (S.drop 1).take (S.headD 0).toNat
def payEnd (E : Env) (q : HP) (k : Nat) (S : List Int) (e : Ending) (w' : World) : Prop :=
  ∃ A c m, ∃ R : HP, e = .returned (.slice A m c) ∧ (payI k S).length = m ∧ m ≤ 106 ∧ m ≤ c ∧ c ≤ maxLen ∧ Sat E w' (R * q) ∧ ∀ w'' q', Sat E w'' (R * q') → Cells w'' A (b8s (payI k S))
set_option maxHeartbeats 2000000 in
set_option maxRecDepth 100000 in
theorem stripe_payload (E : Env) (q : HP) (k : Nat) (S : List Int) (w : World) (hk : k < 4) (hS : S.length = 106) (h0 : k ≠ 3 → 0 ≤ S.headD 0 ∧ S.headD 0 ≤ 105) (hw : Sat E w q) :
    Calls Tryd.prog 58 #[.int .i64 k, .agg (b8s S).toArray] w (payEnd E q k S) := by
  have h1 := hw.alloc (.cells (b8s S).toArray 99)
  have hL : (b8s S).toArray.size = 106 := by simp [b8s_length, hS]
  by_cases h3 : k = 3
  · subst h3
    have HP1 : Aside (payI 3 S = S) := ⟨rfl⟩
    have HS := Aside.mk (And.intro hS h1)
    clear hS h1 h0 hk hw
    obtain ⟨C, hC⟩ : ∃ C, C = (b8s S).toArray := ⟨_, rfl⟩
    rw [← hC] at HS hL ⊢
    have HC := Aside.mk hC
    clear hC
    go_enter Tryd.func58, Tryd.ntmps58
    go_wp2
    go_ret
    refine ⟨_, 106, 106, HP.pt w.heap.size (.cells (b8s S).toArray 99), rfl, by rw [HP1.out]; exact HS.out.1, by omega, by omega, by unfold maxLen; omega, ?_, fun w'' q' h => ?_⟩
    · rw [← HC.out]; exact HS.out.2
    · rw [HP1.out]
      exact Sat.ptCells (off := 0) h (by rw [List.drop_zero, List.take_length])
  · obtain ⟨h01, h02⟩ := h0 h3
    obtain ⟨m, hm⟩ : ∃ m : Nat, S.headD 0 = (m : Int) := ⟨(S.headD 0).toNat, by omega⟩
    have HP1 : Aside (payI k S = (S.drop 1).take m) := ⟨by unfold payI; rw [if_neg h3, hm]; rfl⟩
    have hm5 : m ≤ 105 := by omega
    have hpl : ((S.drop 1).take m).length = m := by rw [List.length_take, List.length_drop, hS]; omega
    have hc0 : (b8s S)[0]? = some (.int .u8 (m : Int)) := by
      cases S with
      | nil => cases hS
      | cons x S => rw [show x = (m : Int) from hm]; rfl
    have g0 : (w.alloc (.cells (b8s S).toArray 99)).cell? ⟨w.heap.size, 0, none⟩ = some (.int .u8 (m : Int)) := by
      rw [h1.cell 0, List.getElem?_toArray]; exact hc0
    have HS := Aside.mk (And.intro hS (And.intro h1 hpl))
    have hk3 : ((k : Int) == 3) = false := by rw [beq_eq_false_iff_ne]; omega
    have hk4 : ¬ (k : Int) = 3 := by omega
    clear hS h1 h01 h02 hw hpl hc0 hm h0 hk
    obtain ⟨C, hC⟩ : ∃ C, C = (b8s S).toArray := ⟨_, rfl⟩
    rw [← hC] at HS hL g0 ⊢
    have HC := Aside.mk hC
    clear hC
    go_enter Tryd.func58, Tryd.ntmps58
    have sl := run_slot_slice (w.alloc (.cells C 99)) w.heap.size 1 (1 + (m : Int)) (by omega) (by omega) (by omega) (by omega)
    rw [show (1 + (m : Int) - 1).toNat = m by omega, show (106 : Nat) - (1 : Int).toNat = 105 from rfl, show (1 : Int).toNat = 1 from rfl] at sl
    go_wp2
    go_ret
    refine ⟨some ⟨w.heap.size, 1, none⟩, 105, m, HP.pt w.heap.size (.cells (b8s S).toArray 99), rfl, by rw [HP1.out]; exact HS.out.2.2, by omega, by omega, by unfold maxLen; omega, ?_, fun w'' q' h => ?_⟩
    · rw [← HC.out]; exact HS.out.2.1
    · rw [HP1.out]
      exact Sat.ptCells (off := 1) (l := b8s ((S.drop 1).take m)) h (by unfold b8s; rw [List.length_map, HS.out.2.2, ← List.map_drop, ← List.map_take])
end Go.Proofs.YtnpinegpajbkeaaDoor
/- (*Disk).Rot. -/
namespace Go.Proofs.YtnpinegpajbkeaaDoor
open Go.RowKit HP
set_option linter.unusedSimpArgs false
set_option linter.unusedVariables false

/-- Two bytes xored. -/
def xorB (a b : Int) : Int := bits .xor .u8 a b
def xorAt (l : List Int) (k : Nat) (m : Int) : List Int := l.set k (xorB (l.getD k 0) m)
theorem xorAt_length (l : List Int) (k : Nat) (m : Int) : (xorAt l k m).length = l.length := List.length_set
def Cel.rotd (c : Cel) (k : Nat) (m : Int) : Cel := if c.waits then { c with durable := xorAt c.durable k m } else { c with read := xorAt c.read k m, durable := xorAt c.durable k m }
theorem Cel.rotd_fine {c : Cel} (h : c.Fine) (k : Nat) (m : Int) : (c.rotd k m).Fine := by
  unfold Cel.rotd
  split
  · exact ⟨h.1, (xorAt_length _ _ _).trans h.2.1, h.2.2.1, h.2.2.2⟩
  · exact ⟨(xorAt_length _ _ _).trans h.1, (xorAt_length _ _ _).trans h.2.1, h.2.2.1, h.2.2.2⟩
def Dk.rot (A : Dk) (s : ByteArray) (i at_ m : Int) : Int × Dk :=
  match A.cel s i with
  | none => (30, A)
  | some c => if at_ < 0 ∨ 128 ≤ at_ then (1, A) else (0, A.set s ((A.at s).set i.toNat (c.rotd at_.toNat m)))
theorem celAt_some {fs : List Fil} {s : ByteArray} {i : Int} {x : Nat × Cel} (h : celAt fs s i = some x) : ∃ (j : Nat) (f : Fil) (k : Nat), fs[j]? = some f ∧ f.name = s ∧ i = (k : Int) ∧ f.cels[k]? = some x := by
  unfold celAt at h
  cases hf : fs.find? (fun f => decide (f.name = s)) with
  | none => rw [hf] at h; cases h
  | some f =>
    rw [hf] at h
    dsimp only at h
    split at h
    · rename_i hi
      obtain ⟨j, hj⟩ := List.getElem?_of_mem (List.mem_of_find?_eq_some hf)
      have hn := List.find?_some hf
      simp only [decide_eq_true_eq] at hn
      exact ⟨j, f, i.toNat, hj, hn, by omega, h⟩
    · cases h
section
variable {E : Env} {q : HP} {w : World} {b : Nat} {c : Cel}
theorem cel_byte_read (h : Sat E w (HP.cel b c * q)) (hf : c.Fine) {k : Nat} (hk : k < 128) : w.cell? ⟨b, k, none⟩ = some (.int .u8 (c.read.getD k 0)) := by
  have := (cel_read h hf).some_ k (.int .u8 (c.read.getD k 0)) (by
    unfold b8s
    rw [List.getElem?_map, List.getElem?_eq_getElem (by rw [hf.1]; exact hk)]
    simp [List.getD, hf.1, hk])
  rw [addr_add, Nat.zero_add] at this
  exact this
theorem cel_byte_durable (h : Sat E w (HP.cel b c * q)) (hf : c.Fine) {k : Nat} (hk : k < 128) : w.cell? ⟨b, 128 + k, none⟩ = some (.int .u8 (c.durable.getD k 0)) := by
  have := (cel_durable h hf).some_ k (.int .u8 (c.durable.getD k 0)) (by
    unfold b8s
    rw [List.getElem?_map, List.getElem?_eq_getElem (by rw [hf.2.1]; exact hk)]
    simp [List.getD, hf.2.1, hk])
  rw [addr_add] at this
  exact this
theorem b8s_set (l : List Int) (k : Nat) (x : Int) : (b8s l).set k (.int .u8 x) = b8s (l.set k x) := by unfold b8s; rw [List.map_set]
theorem cel_set_read (h : Sat E w (HP.cel b c * q)) (hf : c.Fine) {k : Nat} (hk : k < 128) (x : Int) : Sat E (w.setCell ⟨b, k, none⟩ (.int .u8 x)) (HP.cel b { c with read := c.read.set k x } * q) := by
  have h1 : Sat E w (HP.pt b (.cells c.vals.toArray 114) * q) := h
  have h2 := h1.set (i := k) (.int .u8 x)
  have e : c.vals.toArray.setIfInBounds k (.int .u8 x) = ({ c with read := c.read.set k x } : Cel).vals.toArray := by
    rw [List.setIfInBounds_toArray]
    congr 1
    unfold Cel.vals
    rw [List.set_append_left _ _ (by rw [b8s_length, hf.1]; exact hk), b8s_set]
  rw [e] at h2
  exact h2
theorem cel_set_durable (h : Sat E w (HP.cel b c * q)) (hf : c.Fine) {k : Nat} (hk : k < 128) (x : Int) : Sat E (w.setCell ⟨b, 128 + k, none⟩ (.int .u8 x)) (HP.cel b { c with durable := c.durable.set k x } * q) := by
  have h1 : Sat E w (HP.pt b (.cells c.vals.toArray 114) * q) := h
  have h2 := h1.set (i := 128 + k) (.int .u8 x)
  have e : c.vals.toArray.setIfInBounds (128 + k) (.int .u8 x) = ({ c with durable := c.durable.set k x } : Cel).vals.toArray := by
    rw [List.setIfInBounds_toArray]
    congr 1
    unfold Cel.vals
    rw [List.set_append_right _ _ (by rw [b8s_length, hf.1]; omega), b8s_length, hf.1, Nat.add_sub_cancel_left, List.set_append_left _ _ (by rw [b8s_length, hf.2.1]; exact hk), b8s_set]
  rw [e] at h2
  exact h2
end
set_option maxHeartbeats 2000000 in
set_option maxRecDepth 100000 in
theorem disk_rot (E : Env) (q : HP) (d : Nat) (A : Dk) (name : ByteArray) (i at_ mask : Int) (w : World) (hn : name.size ≤ maxLen) (hw : Sat E w (HP.disk d A * q)) :
    Calls Tryd.prog 20 #[.pointer (some ⟨d, 0, none⟩), .string name, .int .i64 i, .int .i64 at_, .int .u8 mask] w fun e w' => e = .returned (.int .i64 (A.rot name i at_ mask).1) ∧ Sat E w' (HP.disk d (A.rot name i at_ mask).2 * q) := by
  obtain ⟨m, es, clock, fs, hv, hd⟩ := hw.disk_open
  have HF : Aside (A.rot name i at_ mask = match A.cel name i with
    | none => (30, A)
    | some c => if at_ < 0 ∨ 128 ≤ at_ then (1, A) else (0, A.set name ((A.at name).set i.toNat (c.rotd at_.toNat mask)))) := ⟨rfl⟩
  rw [← celAt_view hv] at HF
  clear hw
  go_enter Tryd.func20, Tryd.ntmps20
  go_wp2_with fail
  refine (disk_none E _ d _ _ m w (dk_parts hd)).mono ?_
  rintro e w1 ⟨rfl, rfl⟩
  go_wp2_with fail
  refine (disk_at E q d _ _ m es clock fs name i _ hn hv.map hd).mono ?_
  rintro e w2 ⟨rfl, rfl⟩
  rw [cellAt_eq]
  cases hx : celAt fs name i with
  | none =>
    rw [hx] at HF
    have HT : Aside (A.rot name i at_ mask = (30, A) ∧ Sat E w2 (HP.disk d A * q)) := ⟨HF.out, Sat.disk_close hv hd⟩
    clear HF hx hd hv
    go_wp2
    go_ret
    rw [HT.out.1]
    exact ⟨rfl, HT.out.2⟩
  | some x =>
    rw [hx] at HF
    obtain ⟨j, f, k, hj, hname, hik, hk⟩ := celAt_some hx
    have hxf : x.2.Fine := hv.cel_fine (List.mem_of_getElem? hj) (List.mem_of_getElem? hk)
    obtain ⟨r, hr1, -, hr3⟩ := take_cel hv hd hj hk
    have hat : A.at name = f.cs := by
      unfold Dk.at
      rw [← hv.same, ← hname, lkF_at hv.nodup hj]; rfl
    have HD : Aside (Sat E w2 (HP.disk d A * q)) := ⟨Sat.disk_close hv hd⟩
    have HR : Aside (∀ w' c', c'.Fine → Sat E w' (HP.cel x.1 c' * r) → Sat E w' (HP.disk d (A.set name ((A.at name).set i.toNat c')) * q)) := ⟨fun w' c' hc h => by
      have := hr3 w' c' hc h
      rw [hat, hik, Int.toNat_natCast, ← hname]
      exact this⟩
    obtain ⟨bk, c⟩ := x
    dsimp only [Option.map_some] at *
    clear hx hd hv hr3 hj hk hname hik hat
    by_cases h0 : at_ < 0
    · have HT : Aside (A.rot name i at_ mask = (1, A)) := ⟨by rw [HF.out]; simp [h0]⟩
      clear HF hr1 hxf HR
      go_wp2
      go_ret
      rw [HT.out]
      exact ⟨rfl, HD.out⟩
    · by_cases h8 : 128 ≤ at_
      · have HT : Aside (A.rot name i at_ mask = (1, A)) := ⟨by rw [HF.out]; simp [h8]⟩
        clear HF hr1 hxf HR
        go_wp2
        go_ret
        rw [HT.out]
        exact ⟨rfl, HD.out⟩
      · obtain ⟨n, rfl⟩ := Int.eq_ofNat_of_zero_le (Int.not_lt.1 h0)
        have hn8 : n < 128 := by omega
        have HT : Aside (A.rot name i n mask = (0, A.set name ((A.at name).set i.toNat (c.rotd n mask)))) := ⟨by rw [HF.out]; simp only [if_neg (show ¬ ((n : Int) < 0 ∨ 128 ≤ (n : Int)) by omega), Int.toNat_natCast]⟩
        have cw := cel_waits hr1 hxf
        have hn1 : (n : Int) < 128 := by omega
        have hn0 : (0 : Int) ≤ (n : Int) := by omega
        cases hcw : c.waits with
        | true =>
          rw [hcw] at cw
          have g2 := cel_byte_durable hr1 hxf hn8
          have f2 := cel_thaw hr1 (128 + n)
          have h9 := cel_set_durable (hr1.drew) hxf hn8 (xorB (c.durable.getD n 0) mask)
          have HH := Aside.mk (HR.out _ _ (Cel.rotd_fine hxf n mask) (by
            have e : c.rotd n mask = { c with durable := c.durable.set n (xorB (c.durable.getD n 0) mask) } := by unfold Cel.rotd xorAt; rw [if_pos hcw]
            rw [e]; exact h9))
          clear HF HR HD hr1 hxf hcw h9
          generalize c.durable.getD n 0 = y at *
          unfold xorB at HH
          go_wp2
          refine region_R [11] [] (fun _ => True) #[false, false, false, false, false, false, false, false, false, false, false, false] (by kernel_rfl) rfl rfl ?_
          refine wpR_rd 0 #[true, false, false, false, false, false, false, false, false, false, false, false] rfl onlyN_noPanic (by kernel_rfl) (fun K hK => ?_); (go_simp; try go_bits); refine hK _ ?_; clear hK K
          refine wpR_rd 1 #[true, true, false, false, false, false, false, false, false, false, false, false] rfl onlyN_noPanic (by kernel_rfl) (fun K hK => ?_); (go_simp; try go_bits); refine hK _ ?_; clear hK K
          refine wpR_rd 2 #[true, true, true, false, false, false, false, false, false, false, false, false] rfl onlyN_noPanic (by kernel_rfl) (fun K hK => ?_); (go_simp; try go_bits); refine hK _ ?_; clear hK K
          refine wpR_rd 3 #[true, true, true, true, false, false, false, false, false, false, false, false] rfl onlyN_noPanic (by kernel_rfl) (fun K hK => ?_); (go_simp; try go_bits); refine hK _ ?_; clear hK K
          refine wpR_rd 4 #[true, true, true, true, true, false, false, false, false, false, false, false] rfl onlyN_noPanic (by kernel_rfl) (fun K hK => ?_); (go_simp; try go_bits); refine hK _ ?_; clear hK K
          refine wpR_rd 5 #[true, true, true, true, true, true, false, false, false, false, false, false] rfl onlyN_noPanic (by kernel_rfl) (fun K hK => ?_); (go_simp; try go_bits); refine hK _ ?_; clear hK K
          refine wpR_rd 6 #[true, true, true, true, true, true, true, false, false, false, false, false] rfl onlyN_noPanic (by kernel_rfl) (fun K hK => ?_); (go_simp; try go_bits); refine hK _ ?_; clear hK K
          refine wpR_rd 7 #[true, true, true, true, true, true, true, true, false, false, false, false] rfl onlyN_noPanic (by kernel_rfl) (fun K hK => ?_); (go_simp; try go_bits); refine hK _ ?_; clear hK K
          refine wpR_rd 8 #[true, true, true, true, true, true, true, true, true, false, false, false] rfl onlyN_noPanic (by kernel_rfl) (fun K hK => ?_); (go_simp; try go_bits); refine hK _ ?_; clear hK K
          refine wpR_rd 9 #[true, true, true, true, true, true, true, true, true, true, false, false] rfl onlyN_noPanic (by kernel_rfl) (fun K hK => ?_); (go_simp; try go_bits); refine hK _ ?_; clear hK K
          refine wpR_rd 10 #[true, true, true, true, true, true, true, true, true, true, true, false] rfl onlyN_noPanic (by kernel_rfl) (fun K hK => ?_); (go_simp; try go_bits); refine hK _ ?_; clear hK K
          refine wpR_eff #[true, true, true, true, true, true, true, true, true, true, true, true] (i := 11) rfl (by kernel_rfl) (fun K hK => ?_)
          go_simp; refine hK _ _ ?_; clear hK K
          refine wpR_done (by kernel_rfl) ?_ _
          simp only [OnlyN]
          go_wp2
          go_ret
          rw [HT.out]
          exact ⟨rfl, HH.out⟩
        | false =>
          rw [hcw] at cw
          have g2 := cel_byte_read hr1 hxf hn8
          have f2 := cel_thaw hr1 n
          have h9 := (cel_set_read hr1 hxf hn8 (xorB (c.read.getD n 0) mask)).drew
          have hxf1 : ({ c with read := c.read.set n (xorB (c.read.getD n 0) mask) } : Cel).Fine := ⟨List.length_set.trans hxf.1, hxf.2.1, hxf.2.2.1, hxf.2.2.2⟩
          have HX := Aside.mk (And.intro h9 hxf1)
          have HR2 : Aside (∀ w', Sat E w' (HP.cel bk { c with read := c.read.set n (xorB (c.read.getD n 0) mask), durable := c.durable.set n (xorB (c.durable.getD n 0) mask) } * r) → Sat E w' (HP.disk d (A.set name ((A.at name).set i.toNat (c.rotd n mask))) * q)) := ⟨fun w' h => HR.out w' _ (Cel.rotd_fine hxf n mask) (by
            have e : c.rotd n mask = { c with read := c.read.set n (xorB (c.read.getD n 0) mask), durable := c.durable.set n (xorB (c.durable.getD n 0) mask) } := by unfold Cel.rotd xorAt; rw [if_neg (by rw [hcw]; decide)]
            rw [e]; exact h)⟩
          clear HF HR HD hr1 hxf hcw h9 hxf1
          obtain ⟨y, hy⟩ : ∃ y, y = c.read.getD n 0 := ⟨_, rfl⟩
          simp only [← hy] at g2 HX HR2
          clear hy
          unfold xorB at HX
          go_wp2
          refine region_R [11] [] (fun _ => True) #[false, false, false, false, false, false, false, false, false, false, false, false] (by kernel_rfl) rfl rfl ?_
          refine wpR_rd 0 #[true, false, false, false, false, false, false, false, false, false, false, false] rfl onlyN_noPanic (by kernel_rfl) (fun K hK => ?_); (go_simp; try go_bits); refine hK _ ?_; clear hK K
          refine wpR_rd 1 #[true, true, false, false, false, false, false, false, false, false, false, false] rfl onlyN_noPanic (by kernel_rfl) (fun K hK => ?_); (go_simp; try go_bits); refine hK _ ?_; clear hK K
          refine wpR_rd 2 #[true, true, true, false, false, false, false, false, false, false, false, false] rfl onlyN_noPanic (by kernel_rfl) (fun K hK => ?_); (go_simp; try go_bits); refine hK _ ?_; clear hK K
          refine wpR_rd 3 #[true, true, true, true, false, false, false, false, false, false, false, false] rfl onlyN_noPanic (by kernel_rfl) (fun K hK => ?_); (go_simp; try go_bits); refine hK _ ?_; clear hK K
          refine wpR_rd 4 #[true, true, true, true, true, false, false, false, false, false, false, false] rfl onlyN_noPanic (by kernel_rfl) (fun K hK => ?_); (go_simp; try go_bits); refine hK _ ?_; clear hK K
          refine wpR_rd 5 #[true, true, true, true, true, true, false, false, false, false, false, false] rfl onlyN_noPanic (by kernel_rfl) (fun K hK => ?_); (go_simp; try go_bits); refine hK _ ?_; clear hK K
          refine wpR_rd 6 #[true, true, true, true, true, true, true, false, false, false, false, false] rfl onlyN_noPanic (by kernel_rfl) (fun K hK => ?_); (go_simp; try go_bits); refine hK _ ?_; clear hK K
          refine wpR_rd 7 #[true, true, true, true, true, true, true, true, false, false, false, false] rfl onlyN_noPanic (by kernel_rfl) (fun K hK => ?_); (go_simp; try go_bits); refine hK _ ?_; clear hK K
          refine wpR_rd 8 #[true, true, true, true, true, true, true, true, true, false, false, false] rfl onlyN_noPanic (by kernel_rfl) (fun K hK => ?_); (go_simp; try go_bits); refine hK _ ?_; clear hK K
          refine wpR_rd 9 #[true, true, true, true, true, true, true, true, true, true, false, false] rfl onlyN_noPanic (by kernel_rfl) (fun K hK => ?_); (go_simp; try go_bits); refine hK _ ?_; clear hK K
          refine wpR_rd 10 #[true, true, true, true, true, true, true, true, true, true, true, false] rfl onlyN_noPanic (by kernel_rfl) (fun K hK => ?_); (go_simp; try go_bits); refine hK _ ?_; clear hK K
          refine wpR_eff #[true, true, true, true, true, true, true, true, true, true, true, true] (i := 11) rfl (by kernel_rfl) (fun K hK => ?_)
          go_simp; refine hK _ _ ?_; clear hK K
          refine wpR_done (by kernel_rfl) ?_ _
          simp only [OnlyN]
          obtain ⟨h9, hxf1⟩ := HX.out
          obtain ⟨w5, hw5⟩ : ∃ w5, w5 = (w2.setCell ⟨bk, n, none⟩ (.int .u8 (bits .xor .u8 y mask))).drew := ⟨_, rfl⟩
          rw [← hw5] at h9 ⊢
          clear hw5 HX cw g2 f2 
          have g2 := cel_byte_durable h9 hxf1 hn8
          have f2 := cel_thaw h9 (128 + n)
          have h10 := cel_set_durable (h9.drew) hxf1 hn8 (xorB (c.durable.getD n 0) mask)
          have HH := Aside.mk (HR2.out _ h10)
          clear HR2 h9 hxf1 h10
          dsimp only at g2
          generalize c.durable.getD n 0 = y at *
          unfold xorB at HH
          go_wp2
          refine region_R [11] [] (fun _ => True) #[false, false, false, false, false, false, false, false, false, false, false, false] (by kernel_rfl) rfl rfl ?_
          refine wpR_rd 0 #[true, false, false, false, false, false, false, false, false, false, false, false] rfl onlyN_noPanic (by kernel_rfl) (fun K hK => ?_); (go_simp; try go_bits); refine hK _ ?_; clear hK K
          refine wpR_rd 1 #[true, true, false, false, false, false, false, false, false, false, false, false] rfl onlyN_noPanic (by kernel_rfl) (fun K hK => ?_); (go_simp; try go_bits); refine hK _ ?_; clear hK K
          refine wpR_rd 2 #[true, true, true, false, false, false, false, false, false, false, false, false] rfl onlyN_noPanic (by kernel_rfl) (fun K hK => ?_); (go_simp; try go_bits); refine hK _ ?_; clear hK K
          refine wpR_rd 3 #[true, true, true, true, false, false, false, false, false, false, false, false] rfl onlyN_noPanic (by kernel_rfl) (fun K hK => ?_); (go_simp; try go_bits); refine hK _ ?_; clear hK K
          refine wpR_rd 4 #[true, true, true, true, true, false, false, false, false, false, false, false] rfl onlyN_noPanic (by kernel_rfl) (fun K hK => ?_); (go_simp; try go_bits); refine hK _ ?_; clear hK K
          refine wpR_rd 5 #[true, true, true, true, true, true, false, false, false, false, false, false] rfl onlyN_noPanic (by kernel_rfl) (fun K hK => ?_); (go_simp; try go_bits); refine hK _ ?_; clear hK K
          refine wpR_rd 6 #[true, true, true, true, true, true, true, false, false, false, false, false] rfl onlyN_noPanic (by kernel_rfl) (fun K hK => ?_); (go_simp; try go_bits); refine hK _ ?_; clear hK K
          refine wpR_rd 7 #[true, true, true, true, true, true, true, true, false, false, false, false] rfl onlyN_noPanic (by kernel_rfl) (fun K hK => ?_); (go_simp; try go_bits); refine hK _ ?_; clear hK K
          refine wpR_rd 8 #[true, true, true, true, true, true, true, true, true, false, false, false] rfl onlyN_noPanic (by kernel_rfl) (fun K hK => ?_); (go_simp; try go_bits); refine hK _ ?_; clear hK K
          refine wpR_rd 9 #[true, true, true, true, true, true, true, true, true, true, false, false] rfl onlyN_noPanic (by kernel_rfl) (fun K hK => ?_); (go_simp; try go_bits); refine hK _ ?_; clear hK K
          refine wpR_rd 10 #[true, true, true, true, true, true, true, true, true, true, true, false] rfl onlyN_noPanic (by kernel_rfl) (fun K hK => ?_); (go_simp; try go_bits); refine hK _ ?_; clear hK K
          refine wpR_eff #[true, true, true, true, true, true, true, true, true, true, true, true] (i := 11) rfl (by kernel_rfl) (fun K hK => ?_)
          go_simp; refine hK _ _ ?_; clear hK K
          refine wpR_done (by kernel_rfl) ?_ _
          simp only [OnlyN]
          go_wp2
          go_ret
          rw [HT.out]
          exact ⟨rfl, HH.out⟩
end Go.Proofs.YtnpinegpajbkeaaDoor
/- stripe.slot.mix. -/
namespace Go.Proofs.YtnpinegpajbkeaaDoor
open Go.RowKit HP
set_option linter.unusedSimpArgs false
set_option linter.unusedVariables false

/-- Bytes from a place on, xored one by one. -/
def mixN (L : List Int) (off : Nat) (O : List Int) : Nat → List Int
  | 0 => L
  | i + 1 => (mixN L off O i).set (off + i) (xorB (L.getD (off + i) 0) (O.getD i 0))
theorem mixN_length (L : List Int) (off : Nat) (O : List Int) : ∀ i, (mixN L off O i).length = L.length
  | 0 => rfl
  | i + 1 => by rw [mixN, List.length_set, mixN_length]
theorem mixN_ge (L : List Int) (off : Nat) (O : List Int) : ∀ i j, off + i ≤ j → (mixN L off O i)[j]? = L[j]?
  | 0, j, _ => rfl
  | i + 1, j, h => by rw [mixN, List.getElem?_set_ne (by omega), mixN_ge L off O i j (by omega)]
theorem mixN_lt (L : List Int) (off : Nat) (O : List Int) : ∀ i j, j < off → (mixN L off O i)[j]? = L[j]?
  | 0, j, _ => rfl
  | i + 1, j, h => by rw [mixN, List.getElem?_set_ne (by omega), mixN_lt L off O i j h]
theorem mixN_in (L : List Int) (off : Nat) (O : List Int) : ∀ i j, j < i → off + i ≤ L.length → (mixN L off O i)[off + j]? = some (xorB (L.getD (off + j) 0) (O.getD j 0))
  | 0, j, h, _ => by omega
  | i + 1, j, h, hl => by
    rcases Nat.lt_or_ge j i with h1 | h1
    · rw [mixN, List.getElem?_set_ne (by omega), mixN_in L off O i j h1 (by omega)]
    · obtain rfl : j = i := by omega
      rw [mixN, List.getElem?_set_self (by rw [mixN_length]; omega)]
theorem run_index_slot (w : World) (O : List Int) (k : Nat) (h : O.length = 106) (hk : k < 106) : (Instr.index 99 (.agg (b8s O).toArray) (.int .i64 (k : Int))).run Tryd.prog w = .ok (.int .u8 (O.getD k 0)) w := by
  have e0 : (0 : Int) ≤ (k : Int) ∧ (k : Int) < 106 := by omega
  have e6 : (sizeOf 5).run Tryd.prog w = .ok 1 w := by kernel_rfl
  have e7 : (isAgg 5).run Tryd.prog w = .ok false w := by kernel_rfl
  have e8 : (b8s O)[k]? = some (.int .u8 (O.getD k 0)) := by
    unfold b8s
    rw [List.getElem?_map, List.getD_eq_getElem?_getD, List.getElem?_eq_getElem (by omega)]
    rfl
  simp [Instr.index, run_underlying Tryd.underlying99, asIntOf, e0, e6, e7, e8, part]
  intro h2
  omega
theorem b8s_setv (L : List Int) (i : Nat) (x : Int) : (b8s L).toArray.setIfInBounds i (.int .u8 x) = (b8s (L.set i x)).toArray := by
  rw [List.setIfInBounds_toArray]
  unfold b8s
  rw [List.map_set]
theorem b8s_getD {L : List Int} {i : Nat} (h : i < L.length) : (b8s L).toArray[i]? = some (.int .u8 (L.getD i 0)) := by
  rw [List.getElem?_toArray]
  unfold b8s
  rw [List.getElem?_map, List.getD_eq_getElem?_getD, List.getElem?_eq_getElem h]
  rfl
set_option maxHeartbeats 2000000 in
set_option maxRecDepth 100000 in
theorem stripe_mix (E : Env) (q : HP) (g off : Nat) (ty : TypeId) (L O : List Int) (w : World) (hO : O.length = 106) (hL : off + 106 ≤ L.length) (hw : Sat E w (HP.pt g (.cells (b8s L).toArray ty) * q)) :
    Calls Tryd.prog 55 #[.pointer (some ⟨g, off, none⟩), .agg (b8s O).toArray] w fun e w' => e = .returned (.tuple #[]) ∧ Sat E w' (HP.pt g (.cells (b8s (mixN L off O 106)).toArray ty) * q) := by
  have h0 := hw.alloc (.cells (b8s O).toArray 99)
  have r0 := run_loadAgg (P := Tryd.prog) agSlot (by rw [b8s_length]; exact hO) (Sat.ptCells (off := 0) (l := b8s O) h0 (by rw [List.drop_zero, List.take_length]))
  have HL := Aside.mk hL
  have HIX := Aside.mk (fun (w : World) (k : Nat) (hk : k < 106) => run_index_slot w O k hO hk)
  have H0 : Aside (Sat E (w.alloc (.cells (b8s O).toArray 99)) (HP.pt g (.cells (b8s (mixN L off O 0)).toArray ty) * (HP.pt w.heap.size (.cells (b8s O).toArray 99) * q))) := ⟨h0.perm (by show HP.pt _ _ * (HP.pt g (.cells (b8s L).toArray ty) * q) = HP.pt g (.cells (b8s L).toArray ty) * (_ * q); ac_rfl)⟩
  clear hw h0 hL hO
  obtain ⟨C, hC⟩ : ∃ C, C = (b8s O).toArray := ⟨_, rfl⟩
  rw [← hC] at H0 HIX r0 ⊢
  clear hC
  go_enter Tryd.func55, Tryd.ntmps55
  go_wp2_with (first | (refine wpList_load_run rfl rfl rfl r0 ?_))
  go_loopw [7] (fun v7 wr => ∃ k : Nat, k ≤ 106 ∧ v7 = .int .i64 k ∧ Aside (Sat E wr (HP.pt g (.cells (b8s (mixN L off O k)).toArray ty) * (HP.pt w.heap.size (.cells C 99) * q)))) (fun i _ => 106 - (intOf i).toNat)
  case atStart => exact ⟨0, by omega, rfl, H0⟩
  case round =>
    clear H0
    obtain ⟨k, hk, rfl, HS⟩ := hrel
    by_cases hlt : k < 106
    · have hlt2 : (k : Int) < 106 := by omega
      have ix := HIX.out wr k hlt
      have hki : off + k < (mixN L off O k).length := by rw [mixN_length]; have := HL.out; omega
      have gc : wr.drew.cell? ⟨g, off + k, none⟩ = some (.int .u8 (L.getD (off + k) 0)) := by
        rw [HS.out.drew.cell (off + k), b8s_getD hki, List.getD_eq_getElem?_getD, mixN_ge L off O k (off + k) (Nat.le_refl _), ← List.getD_eq_getElem?_getD]
      have gf : wr.drew.frozen? ⟨g, off + k, none⟩ = false := HS.out.drew.thaw (off + k)
      have H2 : Aside (Sat E (wr.drew.setCell ⟨g, off + k, none⟩ (.int .u8 (xorB (L.getD (off + k) 0) (O.getD k 0)))) (HP.pt g (.cells (b8s (mixN L off O (k + 1))).toArray ty) * (HP.pt w.heap.size (.cells C 99) * q))) := ⟨by
        have h := HS.out.drew.set (i := off + k) (.int .u8 (xorB (L.getD (off + k) 0) (O.getD k 0)))
        rw [b8s_setv] at h
        exact h⟩
      clear HS hki
      generalize L.getD (off + k) 0 = x at *
      generalize O.getD k 0 = y at *
      unfold xorB at H2
      go_wp2
      refine region_R [9] [] (fun _ => True) #[false, false, false, false, false, false, false, false, false, false] (by kernel_rfl) rfl rfl ?_
      refine wpR_rd 0 #[true, false, false, false, false, false, false, false, false, false] rfl onlyN_noPanic (by kernel_rfl) (fun K hK => ?_); (go_simp; try go_bits); refine hK _ ?_; clear hK K
      refine wpR_rd 1 #[true, true, false, false, false, false, false, false, false, false] rfl onlyN_noPanic (by kernel_rfl) (fun K hK => ?_); (go_simp; try go_bits); refine hK _ ?_; clear hK K
      refine wpR_rd 2 #[true, true, true, false, false, false, false, false, false, false] rfl onlyN_noPanic (by kernel_rfl) (fun K hK => ?_); (go_simp; try go_bits); refine hK _ ?_; clear hK K
      refine wpR_rd 3 #[true, true, true, true, false, false, false, false, false, false] rfl onlyN_noPanic (by kernel_rfl) (fun K hK => ?_); (go_simp; try go_bits); refine hK _ ?_; clear hK K
      refine wpR_rd 4 #[true, true, true, true, true, false, false, false, false, false] rfl onlyN_noPanic (by kernel_rfl) (fun K hK => ?_); (go_simp; try go_bits); refine hK _ ?_; clear hK K
      refine wpR_rd 5 #[true, true, true, true, true, true, false, false, false, false] rfl onlyN_noPanic (by kernel_rfl) (fun K hK => ?_); (go_simp; try go_bits); refine hK _ ?_; clear hK K
      refine wpR_rd 6 #[true, true, true, true, true, true, true, false, false, false] rfl onlyN_noPanic (by kernel_rfl) (fun K hK => ?_); (go_simp; try go_bits); refine hK _ ?_; clear hK K
      refine wpR_rd 7 #[true, true, true, true, true, true, true, true, false, false] rfl onlyN_noPanic (by kernel_rfl) (fun K hK => ?_); (go_simp; try go_bits); refine hK _ ?_; clear hK K
      refine wpR_rd 8 #[true, true, true, true, true, true, true, true, true, false] rfl onlyN_noPanic (by kernel_rfl) (fun K hK => ?_); (go_simp; try go_bits); refine hK _ ?_; clear hK K
      refine wpR_eff #[true, true, true, true, true, true, true, true, true, true] (i := 9) rfl (by kernel_rfl) (fun K hK => ?_)
      go_simp; refine hK _ _ ?_; clear hK K
      refine wpR_done (by kernel_rfl) ?_ _
      simp only [OnlyN]
      go_wp2
      go_roundw
      case rel => exact ⟨k + 1, by omega, by push_cast; rfl, H2⟩
      case measure => simp [intOf]; omega
    · obtain rfl : k = 106 := by omega
      go_wp2
      exact ⟨rfl, .tuple #[], by first | rfl | (unfold results; rw [show Tryd.f55.results = #[] by kernel_rfl]; simp), rfl, HS.out.drop2⟩
end Go.Proofs.YtnpinegpajbkeaaDoor
/- pair.Put. -/
namespace Go.Proofs.YtnpinegpajbkeaaDoor
open Go.RowKit HP
set_option linter.unusedSimpArgs false
set_option linter.unusedVariables false

def putP (A : Dk) (name : ByteArray) (i gen : Int) (p : List Int) : Int × Dk := if FrameOk i gen p.length then wrP A name i.toNat gen.toNat [p] else (1, A)
end Go.Proofs.YtnpinegpajbkeaaDoor
/- pair.Drop, pair.Need. -/
namespace Go.Proofs.YtnpinegpajbkeaaDoor
open Go.RowKit HP
set_option linter.unusedSimpArgs false
set_option linter.unusedVariables false

def dropL (A : Dk) : List ByteArray → Int × Dk
  | [] => (0, A)
  | f :: r => if (A.at f).length = 0 then dropL A r else if (A.remove f).1 = 0 then dropL (A.remove f).2 r else A.remove f
def dropP (A : Dk) (name : ByteArray) : Int × Dk := dropL A (halvesL name)
def needI (n : Int) : Int := if n ≤ 0 then 2 else 2 * ((n - 1) / 106 + 1)
end Go.Proofs.YtnpinegpajbkeaaDoor
/- slices.Chunk: a slice's pieces come, one behind the other. -/
namespace Go.Proofs.YtnpinegpajbkeaaDoor
open Go.RowKit Go.Shelf HP
set_option linter.unusedSimpArgs false
set_option linter.unusedVariables false
attribute [local go_sem] Oper.semAt_some

def chunkN (n : Nat) : Nat := (n + 105) / 106
def chunkM (n k : Nat) : Nat := min 106 (n - 106 * k)
def chunkV (g o n k : Nat) : Value := .slice (some ⟨g, o + 106 * k, none⟩) (chunkM n k) (chunkM n k)
def Keep2 (b1 b2 : Nat) (W W' : World) : Prop := W'.heap[b1]? = W.heap[b1]? ∧ W'.heap[b2]? = W.heap[b2]?
theorem Keep2.refl {b1 b2 : Nat} (W : World) : Keep2 b1 b2 W W := ⟨rfl, rfl⟩
theorem Keep2.trans {b1 b2 : Nat} {W X Y : World} (h : Keep2 b1 b2 W X) (k : Keep2 b1 b2 X Y) : Keep2 b1 b2 W Y := ⟨k.1.trans h.1, k.2.trans h.2⟩
theorem grows_drew (w : World) : w.grownBy w.drew none := ⟨rfl, rfl, rfl, Nat.le_refl _, fun _ _ _ => rfl⟩
end Go.Proofs.YtnpinegpajbkeaaDoor
/- slices.AppendSeq and Collect over slices.Chunk. -/
namespace Go.Proofs.YtnpinegpajbkeaaDoor
open Go.RowKit Go.Shelf HP
set_option linter.unusedSimpArgs false
set_option linter.unusedVariables false
attribute [local go_sem] Oper.semAt_some

end Go.Proofs.YtnpinegpajbkeaaDoor
/- pair.Store. -/
namespace Go.Proofs.YtnpinegpajbkeaaDoor
open Go.RowKit HP
set_option linter.unusedSimpArgs false
set_option linter.unusedVariables false

/-- A text's pieces. -/
def piece (l : List Int) (k : Nat) : List Int := (l.drop (106 * k)).take 106
def piecesI (l : List Int) : List (List Int) := if l.length = 0 then [[]] else (List.range (chunkN l.length)).map (piece l)
def storeP (A : Dk) (name : ByteArray) (gen : Nat) (l : List Int) : Int × Dk := if (dropP A name).1 = 0 then wrP (dropP A name).2 name 0 gen (piecesI l) else dropP A name
theorem piece_length (l : List Int) (k : Nat) : (piece l k).length = chunkM l.length k := by
  unfold piece chunkM
  rw [List.length_take, List.length_drop]
def pieceS (g o : Nat) (l : List Int) (k : Nat) : Sl Int := ⟨some ⟨g, o + 106 * k, none⟩, chunkM l.length k, piece l k⟩
theorem pieceS_val (g o : Nat) (l : List Int) (k : Nat) : (pieceS g o l k).val8 = chunkV g o l.length k := by
  unfold Sl.val8 pieceS chunkV
  rw [piece_length]
end Go.Proofs.YtnpinegpajbkeaaDoor
/- pair.Get. -/
namespace Go.Proofs.YtnpinegpajbkeaaDoor
open Go.RowKit HP
set_option linter.unusedSimpArgs false
set_option linter.unusedVariables false

/-- A half read: what is best so far. -/
def getF (A : Dk) (i : Int) (st : Int × List Int) (f : ByteArray) : Int × List Int :=
  match A.cel f i with
  | none => st
  | some c => match openI c.read f i with
    | none => st
    | some x => if (x.2 : Int) ≤ st.1 then st else ((x.2 : Int), x.1)
def getP (A : Dk) (name : ByteArray) (i : Int) : Int × List Int := (halvesL name).foldl (getF A i) (-1, [])
theorem openI_gen {b : List Int} {f : ByteArray} {i : Int} {p : List Int} {g : Nat} (h : openI b f i = some (p, g)) : (g : Int) ≤ 4611686018427387904 ∧ p.length ≤ 106 := by
  unfold openI at h
  split at h
  · cases h
  · split at h
    · cases h
    · split at h
      · cases h
      · rename_i h1 h2 h3
        simp only [Option.some.injEq, Prod.mk.injEq] at h
        obtain ⟨rfl, rfl⟩ := h
        refine ⟨by omega, ?_⟩
        rw [List.length_take]
        omega
def getEnd (st : Int × List Int) (v : Value) : Ending := if st.1 < 0 then .returned (.tuple #[.slice none 0 0, .int .i64 0, .int .i64 50]) else .returned (.tuple #[v, .int .i64 st.1, .int .i64 0])
set_option maxHeartbeats 2000000 in
set_option maxRecDepth 100000 in
theorem pair_get (E : Env) (q : HP) (d : Nat) (A : Dk) (name : ByteArray) (i : Int) (w : World) (hname : name.size + 2 ≤ maxLen) (hby : ∀ f ∈ halvesL name, ∀ c, A.cel f i = some c → Bytes c.read)
    (hq : ∀ w, Sat E w q → Quarter w) (hw : Sat E w (HP.disk d A * q)) :
    Calls Tryd.prog 73 #[.pointer (some ⟨d, 0, none⟩), .string name, .int .i64 i] w fun e w' => ∃ v, e = getEnd (getP A name i) v ∧ Sat E w' (HP.row 5 1 v (getP A name i).2.length (b8s (getP A name i).2) * (HP.disk d A * q)) := by
  have hfa : (name ++ dotA).size ≤ maxLen := by rw [dotA_size]; exact hname
  have hfb : (name ++ dotB).size ≤ maxLen := by rw [dotB_size]; exact hname
  have HF : Aside (halvesL name = [name ++ dotA, name ++ dotB]) := ⟨rfl⟩
  have HQ := Aside.mk (And.intro hq (And.intro hby hw))
  clear hq hw hby
  go_enter Tryd.func73, Tryd.ntmps73
  go_wp2_with fail
  refine (pair_none E q d A _ HQ.out.2.2).mono ?_
  rintro e w1 ⟨rfl, k1⟩
  have K1 := Aside.mk k1
  clear k1
  go_wp2_with fail
  refine (pair_halves E _ name _ hname K1.out).mono ?_
  rintro e w2 ⟨rfl, k2⟩
  obtain ⟨fa, hfae⟩ : ∃ fa, fa = name ++ dotA := ⟨_, rfl⟩
  obtain ⟨fb, hfbe⟩ : ∃ fb, fb = name ++ dotB := ⟨_, rfl⟩
  rw [← hfae] at hfa HF ⊢
  rw [← hfbe] at hfb HF ⊢
  clear hfae hfbe
  have K2 := Aside.mk (k2.row_nil 5 1 none)
  clear k2 K1
  have i0 : ∀ w, (Instr.index 131 (.agg #[.string fa, .string fb]) (.int .i64 0)).run Tryd.prog w = .ok (.string fa) w := fun w => by kernel_rfl
  have i1 : ∀ w, (Instr.index 131 (.agg #[.string fa, .string fb]) (.int .i64 1)).run Tryd.prog w = .ok (.string fb) w := fun w => by kernel_rfl
  go_wp2
  go_loopw [9, 10, 21] (fun v9 v10 v21 wr => ∃ (h : Nat) (best : Int) (p : List Int), h ≤ 2 ∧ v21 = .int .i64 h ∧ v9 = .int .i64 best ∧ best ≤ 4611686018427387904 ∧ -1 ≤ best ∧ p.length ≤ 106 ∧ Aside ((((halvesL name).drop h).foldl (getF A i) (best, p)) = getP A name i) ∧ Aside (Sat E wr (HP.row 5 1 v10 p.length (b8s p) * (HP.disk d A * q)))) (fun _ _ i _ => 2 - (intOf i).toNat)
  case atStart => exact ⟨0, -1, [], by omega, rfl, rfl, by omega, by omega, by simp, ⟨rfl⟩, K2⟩
  case round =>
    obtain ⟨h, best, p, hh, rfl, rfl, hb1, hb2, hpl, HG, HS⟩ := hrel
    by_cases hlt : h < 2
    · obtain ⟨f, hf, hfm, hff, hix⟩ : ∃ f : ByteArray, f.size ≤ maxLen ∧ f ∈ halvesL name ∧ (halvesL name).drop h = f :: (halvesL name).drop (h + 1) ∧ ∀ w, (Instr.index 131 (.agg #[.string fa, .string fb]) (.int .i64 (h : Int))).run Tryd.prog w = .ok (.string f) w := by
        rw [HF.out]
        rcases Nat.lt_or_ge h 1 with h0 | h0
        · obtain rfl : h = 0 := by omega
          exact ⟨fa, hfa, by simp, rfl, i0⟩
        · obtain rfl : h = 1 := by omega
          exact ⟨fb, hfb, by simp, rfl, i1⟩
      rw [hff, List.foldl_cons] at HG
      clear hff
      have hlt2 : (h : Int) < 2 := by omega
      have hby := HQ.out.2.1 f hfm
      clear hfm
      clear i0 i1
      go_wp2_with fail
      refine (disk_read_ok E _ d A f i _ hf HS.out.s2).mono ?_
      intro e w3 h3
      unfold readEnd at h3
      cases hc : A.cel f i with
      | none =>
        rw [hc] at h3
        obtain ⟨rfl, h3⟩ := h3
        have HG2 : Aside (((halvesL name).drop (h + 1)).foldl (getF A i) (best, p) = getP A name i) := ⟨by rw [← HG.out]; simp only [getF, hc]⟩
        have H3 := Aside.mk h3.s2
        clear h3 hc HG hby HS
        go_wp2
        go_roundw
        case rel => exact ⟨h + 1, best, p, by omega, by push_cast; rfl, rfl, hb1, hb2, hpl, HG2, H3⟩
        case measure => simp [intOf]; omega
      | some cl =>
        rw [hc] at h3
        obtain ⟨vr, rfl, h3⟩ := h3
        have hbr := hby cl hc
        obtain ⟨Ar, cr, rfl, hcr, -⟩ := h3.row_slice
        have hl128 : cl.read.length = 128 := by
          have := h3.row_cases.1
          rw [b8s_length] at this
          exact this
        have HC : Aside (getF A i (best, p) f = match openI cl.read f i with
            | none => (best, p)
            | some x => if (x.2 : Int) ≤ best then (best, p) else ((x.2 : Int), x.1)) := ⟨by simp only [getF, hc]⟩
        have H3 := Aside.mk (And.intro h3 (And.intro hbr hl128))
        clear h3 hbr hl128 hc hby HS
        go_wp2_with fail
        refine (ext_open E _ f i Ar cl.read 128 cr _ hf H3.out.2.2 hcr H3.out.2.1 (fun w h => ⟨HQ.out.1 _ h.right.right.right, h.row_cells⟩) H3.out.1).mono ?_
        rintro e w4 (⟨ho, rfl, h4⟩ | ⟨p2, G, vp, ho, rfl, h4⟩)
        · rw [ho] at HC
          rw [HC.out] at HG
          have H4 := Aside.mk (h4.right.s2)
          clear h4 ho HC H3
          go_wp2
          go_roundw
          case rel => exact ⟨h + 1, best, p, by omega, by push_cast; rfl, rfl, hb1, hb2, hpl, HG, H4⟩
          case measure => simp [intOf]; omega
        · obtain ⟨hG1, hp2⟩ := openI_gen ho
          rw [ho] at HC
          dsimp only at HC
          by_cases hle : (G : Int) ≤ best
          · rw [if_pos hle] at HC
            rw [HC.out] at HG
            have H4 := Aside.mk (h4.right.right.s2)
            clear h4 ho HC H3
            go_wp2
            go_roundw
            case rel => exact ⟨h + 1, best, p, by omega, by push_cast; rfl, rfl, hb1, hb2, hpl, HG, H4⟩
            case measure => simp [intOf]; omega
          · rw [if_neg hle] at HC
            rw [HC.out] at HG
            obtain ⟨A2, c2, rfl, -, -⟩ := h4.row_slice
            have H4 := Aside.mk h4
            clear h4 ho HC H3
            obtain ⟨m, hm⟩ : ∃ m, m = p2.length := ⟨_, rfl⟩
            rw [← hm] at H4 hp2 ⊢
            have HM := Aside.mk hm
            clear hm
            have hle2 : best < (G : Int) := by omega
            clear hle
            go_wp2_with (first
              | (refine wpList_make_row (n := m) slB8 rfl rfl rfl rfl rfl H4.out (by unfold maxLen; omega) (by omega) (fun g w5 hw5 => ?_); have HW5 := Aside.mk hw5; clear hw5)
              | (at_builtin; fail)
              | (refine wpList_copy_sat Tryd.underlying47 (by kernel_rfl) rfl rfl rfl rfl HW5.out (by rw [b8s_length]; exact HM.out.symm) (HW5.out.right.row_cells) (b8s_one _) (fun w6 hw6 => ?_); have HW6 := Aside.mk hw6; clear hw6))
            have HW7 : Aside (Sat E w6 (HP.row 5 1 (.slice (some ⟨g, 0, none⟩) m m) p2.length (b8s p2) * (HP.disk d A * q))) := ⟨by
              have h7 := HW6.out.drop2.drop2
              rw [List.take_of_length_le (by rw [b8s_length, ← HM.out]; exact Nat.le_refl _), List.drop_of_length_le (by simp), List.append_nil] at h7
              have h8 : Sat E w6 (HP.row 5 1 u10 p.length (b8s p) * (HP.row 5 1 (.slice (some ⟨g, 0, none⟩) m m) m (b8s p2) * (HP.disk d A * q))) := h7.perm (by ac_rfl)
              rw [← HM.out]
              exact h8.right⟩
            clear HW5 HW6 H4
            go_wp2
            go_roundw
            case rel => exact ⟨h + 1, (G : Int), p2, by omega, by push_cast; rfl, rfl, hG1, by omega, by rw [← HM.out]; omega, HG, HW7⟩
            case measure => simp [intOf]; omega
    · have hh2 : h = 2 := by omega
      subst hh2
      rw [HF.out] at HG
      have HX : Aside (getP A name i = (best, p)) := ⟨HG.out.symm⟩
      clear HG i0 i1
      by_cases hneg : best < 0
      · go_wp2
        go_ret3
        rw [HX.out]
        exact ⟨_, by unfold getEnd; rw [if_pos hneg]; rfl, HS.out⟩
      · go_wp2
        go_ret3
        rw [HX.out]
        exact ⟨_, by unfold getEnd; rw [if_neg (by show ¬ best < 0; omega)]; rfl, HS.out⟩
end Go.Proofs.YtnpinegpajbkeaaDoor
/- What is framed is opened; two extents written and read. -/
namespace Go.Proofs.YtnpinegpajbkeaaDoor
open Go.RowKit HP
set_option linter.unusedSimpArgs false
set_option linter.unusedVariables false

theorem extI_parts {f : ByteArray} {i g : Nat} {p : List Int} (h : p.length ≤ 106) :
    (extI f i g p).getD 17 0 = p.length ∧ ((extI f i g p).drop 9).take 8 = putI g 8 ∧ ((extI f i g p).drop 18).take p.length = p := by
  have e : extI f i g p = ([229] ++ putI (crcSum (strB f)) 4 ++ putI i 4) ++ (putI g 8 ++ ((p.length : Int) :: (p ++ (List.replicate (106 - p.length) 0 ++ putI (crcSum (extH f i g p)) 4)))) := by
    unfold extI
    conv => lhs; arg 1; unfold extH
    simp only [List.append_assoc, List.cons_append, List.nil_append]
  have l1 : ([229] ++ putI (crcSum (strB f)) 4 ++ putI i 4 : List Int).length = 9 := by simp [putI_length]
  have d9 : (extI f i g p).drop 9 = putI g 8 ++ ((p.length : Int) :: (p ++ (List.replicate (106 - p.length) 0 ++ putI (crcSum (extH f i g p)) 4))) := by
    rw [e, ← l1, List.drop_left]
  have d17 : (extI f i g p).drop 17 = (p.length : Int) :: (p ++ (List.replicate (106 - p.length) 0 ++ putI (crcSum (extH f i g p)) 4)) := by
    rw [show 17 = 9 + 8 from rfl, ← List.drop_drop, d9, List.drop_left' (putI_length g 8)]
  refine ⟨?_, ?_, ?_⟩
  · have := congrArg (fun l => l[0]?) d17
    simp only [List.getElem?_drop, Nat.add_zero, List.getElem?_cons_zero] at this
    simp [List.getD, this]
  · rw [d9]
    have := putI_length g 8
    rw [List.take_append_of_le_length (by omega), List.take_of_length_le (by omega)]
  · rw [show 18 = 17 + 1 from rfl, ← List.drop_drop, d17, List.drop_one, List.tail_cons, List.take_left]
theorem openI_extI {f : ByteArray} {i g : Nat} {p : List Int} (hi : i ≤ 2147483647) (hg : g ≤ 4611686018427387904) (h : p.length ≤ 106) : openI (extI f i g p) f i = some (p, g) := by
  obtain ⟨h1, h2, h3⟩ := extI_parts (f := f) (i := i) (g := g) h
  unfold openI
  rw [h1, h2, Int.toNat_natCast, Int.toNat_natCast, h3, getN_putI 8 g (by omega)]
  rw [if_neg (by rw [extI_length h]; omega), if_neg (by omega), if_neg (by simp)]

def stl (I : List Int) : Cel := ⟨I, I, I, I, false⟩
theorem stl_sync (c : Cel) (I : List Int) : (c.wrote I).syncd = stl I := rfl
structure TwoNames (fa fb : ByteArray) : Prop where
  na : namedB fa = true
  nb : namedB fb = true
  ne : fa ≠ fb
  lt : ltN fa fb = true
  gt : ltN fb fa = false
def wr1 (A : Dk) (f : ByteArray) (i : Int) (I : List Int) : Int × Dk := if (A.write f i I).1 = 0 then (A.write f i I).2.sync f else A.write f i I
def put2 (A : Dk) (fa fb : ByteArray) (i : Int) (Ia Ib : List Int) : Int × Dk :=
  if (wr1 A fa i Ia).1 = 0 then (if (wr1 (wr1 A fa i Ia).2 fb i Ib).1 = 0 then (0, (wr1 (wr1 A fa i Ia).2 fb i Ib).2) else wr1 (wr1 A fa i Ia).2 fb i Ib) else wr1 A fa i Ia
theorem wrF_one {A : Dk} {f : ByteArray} {i g : Nat} {p : List Int} (hf : FrameOk i g p.length) : wrF A f g i [p] = wr1 A f i (extI f i g p) := by
  unfold wrF wr1
  rw [if_neg (by simpa using hf)]
  rfl
def two (room fuse : Int) (fa fb : ByteArray) (a b : Cel) : Dk := ⟨room, fuse, [(fa, [a]), (fb, [b])]⟩
section
variable {fa fb : ByteArray} {Ia Ib : List Int} (T : TwoNames fa fb) (la : Ia.length = 128) (lb : Ib.length = 128)
include T la lb
theorem put_first : put2 (Dk.new 4) fa fb 0 Ia Ib = (0, two 4 (-1) fa fb (stl Ia) (stl Ib)) := by
  obtain ⟨na, nb, ne, lt, gt⟩ := T
  have ne' := Ne.symm ne
  simp [put2, wr1, Dk.write, Dk.sync, Dk.new, Dk.at, Dk.free, Dk.goes, Dk.burnt, burnI, Dk.set, lk_nil, lk_cons, putF, sizeF, na, nb, ne, ne', lt, gt, la, lb, stl_sync, two]
theorem put_first2 : put2 (Dk.new 2) fa fb 0 Ia Ib = (0, two 2 (-1) fa fb (stl Ia) (stl Ib)) := by
  obtain ⟨na, nb, ne, lt, gt⟩ := T
  have ne' := Ne.symm ne
  simp [put2, wr1, Dk.write, Dk.sync, Dk.new, Dk.at, Dk.free, Dk.goes, Dk.burnt, burnI, Dk.set, lk_nil, lk_cons, putF, sizeF, na, nb, ne, ne', lt, gt, la, lb, stl_sync, two]
end
theorem cel_a {room fuse : Int} {fa fb : ByteArray} {a b : Cel} : (two room fuse fa fb a b).cel fa 0 = some a := by simp [two, Dk.cel, Dk.at, lk_cons]
theorem cel_b {room fuse : Int} {fa fb : ByteArray} {a b : Cel} (h : fa ≠ fb) : (two room fuse fa fb a b).cel fb 0 = some b := by simp [two, Dk.cel, Dk.at, lk_cons, h]
/-- Of two halves that are right the greater generation counts; of two alike the first. -/
theorem get_two {x : ByteArray} (h : x ++ dotA ≠ x ++ dotB) {room fuse : Int} {ca cb : Cel} {ga gb : Nat} (ha : ga ≤ 4611686018427387904) (hb : gb ≤ 4611686018427387904) {pa pb : List Int} (la : pa.length ≤ 106) (lb : pb.length ≤ 106)
    (ra : ca.read = extI (x ++ dotA) 0 ga pa) (rb : cb.read = extI (x ++ dotB) 0 gb pb) :
    getP (two room fuse (x ++ dotA) (x ++ dotB) ca cb) x 0 = if (gb : Int) ≤ ga then ((ga : Int), pa) else ((gb : Int), pb) := by
  have oa := openI_extI (f := x ++ dotA) (i := 0) (by omega) ha la
  have ob := openI_extI (f := x ++ dotB) (i := 0) (by omega) hb lb
  simp only [Int.ofNat_zero, Int.natCast_zero] at oa ob
  rw [← ra] at oa
  rw [← rb] at ob
  unfold getP halvesL
  simp only [List.foldl_cons, List.foldl_nil]
  rw [show getF _ 0 (-1, []) (x ++ dotA) = ((ga : Int), pa) by simp only [getF, cel_a, oa]; rw [if_neg (by show ¬ (ga : Int) ≤ -1; omega)]]
  simp only [getF, cel_b h, ob]
def exS : ByteArray := ⟨#[120]⟩
theorem twoEx : TwoNames (exS ++ dotA) (exS ++ dotB) := ⟨by kernel_rfl, by kernel_rfl, by decide, by kernel_rfl, by kernel_rfl⟩
end Go.Proofs.YtnpinegpajbkeaaDoor
/- Payloads written behind a file of a disk that has room. -/
namespace Go.Proofs.YtnpinegpajbkeaaDoor
open Go.RowKit HP
set_option linter.unusedSimpArgs false
set_option linter.unusedVariables false

theorem goes_ever {A : Dk} (h : A.fuse = -1) : A.goes = true := by simp [Dk.goes, burnI, h]
theorem burnt_ever {A : Dk} (h : A.fuse = -1) : A.burnt = A := by
  obtain ⟨r, f, fs⟩ := A
  simp only at h
  subst h
  rfl
theorem write_end {A : Dk} {f : ByteArray} {I : List Int} (hn : namedB f = true) (hl : I.length = 128) (he : A.fuse = -1) (hf : 0 < A.free) : A.write f ((A.at f).length : Int) I = (0, A.set f (A.at f ++ [Cel.zero.wrote I])) := by
  unfold Dk.write
  rw [if_neg (by rw [hn, hl]; simp), if_neg (by rw [goes_ever he]; simp), if_neg (by omega), if_pos rfl, burnt_ever he]
theorem at_some {A : Dk} {f : ByteArray} (h : 0 < (A.at f).length) : lk A.files f = some (A.at f) := by
  unfold Dk.at at h ⊢
  cases hk : lk A.files f with
  | none => rw [hk] at h; simp at h
  | some l => rfl
structure Fresh (A B : Dk) (f : ByteArray) (m : Nat) : Prop where
  sorted : Sorted B.files
  fuse : B.fuse = -1
  room : B.room = A.room
  size : sizeF B.files = sizeF A.files + m
  others : ∀ t, f ≠ t → B.at t = A.at t
theorem set_fresh {A : Dk} {f : ByteArray} {l : List Cel} {m : Nat} (hs : Sorted A.files) (he : A.fuse = -1) (hl : l.length = (A.at f).length + m) : Fresh A (A.set f l) f m :=
  ⟨sorted_put f l hs, he, rfl, by
    have := sizeF_put hs f l
    have h2 : ((lk A.files f).getD []).length = (A.at f).length := rfl
    show sizeF (putF A.files f l) = _
    omega, fun t ht => by rw [at_set hs l, if_neg ht]⟩
theorem wrF_fresh {f : ByteArray} {gen : Nat} (hn : namedB f = true) (hg : (gen : Int) ≤ 4611686018427387904) : ∀ (ps : List (List Int)) (A : Dk) (i : Nat), Sorted A.files → A.fuse = -1 → (A.at f).length = i → (ps.length : Int) ≤ A.free → (∀ p ∈ ps, p.length ≤ 106) → i + ps.length ≤ 2147483647 → 0 < i + ps.length →
    ∃ B, wrF A f gen i ps = (0, B) ∧ Fresh A B f ps.length ∧ (B.at f).length = i + ps.length
  | [], A, i, hs, he, hi, _, _, _, h0 => by
    have hl := at_some (A := A) (f := f) (by rw [hi]; simpa using h0)
    refine ⟨_, sync_some hl (goes_ever he), ?_, ?_⟩
    · rw [burnt_ever he]
      exact set_fresh hs he (by rw [List.length_map]; rfl)
    · rw [burnt_ever he, at_set hs, if_pos rfl, List.length_map, hi]; rfl
  | p :: ps, A, i, hs, he, hi, hf, hp, hm, _ => by
    have hpl := hp p (List.mem_cons_self ..)
    simp only [List.length_cons] at hf hm
    have hfo : FrameOk (i : Int) gen p.length := ⟨by omega, by omega, by omega, hg, hpl⟩
    have hw : A.write f (i : Int) (extI f i gen p) = (0, A.set f (A.at f ++ [Cel.zero.wrote (extI f i gen p)])) := by
      have := write_end (A := A) (f := f) (I := extI f i gen p) hn (extI_length hpl) he (by omega)
      rw [hi] at this
      exact this
    have h1 := set_fresh (A := A) (f := f) (l := A.at f ++ [Cel.zero.wrote (extI f i gen p)]) (m := 1) hs he (by rw [List.length_append]; rfl)
    have hlen : ((A.set f (A.at f ++ [Cel.zero.wrote (extI f i gen p)])).at f).length = i + 1 := by rw [at_set hs, if_pos rfl, List.length_append, hi]; rfl
    obtain ⟨B, hB, hF, hBl⟩ := wrF_fresh hn hg ps (A.set f (A.at f ++ [Cel.zero.wrote (extI f i gen p)])) (i + 1) h1.sorted h1.fuse hlen (by
      have := h1.size
      show (ps.length : Int) ≤ (A.set f _).room - _
      unfold Dk.free at hf
      have h2 := h1.room
      omega) (fun x hx => hp x (List.mem_cons_of_mem _ hx)) (by omega) (by omega)
    refine ⟨B, ?_, ⟨hF.sorted, hF.fuse, hF.room.trans h1.room, ?_, fun t ht => (hF.others t ht).trans (h1.others t ht)⟩, by rw [hBl, List.length_cons]; omega⟩
    · unfold wrF
      rw [if_neg (by simpa using hfo), hw, if_pos rfl]
      exact hB
    · rw [hF.size, h1.size, List.length_cons]; omega
end Go.Proofs.YtnpinegpajbkeaaDoor
/- PairNeeds, the plain part: how many extents a text has. -/
namespace Go.Proofs.YtnpinegpajbkeaaDoor
open Go.RowKit HP
set_option linter.unusedSimpArgs false
set_option linter.unusedVariables false

theorem pieces_count {l : List Int} : ((piecesI l).length : Int) * 2 = needI l.length ∧ 0 < (piecesI l).length ∧ (l.length ≤ 600 → (piecesI l).length ≤ 6) ∧ ∀ p ∈ piecesI l, p.length ≤ 106 := by
  unfold piecesI needI
  by_cases h : l.length = 0
  · rw [if_pos h, if_pos (by omega)]
    refine ⟨by decide, by decide, fun _ => by decide, fun p hp => ?_⟩
    obtain rfl := List.mem_singleton.1 hp
    exact Nat.zero_le _
  · rw [if_neg h, if_neg (by omega), List.length_map, List.length_range]
    unfold chunkN
    refine ⟨by omega, by omega, fun h => by omega, fun p hp => ?_⟩
    obtain ⟨k, _, rfl⟩ := List.mem_map.1 hp
    rw [piece_length]
    unfold chunkM
    omega
/-- A text stored on a new disk. -/
theorem store_new {room : Int} {l : List Int} {gen : Nat} (hg : (gen : Int) ≤ 4611686018427387904) (hr : needI l.length ≤ room) (hl : (piecesI l).length ≤ 2147483647) : ∃ B, storeP (Dk.new room) exS gen l = (0, B) ∧ B.free = room - needI l.length ∧ B.fuse = -1 := by
  obtain ⟨p1, p2, -, p4⟩ := pieces_count (l := l)
  have hd : dropP (Dk.new room) exS = (0, Dk.new room) := by simp [dropP, dropL, halvesL, Dk.at, Dk.new, lk_nil]
  have hs0 : Sorted (Dk.new room).files := List.Pairwise.nil
  obtain ⟨B1, h1, f1, -⟩ := wrF_fresh (f := exS ++ dotA) twoEx.na hg (piecesI l) (Dk.new room) 0 hs0 rfl rfl (by show _ ≤ room - (0 : Nat); omega) p4 (by omega) (by omega)
  have hz : sizeF (Dk.new room).files = 0 := rfl
  have hr1 : B1.room = room := f1.room
  obtain ⟨B2, h2, f2, -⟩ := wrF_fresh (f := exS ++ dotB) twoEx.nb hg (piecesI l) B1 0 f1.sorted f1.fuse (by rw [f1.others _ twoEx.ne]; rfl) (by
    have := f1.size
    unfold Dk.free
    omega) p4 (by omega) (by omega)
  refine ⟨B2, ?_, ?_, f2.fuse⟩
  · unfold storeP
    rw [hd, if_pos rfl]
    unfold wrP halvesL
    simp only [wrL, h1, h2, if_pos rfl]
    rfl
  · have := f1.size
    have := f2.size
    have := f2.room
    unfold Dk.free
    omega
end Go.Proofs.YtnpinegpajbkeaaDoor
/- pair.Load. -/
namespace Go.Proofs.YtnpinegpajbkeaaDoor
open Go.RowKit HP
set_option linter.unusedSimpArgs false
set_option linter.unusedVariables false

def extN (A : Dk) (name : ByteArray) : Nat := (halvesL name).foldl (fun m f => max m (A.at f).length) 0
def loadG (A : Dk) (name : ByteArray) (gen : Int) : Nat → Nat → List Int → Option (List Int)
  | _, 0, out => some out
  | i, c + 1, out => if 0 ≤ (getP A name i).1 ∧ (getP A name i).1 = gen then loadG A name gen (i + 1) c (out ++ (getP A name i).2) else none
def loadP (A : Dk) (name : ByteArray) (gen : Int) : Option (List Int) := if extN A name = 0 then none else loadG A name gen 0 (extN A name) []
theorem getF_small {A : Dk} {i : Int} {st : Int × List Int} {f : ByteArray} (h : st.2.length ≤ 106) : (getF A i st f).2.length ≤ 106 := by
  unfold getF
  cases A.cel f i with
  | none => exact h
  | some c =>
    dsimp only
    cases ho : openI c.read f i with
    | none => exact h
    | some x =>
      dsimp only
      split
      · exact h
      · exact (openI_gen (p := x.1) (g := x.2) ho).2
theorem getP_small (A : Dk) (name : ByteArray) (i : Int) : (getP A name i).2.length ≤ 106 := by
  unfold getP halvesL
  exact getF_small (getF_small (Nat.zero_le _))
theorem extN_small {A : Dk} (h : ∀ s, (A.at s).length ≤ 100000) (name : ByteArray) : extN A name ≤ 100000 := by
  unfold extN halvesL
  simp only [List.foldl_cons, List.foldl_nil]
  have := h (name ++ dotA)
  have := h (name ++ dotB)
  omega
def loadEnd (E : Env) (q : HP) (r : Option (List Int)) (e : Ending) (w' : World) : Prop :=
  match r with
  | none => e = .returned (.tuple #[.slice none 0 0, .int .i64 50]) ∧ Sat E w' q
  | some l => ∃ v, e = .returned (.tuple #[v, .int .i64 0]) ∧ Sat E w' (HP.row 5 1 v l.length (b8s l) * q)
end Go.Proofs.YtnpinegpajbkeaaDoor
/- A disk on which both halves hold pieces. -/
namespace Go.Proofs.YtnpinegpajbkeaaDoor
open Go.RowKit HP
set_option linter.unusedSimpArgs false
set_option linter.unusedVariables false

def newCels (f : ByteArray) (gen : Nat) : Nat → List (List Int) → List Cel
  | _, [] => []
  | i, p :: ps => Cel.zero.wrote (extI f i gen p) :: newCels f gen (i + 1) ps
theorem wrF_cels {f : ByteArray} {gen : Nat} (hn : namedB f = true) (hg : (gen : Int) ≤ 4611686018427387904) : ∀ (ps : List (List Int)) (A : Dk) (i : Nat), Sorted A.files → A.fuse = -1 → (A.at f).length = i → (ps.length : Int) ≤ A.free → (∀ p ∈ ps, p.length ≤ 106) → i + ps.length ≤ 2147483647 → 0 < i + ps.length →
    (wrF A f gen i ps).2.at f = (A.at f ++ newCels f gen i ps).map Cel.syncd
  | [], A, i, hs, he, hi, _, _, _, h0 => by
    have hl := at_some (A := A) (f := f) (by rw [hi]; simpa using h0)
    show (A.sync f).2.at f = _
    rw [sync_some hl (goes_ever he), burnt_ever he, at_set hs, if_pos rfl]
    simp [newCels]
  | p :: ps, A, i, hs, he, hi, hf, hp, hm, _ => by
    have hpl := hp p (List.mem_cons_self ..)
    simp only [List.length_cons] at hf hm
    have hfo : FrameOk (i : Int) gen p.length := ⟨by omega, by omega, by omega, hg, hpl⟩
    have hw : A.write f (i : Int) (extI f i gen p) = (0, A.set f (A.at f ++ [Cel.zero.wrote (extI f i gen p)])) := by
      have := write_end (A := A) (f := f) (I := extI f i gen p) hn (extI_length hpl) he (by omega)
      rw [hi] at this
      exact this
    have h1 := set_fresh (A := A) (f := f) (l := A.at f ++ [Cel.zero.wrote (extI f i gen p)]) (m := 1) hs he (by rw [List.length_append]; rfl)
    have hlen : ((A.set f (A.at f ++ [Cel.zero.wrote (extI f i gen p)])).at f).length = i + 1 := by rw [at_set hs, if_pos rfl, List.length_append, hi]; rfl
    have hB := wrF_cels hn hg ps (A.set f (A.at f ++ [Cel.zero.wrote (extI f i gen p)])) (i + 1) h1.sorted h1.fuse hlen (by
      have := h1.size
      show (ps.length : Int) ≤ (A.set f _).room - _
      unfold Dk.free at hf
      have h2 := h1.room
      omega) (fun x hx => hp x (List.mem_cons_of_mem _ hx)) (by omega) (by omega)
    unfold wrF
    rw [if_neg (by simpa using hfo), hw, if_pos rfl, hB, at_set hs, if_pos rfl]
    simp [newCels]
theorem newCels_get {f : ByteArray} {gen : Nat} : ∀ (ps : List (List Int)) (i k : Nat) (p : List Int), ps[k]? = some p → (newCels f gen i ps)[k]? = some (Cel.zero.wrote (extI f (i + k) gen p))
  | [], i, k, p, h => by simp at h
  | q :: ps, i, 0, p, h => by
    simp only [List.getElem?_cons_zero, Option.some.injEq] at h
    subst h
    rfl
  | q :: ps, i, k + 1, p, h => by
    have := newCels_get (f := f) (gen := gen) ps (i + 1) k p (by simpa using h)
    rw [show i + 1 + k = i + (k + 1) by omega] at this
    simpa [newCels] using this
theorem newCels_length {f : ByteArray} {gen : Nat} : ∀ (ps : List (List Int)) (i : Nat), (newCels f gen i ps).length = ps.length
  | [], _ => rfl
  | _ :: ps, i => by
    show (newCels f gen (i + 1) ps).length + 1 = ps.length + 1
    rw [newCels_length ps]
/-- A disk on which both halves hold these pieces, of one generation. -/
structure Holds (B : Dk) (x : ByteArray) (gen : Nat) (ps : List (List Int)) : Prop where
  a : B.at (x ++ dotA) = (newCels (x ++ dotA) gen 0 ps).map Cel.syncd
  b : B.at (x ++ dotB) = (newCels (x ++ dotB) gen 0 ps).map Cel.syncd
theorem held_cel {B : Dk} {f : ByteArray} {gen k : Nat} {ps : List (List Int)} {p : List Int} (h : B.at f = (newCels f gen 0 ps).map Cel.syncd) (hp : ps[k]? = some p) : B.cel f (k : Int) = some (stl (extI f k gen p)) := by
  unfold Dk.cel
  rw [if_pos (by omega), Int.toNat_natCast, h, List.getElem?_map, newCels_get ps 0 k p hp, Nat.zero_add]
  rfl
theorem held_get {B : Dk} {x : ByteArray} {gen k : Nat} {ps : List (List Int)} {p : List Int} (h : Holds B x gen ps) (hg : gen ≤ 4611686018427387904) (hk : k ≤ 2147483647) (hp : ps[k]? = some p) (hl : p.length ≤ 106) : getP B x (k : Int) = ((gen : Int), p) := by
  have oa := openI_extI (f := x ++ dotA) (i := k) hk hg hl
  have ob := openI_extI (f := x ++ dotB) (i := k) hk hg hl
  unfold getP halvesL
  simp only [List.foldl_cons, List.foldl_nil]
  rw [show getF B k (-1, []) (x ++ dotA) = ((gen : Int), p) by simp only [getF, held_cel h.a hp, stl, oa]; rw [if_neg (by show ¬ (gen : Int) ≤ -1; omega)]]
  simp only [getF, held_cel h.b hp, stl, ob]
  rw [if_pos (Int.le_refl _)]
end Go.Proofs.YtnpinegpajbkeaaDoor
