/- slices.Clone of bytes (stands alone). -/
import Derived.Test.YtgdcdcacccaanaaDiskT
import Derived.Lib.SliceRun
namespace Go.Proofs.Ytgdcdcacccaanaa
open Go.RowKit HP
set_option linter.unusedSimpArgs false
set_option linter.unusedVariables false

theorem slB8 : SlTy Try.prog 22 5 (.int .u8 0) 1 1 := ⟨Try.underlying22, by kernel_rfl, rfl, by decide⟩
set_option maxHeartbeats 1000000 in
set_option maxRecDepth 100000 in
theorem cloneBytes_ok (E : Env) (q : HP) (A : Option Addr) (l : List Int) (n c : Nat) (w : World) (hn : l.length = n) (hl : n ≤ 1000000) (hw : Sat E w q) (hc : Cells w A (b8s l)) :
    Calls Try.prog 41 #[.slice A n c] w fun e w' => ∃ v, e = .returned v ∧ Sat E w' (HP.row 5 1 v n (b8s l) * q) := by
  go_enter Try.func41, Try.ntmps41
  cases A with
  | none =>
    have hl0 : l = [] := by
      cases l with
      | nil => rfl
      | cons x l => obtain ⟨a, ha, _⟩ := hc.at_ 0 (by simp [b8s]); cases ha
    subst hl0
    obtain rfl : n = 0 := by simpa using hn.symm
    have hnil := Lib.run_eql_slice_nil (P := Try.prog) w 22 5 none 0 c 0 0 Try.underlying22
    go_wp2
    go_ret
    exact ⟨_, rfl, hw.row_nil _ _ _⟩
  | some a =>
    have hil : (b8s l).length = n * 1 := by simp [b8s, hn]
    have hall : (b8s l).all Value.oneCell' = true := by simp [b8s, Value.oneCell']
    have HH := Aside.mk (And.intro hw (And.intro hc (And.intro hil hall)))
    clear hw hc hil hall hn
    have hnil := Lib.run_eql_slice_nil (P := Try.prog) w 22 5 (some a) n c 0 0 Try.underlying22
    go_wp2_with (at_builtin; refine wpList_append_row slB8 rfl rfl (by rfl) (by rfl) (((HH.out.1.alloc _).right).row_nil _ _ _) (HH.out.2.1.alloc _) HH.out.2.2.1 HH.out.2.2.2 (by unfold maxLen; omega) (by omega) (fun v4 w4 hw4 => ?_))
    go_ret
    refine ⟨_, rfl, ?_⟩
    simpa using hw4

/-- The extent at a place. -/
def celAt (fs : List Fil) (name : ByteArray) (i : Int) : Option (Nat × Cel) :=
  match fs.find? (fun f => decide (f.name = name)) with
  | none => none
  | some f => if 0 ≤ i ∧ i < f.cels.length then f.cels[i.toNat]? else none
theorem cellAt_eq (fs : List Fil) (name : ByteArray) (i : Int) : cellAt fs name i = (celAt fs name i).map fun x => ⟨x.1, 0, none⟩ := by
  unfold cellAt celAt
  cases fs.find? (fun f => decide (f.name = name)) with
  | none => rfl
  | some f =>
    dsimp only
    split <;> rfl
/-- Images are of one size. -/
def Good (fs : List Fil) : Prop := ∀ f ∈ fs, ∀ x ∈ f.cels, x.2.read.length = 128 ∧ x.2.durable.length = 128 ∧ x.2.synced.length = 128 ∧ x.2.written.length = 128
theorem celAt_mem {fs : List Fil} {name : ByteArray} {i : Int} {x : Nat × Cel} (h : celAt fs name i = some x) : ∃ f ∈ fs, x ∈ f.cels := by
  unfold celAt at h
  cases hf : fs.find? (fun f => decide (f.name = name)) with
  | none => rw [hf] at h; cases h
  | some f =>
    rw [hf] at h
    dsimp only at h
    split at h
    · exact ⟨f, List.mem_of_find?_eq_some hf, List.mem_of_getElem? h⟩
    · cases h
theorem Sat.cel_of {E : Env} {q : HP} {w : World} {d : Nat} {room fuse : Int} {m : Nat} {es : Array MapEntry} {clock : Nat} {fs : List Fil} (hw : Sat E w (HP.dk d room fuse m es clock fs * q)) {f : Fil} (hf : f ∈ fs) {x : Nat × Cel} (hx : x ∈ f.cels) :
    ∃ r, Sat E w (HP.cel x.1 x.2 * r) := by
  obtain ⟨j, hj⟩ := List.getElem?_of_mem hf
  obtain ⟨k, hk⟩ := List.getElem?_of_mem hx
  have h1 : Sat E w (HP.all (fs.map HP.fil) * (HP.dsk d room fuse m * (HP.pt m (.map es clock) * q))) := hw.perm (by unfold HP.dk; ac_rfl)
  rw [all_take (l := fs.map HP.fil) (j := j) (p := HP.fil f) (by rw [List.getElem?_map, hj]; rfl)] at h1
  have h2 : Sat E w (HP.all (f.cels.map fun x => HP.cel x.1 x.2) * (HP.row 77 1 f.val f.cels.length f.ptrs * (HP.all ((fs.map HP.fil).eraseIdx j) * (HP.dsk d room fuse m * (HP.pt m (.map es clock) * q))))) := h1.perm (by unfold HP.fil; ac_rfl)
  rw [all_take (l := f.cels.map fun x => HP.cel x.1 x.2) (j := k) (p := HP.cel x.1 x.2) (by rw [List.getElem?_map, hk]; rfl)] at h2
  exact ⟨_, h2.perm (by rw [HP.mul_assoc])⟩
end Go.Proofs.Ytgdcdcacccaanaa
