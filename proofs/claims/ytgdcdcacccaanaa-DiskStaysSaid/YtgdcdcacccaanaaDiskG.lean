/- (*Disk).Free. -/
import Derived.Test.YtgdcdcacccaanaaDiskE
namespace Go.Proofs.Ytgdcdcacccaanaa
open Go.RowKit HP
set_option linter.unusedSimpArgs false
set_option linter.unusedVariables false

theorem Sat.setBlock {E : Env} {p : HP} {w : World} {b : Nat} {o : Obj} (h : Sat E w (HP.pt b o * p)) (o' : Obj) : Sat E (ChangeMaps.setBlock w b o') (HP.pt b o' * p) := by
  have hlt := h.lt
  refine h.turn ⟨rfl, rfl, rfl, by simp [ChangeMaps.setBlock]⟩ (by simp [ChangeMaps.setBlock, hlt]) fun k hk _ => ?_
  simp only [ChangeMaps.setBlock]
  rw [Array.getElem?_setIfInBounds_ne (by omega)]
def total (fs : List Fil) : Nat := (fs.map fun f => f.cels.length).sum
theorem val_len {E : Env} {q : HP} {w : World} {d : Nat} {room fuse : Int} {m : Nat} {es : Array MapEntry} {clock : Nat} {fs : List Fil} (hw : Sat E w (HP.dk d room fuse m es clock fs * q)) {f : Fil} (hf : f ∈ fs) : valLen f.val = f.cels.length := by
  obtain ⟨j, hj⟩ := List.getElem?_of_mem hf
  have h1 : Sat E w (HP.all (fs.map HP.fil) * (HP.dsk d room fuse m * (HP.pt m (.map es clock) * q))) := hw.perm (by unfold HP.dk; ac_rfl)
  rw [all_take (l := fs.map HP.fil) (j := j) (p := HP.fil f) (by rw [List.getElem?_map, hj]; rfl)] at h1
  have h2 : Sat E w (HP.row 77 1 f.val f.cels.length f.ptrs * (HP.all (f.cels.map fun x => HP.cel x.1 x.2) * (HP.all ((fs.map HP.fil).eraseIdx j) * (HP.dsk d room fuse m * (HP.pt m (.map es clock) * q))))) := h1.perm (by unfold HP.fil; ac_rfl)
  obtain ⟨A, c, hv, -, -⟩ := h2.row_slice
  rw [hv]; rfl
theorem sum_total {E : Env} {q : HP} {w : World} {d : Nat} {room fuse : Int} {m : Nat} {es : Array MapEntry} {clock : Nat} {fs : List Fil} (hm : MapOf es clock fs) (hw : Sat E w (HP.dk d room fuse m es clock fs * q)) : sumLen es.toList = total fs := by
  unfold sumLen total
  have h1 : (es.toList.map fun x => valLen x.val) = fs.map fun f => valLen f.val := by
    have := congrArg (List.map fun y : Value × Value => valLen y.2) hm.2.1
    simpa [List.map_map, Function.comp_def] using this
  rw [h1]
  congr 1
  exact List.map_congr_left fun f hf => val_len hw hf
theorem leftOf_eq (es : Array MapEntry) (seen : Array Nat) : (leftOf es seen).toList = leftL es seen := by
  simp [leftOf, leftL, Array.toList_filter]
end Go.Proofs.Ytgdcdcacccaanaa
