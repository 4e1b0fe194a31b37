/- A map gone through in any order: sums. -/
import Derived.Test.YtgdcdcacccaanaaDiskR
import Derived.Maps.RangeRun
namespace Go.Proofs.Ytgdcdcacccaanaa
open Go.RowKit HP
set_option linter.unusedSimpArgs false
set_option linter.unusedVariables false

def valLen : Value → Nat
  | .slice _ n _ => n
  | _ => 0
def sumLen (L : List MapEntry) : Nat := (L.map fun x => valLen x.val).sum
theorem filter_born_none (L : List MapEntry) (b : Nat) (h : b ∉ L.map (·.born)) : L.filter (fun x => x.born != b) = L := by
  rw [List.filter_eq_self]
  intro x hx
  have : x.born ≠ b := fun he => h (List.mem_map.2 ⟨x, hx, he⟩)
  simpa using this
theorem sum_step {L : List MapEntry} (hn : (L.map (·.born)).Nodup) {e : MapEntry} (he : e ∈ L) : sumLen L = valLen e.val + sumLen (L.filter fun x => x.born != e.born) ∧ (L.filter fun x => x.born != e.born).length + 1 = L.length := by
  induction L with
  | nil => cases he
  | cons x L ih =>
    simp only [List.map_cons, List.nodup_cons] at hn
    rcases List.mem_cons.1 he with rfl | he
    · rw [List.filter_cons_of_neg (by simp), filter_born_none L _ hn.1]
      exact ⟨by simp [sumLen], by simp⟩
    · obtain ⟨h1, h2⟩ := ih hn.2 he
      have hne : x.born ≠ e.born := fun h => hn.1 (by rw [h]; exact List.mem_map.2 ⟨e, he, rfl⟩)
      rw [List.filter_cons_of_pos (by simpa using hne)]
      refine ⟨?_, by simp; omega⟩
      simp only [sumLen, List.map_cons, List.sum_cons] at h1 ⊢
      omega
def leftL (es : Array MapEntry) (seen : Array Nat) : List MapEntry := es.toList.filter fun x => !seen.contains x.born
theorem left_push (es : Array MapEntry) (seen : Array Nat) (b : Nat) : leftL es (seen.push b) = (leftL es seen).filter fun x => x.born != b := by
  unfold leftL
  rw [List.filter_filter]
  apply List.filter_congr
  intro x _
  simp only [Array.contains_push, Bool.not_or]
  rw [Bool.and_comm]
  rfl
end Go.Proofs.Ytgdcdcacccaanaa
