/- Maps whose keys are texts: what a lookup finds. -/
import Derived.Test.YtgdcdcacccaanaaRow
import Derived.StringKeys
import Derived.WideKeyElems
namespace Go.Proofs.Ytgdcdcacccaanaa
open Go.RowKit HP
set_option linter.unusedSimpArgs false
set_option linter.unusedVariables false

/-- The entries' keys are texts that are not too long. -/
def StrKeys (es : Array MapEntry) : Prop := ∀ x ∈ es.toList, ∃ s : ByteArray, x.key = .string s ∧ s.size ≤ maxLen
/-- The value at a text, if there is one. -/
def valAt (es : Array MapEntry) (s : ByteArray) : Option Value := (es.toList.find? fun x => match x.key with | .string t => decide (t = s) | _ => false).map (·.val)

theorem lookup_str {P : Program} {t k e : TypeId} {w : World} {b : Nat} {es : Array MapEntry} {clock : Nat} (hk : P.underlying k = some .string) (ht : P.underlying t = some (.map k e)) {z : Value} (hz : (zeroValue e).run P w = .ok z w)
    (hb : w.heap[b]? = some (.map es clock)) (hes : StrKeys es) (s : ByteArray) (hs : s.size ≤ maxLen) :
    ((Instr.lookup t (.map (some b)) (.string s) false).run P w = .ok z w ∧ (Instr.lookup t (.map (some b)) (.string s) true).run P w = .ok (.tuple #[z, .bool false]) w ∧ ∀ x ∈ es.toList, x.key ≠ .string s) ∨
    ∃ (j : Nat) (x : MapEntry), es.toList[j]? = some x ∧ x.key = .string s ∧ (Instr.lookup t (.map (some b)) (.string s) false).run P w = .ok x.val w ∧ (Instr.lookup t (.map (some b)) (.string s) true).run P w = .ok (.tuple #[x.val, .bool true]) w := by
  have K := WideMaps.string_law (P := P) (k := k) hk
  have hkey := WideMaps.keyOf_string_mk (P := P) (k := k) hk hs
  rcases K.find w hkey es.toList (fun x hx => by
    obtain ⟨t, ht, hl⟩ := hes x hx
    rw [ht]
    exact ⟨_, WideMaps.keyOf_string_mk hk hl⟩) with ⟨h1, h2⟩ | ⟨j, x, h1, h2, h3⟩
  · refine .inl ⟨?_, ?_, h2⟩
    · simp [Instr.lookup, run_underlying ht, MapKept.run_getObj_map hb, K.check w _ hkey, h1, hz, Result.andThen]
    · simp [Instr.lookup, run_underlying ht, MapKept.run_getObj_map hb, K.check w _ hkey, h1, hz, Result.andThen]
  · refine .inr ⟨j, x, h2, h3, ?_, ?_⟩
    · simp [Instr.lookup, run_underlying ht, MapKept.run_getObj_map hb, K.check w _ hkey, h1, Result.andThen]
    · simp [Instr.lookup, run_underlying ht, MapKept.run_getObj_map hb, K.check w _ hkey, h1, Result.andThen]
end Go.Proofs.Ytgdcdcacccaanaa
