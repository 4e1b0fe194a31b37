/- bytes.Equal: whether two texts are the same. -/
import Derived.Test.YtdcmanihihlaiaaOpen25
import Derived.Laws.BytesString
import Derived.WideShapes
namespace Go.Proofs.Ytdcmanihihlaiaa
open Go.RowKit HP
set_option linter.unusedSimpArgs false
set_option linter.unusedVariables false

def strOf (l : List Int) : ByteArray := l.foldl (fun r n => r.push (UInt8.ofNat n.toNat)) ByteArray.empty
theorem strOf_go (l : List Int) : ∀ b : ByteArray, (l.foldl (fun r n => r.push (UInt8.ofNat n.toNat)) b).data.toList = b.data.toList ++ l.map fun n => UInt8.ofNat n.toNat := by
  induction l with
  | nil => intro b; simp
  | cons n l ih => intro b; rw [List.foldl_cons, ih]; simp [ByteArray.push]
theorem strOf_data (l : List Int) : (strOf l).data.toList = l.map fun n => UInt8.ofNat n.toNat := by
  rw [strOf, strOf_go]; rfl
theorem strOf_inj {a b : List Int} (ha : Bytes a) (hb : Bytes b) (h : strOf a = strOf b) : a = b := by
  have h1 : (a.map fun n => UInt8.ofNat n.toNat) = b.map fun n => UInt8.ofNat n.toNat := by rw [← strOf_data, ← strOf_data, h]
  have key : ∀ l : List Int, Bytes l → ((l.map fun n => UInt8.ofNat n.toNat).map fun u => (u.toNat : Int)) = l := by
    intro l hl
    rw [List.map_map]
    conv => rhs; rw [← List.map_id l]
    apply List.map_congr_left
    intro x hx
    have := hl x hx
    simp only [Function.comp_apply, id, UInt8.toNat_ofNat']
    omega
  rw [← key a ha, ← key b hb, h1]
theorem run_string {P : Program} {w : World} {src dst e : TypeId} {A : Option Addr} {l : List Int} {c : Nat} (hs : P.underlying src = some (.slice e)) (he : P.underlying e = some (.int .u8)) (hd : P.underlying dst = some .string)
    (h : Cells w A (u8s l)) : (convert src dst (.slice A l.length c)).run P w = .ok (.string (strOf l)) w := by
  rw [run_convert_bytes_string w src dst e A l.length c hs he hd]
  cases A with
  | none =>
    cases l with
    | nil => simp [Conv.bytesToString, strOf, Sem.run_pure]
    | cons x l =>
      obtain ⟨a, ha, _⟩ := h.at_ 0 (by simp [u8s])
      cases ha
  | some a =>
    refine run_bytesToString w a l.length c l ?_
    have := run_loadCells_list (P := P) (w := w) a (u8s l) (fun j u hj => h.some_ j u hj)
    simpa [u8s] using this

set_option maxHeartbeats 1000000 in
set_option maxRecDepth 100000 in
theorem bytesEqual_ok (A0 A1 : Option Addr) (l0 l1 : List Int) (c0 c1 : Nat) (w : World) (h0 : Cells w A0 (u8s l0)) (h1 : Cells w A1 (u8s l1)) (b0 : Bytes l0) (b1 : Bytes l1) :
    Calls Try.prog 36 #[.slice A0 l0.length c0, .slice A1 l1.length c1] w fun e w' => e = .returned (.bool (decide (l0 = l1))) ∧ w' = w := by
  have e0 := run_string (P := Try.prog) (c := c0) Try.underlying22 Try.underlying5 Try.underlying9 h0
  have e1 := run_string (P := Try.prog) (c := c1) Try.underlying22 Try.underlying5 Try.underlying9 h1
  have hd : ((strOf l0).toList == (strOf l1).toList) = decide (l0 = l1) := by
    rw [ByteArray.toList_eq, ByteArray.toList_eq]
    by_cases h : l0 = l1
    · simp [h]
    · have : ¬ (strOf l0).data.toList = (strOf l1).data.toList := fun h2 => h (strOf_inj b0 b1 (Go.WideShapes.bytes_inj h2))
      have h3 : ¬ (strOf l0).data = (strOf l1).data := fun h2 => this (by rw [h2])
      simp [h, h3]
  have HD := Aside.mk hd
  clear hd h0 h1
  go_enter Try.func36, Try.ntmps36
  go_wp2
  go_ret
  exact ⟨ret_bool HD.out, rfl⟩
end Go.Proofs.Ytdcmanihihlaiaa
