/- (*Disk).at: an extent, or nothing. -/
import Derived.Test.YtgdcdcacccaanaaDiskF
namespace Go.Proofs.Ytgdcdcacccaanaa
open Go.RowKit HP
set_option linter.unusedSimpArgs false
set_option linter.unusedVariables false

def HP.dk (d : Nat) (room fuse : Int) (m : Nat) (es : Array MapEntry) (clock : Nat) (fs : List Fil) : HP := HP.dsk d room fuse m * (HP.pt m (.map es clock) * HP.all (fs.map HP.fil))

/-- What a lookup of a name finds, in the words of files. -/
theorem lookup_file {E : Env} {q : HP} {w : World} {d : Nat} {room fuse : Int} {m : Nat} {es : Array MapEntry} {clock : Nat} {fs : List Fil} (hm : MapOf es clock fs) (hw : Sat E w (HP.dk d room fuse m es clock fs * q)) (name : ByteArray) (hn : name.size ≤ maxLen) :
    (fs.find? (fun f => decide (f.name = name)) = none ∧ (Instr.lookup 68 (.map (some m)) (.string name) false).run Try.prog w = .ok (.slice none 0 0) w ∧ (Instr.lookup 68 (.map (some m)) (.string name) true).run Try.prog w = .ok (.tuple #[.slice none 0 0, .bool false]) w) ∨
    ∃ (j : Nat) (f : Fil), fs[j]? = some f ∧ f.name = name ∧ fs.find? (fun f => decide (f.name = name)) = some f ∧ (Instr.lookup 68 (.map (some m)) (.string name) false).run Try.prog w = .ok f.val w ∧ (Instr.lookup 68 (.map (some m)) (.string name) true).run Try.prog w = .ok (.tuple #[f.val, .bool true]) w := by
  have hb : w.heap[m]? = some (.map es clock) := by
    have h1 : Sat E w (HP.pt m (.map es clock) * (HP.dsk d room fuse m * (HP.all (fs.map HP.fil) * q))) := hw.perm (by unfold HP.dk; ac_rfl)
    exact h1.get
  rcases lookup_str (P := Try.prog) (t := 68) Try.underlying9 Try.underlying68 (zero_cells w) hb hm.1 name hn with ⟨h1, h2, h3⟩ | ⟨j, x, h1, h2, h3, h4⟩
  · refine .inl ⟨?_, h1, h2⟩
    rw [List.find?_eq_none]
    intro f hf he
    simp only [decide_eq_true_eq] at he
    have hmem : (Value.string f.name, f.val) ∈ fs.map (fun f => (Value.string f.name, f.val)) := List.mem_map.2 ⟨f, hf, rfl⟩
    rw [← hm.2.1] at hmem
    obtain ⟨x, hx, hxe⟩ := List.mem_map.1 hmem
    simp only [Prod.mk.injEq] at hxe
    exact h3 x hx (by rw [hxe.1, he])
  · have hj : (es.toList.map (fun x => (x.key, x.val)))[j]? = some (x.key, x.val) := by rw [List.getElem?_map, h1]; rfl
    rw [hm.2.1, List.getElem?_map] at hj
    obtain ⟨f, hf, hfe⟩ := Option.map_eq_some_iff.1 hj
    simp only [Prod.mk.injEq] at hfe
    have hname : f.name = name := by
      have := hfe.1.trans h2
      injection this
    refine .inr ⟨j, f, hf, hname, ?_, by rw [hfe.2]; exact h3, by rw [hfe.2]; exact h4⟩
    rw [← hname]
    exact find_at hm.2.2.1 hf

set_option maxHeartbeats 1000000 in
set_option maxRecDepth 100000 in
theorem disk_at (E : Env) (q : HP) (d : Nat) (room fuse : Int) (m : Nat) (es : Array MapEntry) (clock : Nat) (fs : List Fil) (name : ByteArray) (i : Int) (w : World) (hn : name.size ≤ maxLen) (hm : MapOf es clock fs) (hw : Sat E w (HP.dk d room fuse m es clock fs * q)) :
    Calls Try.prog 40 #[.pointer (some ⟨d, 0, none⟩), .string name, .int .i64 i] w fun e w' => e = .returned (.pointer (cellAt fs name i)) ∧ w' = w := by
  have h1 : Sat E w (HP.dsk d room fuse m * (HP.pt m (.map es clock) * (HP.all (fs.map HP.fil) * q))) := hw.perm (by unfold HP.dk; ac_rfl)
  have c1 := h1.cell 1
  simp only [List.getElem?_toArray, List.getElem?_cons_zero, List.getElem?_cons_succ] at c1
  have HC : Aside (cellAt fs name i = match fs.find? (fun f => decide (f.name = name)) with
    | none => none
    | some f => if 0 ≤ i ∧ i < f.cels.length then (f.cels[i.toNat]?).map fun x => ⟨x.1, 0, none⟩ else none) := ⟨rfl⟩
  go_enter Try.func40, Try.ntmps40
  rcases lookup_file hm hw name hn with ⟨hf, hl, -⟩ | ⟨j, f, hj, -, hf, hl, -⟩
  · rw [hf] at HC
    clear hw h1 hf hm
    by_cases hi : 0 ≤ i
    · go_wp2
      go_ret
      rw [HC.out]
      exact ⟨rfl, rfl⟩
    · go_wp2
      go_ret
      rw [HC.out]
      exact ⟨rfl, rfl⟩
  · rw [hf] at HC
    dsimp only at HC
    have h2 : Sat E w (HP.row 77 1 f.val f.cels.length f.ptrs * (HP.all (f.cels.map fun x => HP.cel x.1 x.2) * (HP.all ((fs.map HP.fil).eraseIdx j) * (HP.dsk d room fuse m * (HP.pt m (.map es clock) * q))))) := by
      have ht := all_take (l := fs.map HP.fil) (j := j) (p := HP.fil f) (by rw [List.getElem?_map, hj]; rfl)
      rw [ht] at h1
      exact h1.perm (by unfold HP.fil; ac_rfl)
    obtain ⟨A, c, hv, -, -⟩ := h2.row_slice
    rw [hv] at h2 hl
    have hc := h2.row_cells
    clear hw h1 hf hm hv hj
    by_cases hi : 0 ≤ i
    · obtain ⟨k, rfl⟩ := Int.eq_ofNat_of_zero_le hi
      by_cases hlt : k < f.cels.length
      · obtain ⟨a, ha, hcx⟩ := hc.at_ k (by simp [Fil.ptrs, hlt])
        obtain ⟨g, o, rfl⟩ : ∃ g o, a = ⟨g, o, none⟩ := slice_addr hc ha (k := k) (by simp [Fil.ptrs, hlt])
        subst ha
        rw [addr_add] at hcx
        simp only [Fil.ptrs, List.getElem_map] at hcx
        have HC2 : Aside (cellAt fs name (k : Int) = some ⟨f.cels[k].1, 0, none⟩) := ⟨by
          rw [HC.out, if_pos ⟨by omega, by omega⟩, Int.toNat_natCast, List.getElem?_eq_getElem hlt]; rfl⟩
        generalize f.cels[k].1 = bk at *
        clear HC h2 hc
        have hk1 : (k : Int) < (f.cels.length : Int) := by omega
        go_wp2
        go_ret
        rw [HC2.out]
        exact ⟨rfl, rfl⟩
      · have HC2 : Aside (cellAt fs name (k : Int) = none) := ⟨by rw [HC.out, if_neg (by omega)]⟩
        clear HC h2 hc
        go_wp2
        go_ret
        rw [HC2.out]
        exact ⟨rfl, rfl⟩
    · have HC2 : Aside (cellAt fs name i = none) := ⟨by rw [HC.out, if_neg (by omega)]⟩
      clear HC h2 hc
      go_wp2
      go_ret
      rw [HC2.out]
      exact ⟨rfl, rfl⟩
end Go.Proofs.Ytgdcdcacccaanaa
