/- (*Disk).Free: the walk. -/
import Derived.Test.YtgdcdcacccaanaaDiskG
namespace Go.Proofs.Ytgdcdcacccaanaa
open Go.RowKit HP
set_option linter.unusedSimpArgs false
set_option linter.unusedVariables false

theorem val_slice {E : Env} {q : HP} {w : World} {d : Nat} {room fuse : Int} {m : Nat} {es : Array MapEntry} {clock : Nat} {fs : List Fil} (hw : Sat E w (HP.dk d room fuse m es clock fs * q)) {f : Fil} (hf : f ∈ fs) : ∃ A c, f.val = .slice A f.cels.length c := by
  obtain ⟨j, hj⟩ := List.getElem?_of_mem hf
  have h1 : Sat E w (HP.all (fs.map HP.fil) * (HP.dsk d room fuse m * (HP.pt m (.map es clock) * q))) := hw.perm (by unfold HP.dk; ac_rfl)
  rw [all_take (l := fs.map HP.fil) (j := j) (p := HP.fil f) (by rw [List.getElem?_map, hj]; rfl)] at h1
  have h2 : Sat E w (HP.row 77 1 f.val f.cels.length f.ptrs * (HP.all (f.cels.map fun x => HP.cel x.1 x.2) * (HP.all ((fs.map HP.fil).eraseIdx j) * (HP.dsk d room fuse m * (HP.pt m (.map es clock) * q))))) := h1.perm (by unfold HP.fil; ac_rfl)
  obtain ⟨A, c, hv, -, -⟩ := h2.row_slice
  exact ⟨A, c, hv⟩
theorem run_range_map {P : Program} {t k e : TypeId} (ht : P.underlying t = some (.map k e)) {w : World} {m : Nat} {es : Array MapEntry} {clock : Nat} (hb : w.heap[m]? = some (.map es clock)) :
    (Instr.range t (.map (some m))).run P w = .ok (.pointer (some ⟨w.heap.size, 0, none⟩)) (w.alloc (.mapIter (some m) clock #[] clock)) := by
  simp [Instr.range, run_underlying ht, MapKept.run_getObj_map hb, Result.andThen]

set_option maxHeartbeats 1000000 in
set_option maxRecDepth 100000 in
theorem disk_free (E : Env) (q : HP) (d : Nat) (room fuse : Int) (m : Nat) (es : Array MapEntry) (clock : Nat) (fs : List Fil) (w : World) (hm : MapOf es clock fs) (hr : 0 ≤ room ∧ room ≤ 100000) (ht : total fs ≤ 1000000) (hw : Sat E w (HP.dk d room fuse m es clock fs * q)) :
    Calls Try.prog 34 #[.pointer (some ⟨d, 0, none⟩)] w fun e w' => e = .returned (.int .i64 (room - total fs)) ∧ Sat E w' (HP.dk d room fuse m es clock fs * q) := by
  have hst := sum_total hm hw
  go_enter Try.func34, Try.ntmps34
  go_wp2_with fail
  have h1 : Sat E w (HP.dsk d room fuse m * (HP.pt m (.map es clock) * (HP.all (fs.map HP.fil) * q))) := hw.perm (by unfold HP.dk; ac_rfl)
  refine (disk_none E _ d room fuse m w h1).mono ?_
  rintro e w1 ⟨rfl, rfl⟩
  have c0 := h1.cell 0
  have c1 := h1.cell 1
  simp only [List.getElem?_toArray, List.getElem?_cons_zero, List.getElem?_cons_succ] at c0 c1
  have hrg := run_range_map (P := Try.prog) (t := 68) Try.underlying68 h1.s2.get
  have HS0 := Aside.mk (hw.alloc (.mapIter (some m) clock #[] clock))
  have HM := Aside.mk (And.intro hm hst)
  have HV : Aside (∀ f ∈ fs, ∃ A c, f.val = .slice A f.cels.length c) := ⟨fun f hf => val_slice hw hf⟩
  clear hw h1 hm hst
  go_wp2_with fail
  have HRT : Aside (∀ f ∈ fs, ∃ A c, f.val = .slice A f.cels.length c) := HV
  generalize w1.heap.size = g at *
  generalize World.alloc _ _ = w0 at *
  go_loopw [3] (fun x3 wr => ∃ (n : Int) (seen : Array Nat) (c0 : Nat), x3 = .int .i64 n ∧ clock ≤ c0 ∧ n ≤ room ∧ Aside (n - sumLen (leftL es seen) = room - total fs) ∧ Aside (Sat E wr (HP.pt g (.mapIter (some m) clock seen c0) * (HP.dk d room fuse m es clock fs * q))))
    (fun _ wr => match wr.heap[g]? with | some (.mapIter _ _ seen _) => (leftL es seen).length | _ => 0)
  case atStart => exact ⟨room, #[], clock, rfl, Nat.le_refl _, Int.le_refl _, ⟨by rw [← HM.out.2, show leftL es #[] = es.toList from List.filter_eq_self.2 (fun x _ => by simp)]⟩, HS0⟩
  case round =>
    clear HS0 hrg c0 c1
    obtain ⟨n, seen, c0, rfl, hc0, hnr, HN, HS⟩ := hrel
    have hg := HS.out.get
    have hb : wr.heap[m]? = some (.map es clock) := by
      have h1 : Sat E wr (HP.pt m (.map es clock) * (HP.pt g (.mapIter (some m) clock seen c0) * (HP.dsk d room fuse m * (HP.all (fs.map HP.fil) * q)))) := HS.out.perm (by unfold HP.dk; ac_rfl)
      exact h1.get
    rcases run_next_at (P := Try.prog) wr 0 g m clock c0 seen es clock hg hb HM.out.1.2.2.2.1 hc0 with ⟨hz, hnext⟩ | ⟨e, he, w2, hw2, hnext⟩
    · have hl : leftL es seen = [] := by rw [← leftOf_eq]; exact List.eq_nil_of_length_eq_zero (by simpa using hz)
      have HT : Aside (n = room - total fs ∧ Sat E wr (HP.dk d room fuse m es clock fs * q)) := ⟨by
        have := HN.out
        rw [hl] at this
        simp only [sumLen, List.map_nil, List.sum_nil] at this
        exact ⟨by omega, HS.out.right⟩⟩
      clear HN HS hg hb hz hl
      go_wp2
      go_ret
      exact ⟨ret_int HT.out.1, HT.out.2⟩
    · have he' : e ∈ leftL es seen := by rw [← leftOf_eq]; exact he
      have hes : e ∈ es.toList := (List.mem_filter.1 he').1
      have S2 : Sat E w2 (HP.pt g (.mapIter (some m) clock seen c0) * (HP.dk d room fuse m es clock fs * q)) := by
        rcases hw2 with rfl | rfl
        · exact HS.out
        · exact HS.out.drew
      have S3 := Sat.setBlock S2 (.mapIter (some m) clock (seen.push e.born) clock)
      have hb3 : (ChangeMaps.setBlock w2 g (.mapIter (some m) clock (seen.push e.born) clock)).heap[m]? = some (.map es clock) := by
        have h1 : Sat E _ (HP.pt m (.map es clock) * (HP.pt g (.mapIter (some m) clock (seen.push e.born) clock) * (HP.dsk d room fuse m * (HP.all (fs.map HP.fil) * q)))) := S3.perm (by unfold HP.dk; ac_rfl)
        exact h1.get
      have hent := run_entry_at (P := Try.prog) _ g m clock seen es clock e S3.get hb3 hes HM.out.1.2.2.2.2
      obtain ⟨f, hf, hfe⟩ : ∃ f ∈ fs, f.val = e.val := by
        have hmem : (e.key, e.val) ∈ es.toList.map fun x => (x.key, x.val) := List.mem_map.2 ⟨e, hes, rfl⟩
        rw [HM.out.1.2.1] at hmem
        obtain ⟨f, hf, hfe⟩ := List.mem_map.1 hmem
        simp only [Prod.mk.injEq] at hfe
        exact ⟨f, hf, hfe.2⟩
      obtain ⟨A, c, hv⟩ := HV.out f hf
      have hval : e.val = .slice A f.cels.length c := by rw [← hfe, hv]
      have hnd : ((leftL es seen).map (·.born)).Nodup := HM.out.1.2.2.2.2.sublist ((List.filter_sublist).map _)
      obtain ⟨hs1, hs2⟩ := sum_step hnd he'
      rw [← left_push] at hs1 hs2
      rw [hval] at hs1 hnext hent
      have HN2 : Aside (n - f.cels.length - sumLen (leftL es (seen.push e.born)) = room - total fs) := ⟨by
        have := HN.out
        simp only [valLen] at hs1
        omega⟩
      have hnb : -10000000 ≤ n - f.cels.length ∧ n ≤ 10000000 := by
        have := HN.out
        simp only [valLen] at hs1
        omega
      have HS3 := Aside.mk S3
      have HME : Aside ((leftL es (seen.push e.born)).length < (leftL es seen).length) := ⟨by omega⟩
      have HG1 : Aside (wr.heap[g]? = some (.mapIter (some m) clock seen c0)) := ⟨hg⟩
      clear HN HS hg hb hb3 hs1 hs2 hnd S2 S3 hv hfe hval hes he' he hf
      go_wp2
      go_roundw
      case rel => exact ⟨n - f.cels.length, seen.push e.born, clock, rfl, Nat.le_refl _, by omega, HN2, HS3⟩
      case measure =>
        have h8 := HS3.out.get
        rw [h8, HG1.out]
        exact HME.out
end Go.Proofs.Ytgdcdcacccaanaa
