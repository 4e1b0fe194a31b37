/- Texts of one claim, one behind the other: DiskRo, FileQ, Rc1P, Rc1, Ref1, Rc4, Rc4O, PairD, ChunkA, ChunkB, PairS, PairG, ExtP, FreshP, HeldP, RdO, MendP, Int4. -/
import Derived.Test.YtcjcccbjgooooaaGreatDoorLz5
import Derived.Laws.Bits64
import Derived.Laws.BytesString
import Derived.Shelf.Abstract
import Derived.Shelf.RegionOpen
import Derived.OwnWalkIn
import Derived.TacticsInMore
import Derived.LoopNIn
import Derived.LoopIn
import Derived.Outline
import Derived.IntWalk
/- (*Disk).Rot. -/
namespace Go.Proofs.YtcjcccbjgooooaaGreatDoor
open Go.RowKit HP
set_option linter.unusedSimpArgs false
set_option linter.unusedVariables false

/-- Two bytes xored. -/
def xorB (a b : Int) : Int := bits .xor .u8 a b
def xorAt (l : List Int) (k : Nat) (m : Int) : List Int := l.set k (xorB (l.getD k 0) m)
theorem xorAt_length (l : List Int) (k : Nat) (m : Int) : (xorAt l k m).length = l.length := List.length_set
def Cel.rotd (c : Cel) (k : Nat) (m : Int) : Cel := if c.waits then { c with durable := xorAt c.durable k m } else { c with read := xorAt c.read k m, durable := xorAt c.durable k m }
theorem Cel.rotd_fine {c : Cel} (h : c.Fine) (k : Nat) (m : Int) : (c.rotd k m).Fine := by
  unfold Cel.rotd
  split
  · exact ⟨h.1, (xorAt_length _ _ _).trans h.2.1, h.2.2.1, h.2.2.2⟩
  · exact ⟨(xorAt_length _ _ _).trans h.1, (xorAt_length _ _ _).trans h.2.1, h.2.2.1, h.2.2.2⟩
def Dk.rot (A : Dk) (s : ByteArray) (i at_ m : Int) : Int × Dk :=
  match A.cel s i with
  | none => (30, A)
  | some c => if at_ < 0 ∨ 128 ≤ at_ then (1, A) else (0, A.set s ((A.at s).set i.toNat (c.rotd at_.toNat m)))
theorem celAt_some {fs : List Fil} {s : ByteArray} {i : Int} {x : Nat × Cel} (h : celAt fs s i = some x) : ∃ (j : Nat) (f : Fil) (k : Nat), fs[j]? = some f ∧ f.name = s ∧ i = (k : Int) ∧ f.cels[k]? = some x := by
  unfold celAt at h
  cases hf : fs.find? (fun f => decide (f.name = s)) with
  | none => rw [hf] at h; cases h
  | some f =>
    rw [hf] at h
    dsimp only at h
    split at h
    · rename_i hi
      obtain ⟨j, hj⟩ := List.getElem?_of_mem (List.mem_of_find?_eq_some hf)
      have hn := List.find?_some hf
      simp only [decide_eq_true_eq] at hn
      exact ⟨j, f, i.toNat, hj, hn, by omega, h⟩
    · cases h
section
variable {E : Env} {q : HP} {w : World} {b : Nat} {c : Cel}
theorem cel_byte_read (h : Sat E w (HP.cel b c * q)) (hf : c.Fine) {k : Nat} (hk : k < 128) : w.cell? ⟨b, k, none⟩ = some (.int .u8 (c.read.getD k 0)) := by
  have := (cel_read h hf).some_ k (.int .u8 (c.read.getD k 0)) (by
    unfold b8s
    rw [List.getElem?_map, List.getElem?_eq_getElem (by rw [hf.1]; exact hk)]
    simp [List.getD, hf.1, hk])
  rw [addr_add, Nat.zero_add] at this
  exact this
theorem cel_byte_durable (h : Sat E w (HP.cel b c * q)) (hf : c.Fine) {k : Nat} (hk : k < 128) : w.cell? ⟨b, 128 + k, none⟩ = some (.int .u8 (c.durable.getD k 0)) := by
  have := (cel_durable h hf).some_ k (.int .u8 (c.durable.getD k 0)) (by
    unfold b8s
    rw [List.getElem?_map, List.getElem?_eq_getElem (by rw [hf.2.1]; exact hk)]
    simp [List.getD, hf.2.1, hk])
  rw [addr_add] at this
  exact this
theorem b8s_set (l : List Int) (k : Nat) (x : Int) : (b8s l).set k (.int .u8 x) = b8s (l.set k x) := by unfold b8s; rw [List.map_set]
theorem cel_set_read (h : Sat E w (HP.cel b c * q)) (hf : c.Fine) {k : Nat} (hk : k < 128) (x : Int) : Sat E (w.setCell ⟨b, k, none⟩ (.int .u8 x)) (HP.cel b { c with read := c.read.set k x } * q) := by
  have h1 : Sat E w (HP.pt b (.cells c.vals.toArray 140) * q) := h
  have h2 := h1.set (i := k) (.int .u8 x)
  have e : c.vals.toArray.setIfInBounds k (.int .u8 x) = ({ c with read := c.read.set k x } : Cel).vals.toArray := by
    rw [List.setIfInBounds_toArray]
    congr 1
    unfold Cel.vals
    rw [List.set_append_left _ _ (by rw [b8s_length, hf.1]; exact hk), b8s_set]
  rw [e] at h2
  exact h2
theorem cel_set_durable (h : Sat E w (HP.cel b c * q)) (hf : c.Fine) {k : Nat} (hk : k < 128) (x : Int) : Sat E (w.setCell ⟨b, 128 + k, none⟩ (.int .u8 x)) (HP.cel b { c with durable := c.durable.set k x } * q) := by
  have h1 : Sat E w (HP.pt b (.cells c.vals.toArray 140) * q) := h
  have h2 := h1.set (i := 128 + k) (.int .u8 x)
  have e : c.vals.toArray.setIfInBounds (128 + k) (.int .u8 x) = ({ c with durable := c.durable.set k x } : Cel).vals.toArray := by
    rw [List.setIfInBounds_toArray]
    congr 1
    unfold Cel.vals
    rw [List.set_append_right _ _ (by rw [b8s_length, hf.1]; omega), b8s_length, hf.1, Nat.add_sub_cancel_left, List.set_append_left _ _ (by rw [b8s_length, hf.2.1]; exact hk), b8s_set]
  rw [e] at h2
  exact h2
end
set_option maxHeartbeats 2000000 in
set_option maxRecDepth 100000 in
theorem disk_rot (E : Env) (q : HP) (d : Nat) (A : Dk) (name : ByteArray) (i at_ mask : Int) (w : World) (hn : name.size ≤ maxLen) (hw : Sat E w (HP.disk d A * q)) :
    Calls Tryz.prog 77 #[.pointer (some ⟨d, 0, none⟩), .string name, .int .i64 i, .int .i64 at_, .int .u8 mask] w fun e w' => e = .returned (.int .i64 (A.rot name i at_ mask).1) ∧ Sat E w' (HP.disk d (A.rot name i at_ mask).2 * q) := by
  obtain ⟨m, es, clock, fs, hv, hd⟩ := hw.disk_open
  have HF : Aside (A.rot name i at_ mask = match A.cel name i with
    | none => (30, A)
    | some c => if at_ < 0 ∨ 128 ≤ at_ then (1, A) else (0, A.set name ((A.at name).set i.toNat (c.rotd at_.toNat mask)))) := ⟨rfl⟩
  rw [← celAt_view hv] at HF
  clear hw
  go_enter Tryz.func77, Tryz.ntmps77
  go_wp2_with fail
  refine (disk_none E _ d _ _ m w (dk_parts hd)).mono ?_
  rintro e w1 ⟨rfl, rfl⟩
  go_wp2_with fail
  refine (disk_at E q d _ _ m es clock fs name i _ hn hv.map hd).mono ?_
  rintro e w2 ⟨rfl, rfl⟩
  rw [cellAt_eq]
  cases hx : celAt fs name i with
  | none =>
    rw [hx] at HF
    have HT : Aside (A.rot name i at_ mask = (30, A) ∧ Sat E w2 (HP.disk d A * q)) := ⟨HF.out, Sat.disk_close hv hd⟩
    clear HF hx hd hv
    go_wp2
    go_ret
    rw [HT.out.1]
    exact ⟨rfl, HT.out.2⟩
  | some x =>
    rw [hx] at HF
    obtain ⟨j, f, k, hj, hname, hik, hk⟩ := celAt_some hx
    have hxf : x.2.Fine := hv.cel_fine (List.mem_of_getElem? hj) (List.mem_of_getElem? hk)
    obtain ⟨r, hr1, -, hr3⟩ := take_cel hv hd hj hk
    have hat : A.at name = f.cs := by
      unfold Dk.at
      rw [← hv.same, ← hname, lkF_at hv.nodup hj]; rfl
    have HD : Aside (Sat E w2 (HP.disk d A * q)) := ⟨Sat.disk_close hv hd⟩
    have HR : Aside (∀ w' c', c'.Fine → Sat E w' (HP.cel x.1 c' * r) → Sat E w' (HP.disk d (A.set name ((A.at name).set i.toNat c')) * q)) := ⟨fun w' c' hc h => by
      have := hr3 w' c' hc h
      rw [hat, hik, Int.toNat_natCast, ← hname]
      exact this⟩
    obtain ⟨bk, c⟩ := x
    dsimp only [Option.map_some] at *
    clear hx hd hv hr3 hj hk hname hik hat
    by_cases h0 : at_ < 0
    · have HT : Aside (A.rot name i at_ mask = (1, A)) := ⟨by rw [HF.out]; simp [h0]⟩
      clear HF hr1 hxf HR
      go_wp2
      go_ret
      rw [HT.out]
      exact ⟨rfl, HD.out⟩
    · by_cases h8 : 128 ≤ at_
      · have HT : Aside (A.rot name i at_ mask = (1, A)) := ⟨by rw [HF.out]; simp [h8]⟩
        clear HF hr1 hxf HR
        go_wp2
        go_ret
        rw [HT.out]
        exact ⟨rfl, HD.out⟩
      · obtain ⟨n, rfl⟩ := Int.eq_ofNat_of_zero_le (Int.not_lt.1 h0)
        have hn8 : n < 128 := by omega
        have HT : Aside (A.rot name i n mask = (0, A.set name ((A.at name).set i.toNat (c.rotd n mask)))) := ⟨by rw [HF.out]; simp only [if_neg (show ¬ ((n : Int) < 0 ∨ 128 ≤ (n : Int)) by omega), Int.toNat_natCast]⟩
        have cw := cel_waits hr1 hxf
        have hn1 : (n : Int) < 128 := by omega
        have hn0 : (0 : Int) ≤ (n : Int) := by omega
        cases hcw : c.waits with
        | true =>
          rw [hcw] at cw
          have g2 := cel_byte_durable hr1 hxf hn8
          have f2 := cel_thaw hr1 (128 + n)
          have h9 := cel_set_durable (hr1.drew) hxf hn8 (xorB (c.durable.getD n 0) mask)
          have HH := Aside.mk (HR.out _ _ (Cel.rotd_fine hxf n mask) (by
            have e : c.rotd n mask = { c with durable := c.durable.set n (xorB (c.durable.getD n 0) mask) } := by unfold Cel.rotd xorAt; rw [if_pos hcw]
            rw [e]; exact h9))
          clear HF HR HD hr1 hxf hcw h9
          generalize c.durable.getD n 0 = y at *
          unfold xorB at HH
          go_wp2
          refine region_R [11] [] (fun _ => True) #[false, false, false, false, false, false, false, false, false, false, false, false] (by kernel_rfl) rfl rfl ?_
          refine wpR_rd 0 #[true, false, false, false, false, false, false, false, false, false, false, false] rfl onlyN_noPanic (by kernel_rfl) (fun K hK => ?_); (go_simp; try go_bits); refine hK _ ?_; clear hK K
          refine wpR_rd 1 #[true, true, false, false, false, false, false, false, false, false, false, false] rfl onlyN_noPanic (by kernel_rfl) (fun K hK => ?_); (go_simp; try go_bits); refine hK _ ?_; clear hK K
          refine wpR_rd 2 #[true, true, true, false, false, false, false, false, false, false, false, false] rfl onlyN_noPanic (by kernel_rfl) (fun K hK => ?_); (go_simp; try go_bits); refine hK _ ?_; clear hK K
          refine wpR_rd 3 #[true, true, true, true, false, false, false, false, false, false, false, false] rfl onlyN_noPanic (by kernel_rfl) (fun K hK => ?_); (go_simp; try go_bits); refine hK _ ?_; clear hK K
          refine wpR_rd 4 #[true, true, true, true, true, false, false, false, false, false, false, false] rfl onlyN_noPanic (by kernel_rfl) (fun K hK => ?_); (go_simp; try go_bits); refine hK _ ?_; clear hK K
          refine wpR_rd 5 #[true, true, true, true, true, true, false, false, false, false, false, false] rfl onlyN_noPanic (by kernel_rfl) (fun K hK => ?_); (go_simp; try go_bits); refine hK _ ?_; clear hK K
          refine wpR_rd 6 #[true, true, true, true, true, true, true, false, false, false, false, false] rfl onlyN_noPanic (by kernel_rfl) (fun K hK => ?_); (go_simp; try go_bits); refine hK _ ?_; clear hK K
          refine wpR_rd 7 #[true, true, true, true, true, true, true, true, false, false, false, false] rfl onlyN_noPanic (by kernel_rfl) (fun K hK => ?_); (go_simp; try go_bits); refine hK _ ?_; clear hK K
          refine wpR_rd 8 #[true, true, true, true, true, true, true, true, true, false, false, false] rfl onlyN_noPanic (by kernel_rfl) (fun K hK => ?_); (go_simp; try go_bits); refine hK _ ?_; clear hK K
          refine wpR_rd 9 #[true, true, true, true, true, true, true, true, true, true, false, false] rfl onlyN_noPanic (by kernel_rfl) (fun K hK => ?_); (go_simp; try go_bits); refine hK _ ?_; clear hK K
          refine wpR_rd 10 #[true, true, true, true, true, true, true, true, true, true, true, false] rfl onlyN_noPanic (by kernel_rfl) (fun K hK => ?_); (go_simp; try go_bits); refine hK _ ?_; clear hK K
          refine wpR_eff #[true, true, true, true, true, true, true, true, true, true, true, true] (i := 11) rfl (by kernel_rfl) (fun K hK => ?_)
          go_simp; refine hK _ _ ?_; clear hK K
          refine wpR_done (by kernel_rfl) ?_ _
          simp only [OnlyN]
          go_wp2
          go_ret
          rw [HT.out]
          exact ⟨rfl, HH.out⟩
        | false =>
          rw [hcw] at cw
          have g2 := cel_byte_read hr1 hxf hn8
          have f2 := cel_thaw hr1 n
          have h9 := (cel_set_read hr1 hxf hn8 (xorB (c.read.getD n 0) mask)).drew
          have hxf1 : ({ c with read := c.read.set n (xorB (c.read.getD n 0) mask) } : Cel).Fine := ⟨List.length_set.trans hxf.1, hxf.2.1, hxf.2.2.1, hxf.2.2.2⟩
          have HX := Aside.mk (And.intro h9 hxf1)
          have HR2 : Aside (∀ w', Sat E w' (HP.cel bk { c with read := c.read.set n (xorB (c.read.getD n 0) mask), durable := c.durable.set n (xorB (c.durable.getD n 0) mask) } * r) → Sat E w' (HP.disk d (A.set name ((A.at name).set i.toNat (c.rotd n mask))) * q)) := ⟨fun w' h => HR.out w' _ (Cel.rotd_fine hxf n mask) (by
            have e : c.rotd n mask = { c with read := c.read.set n (xorB (c.read.getD n 0) mask), durable := c.durable.set n (xorB (c.durable.getD n 0) mask) } := by unfold Cel.rotd xorAt; rw [if_neg (by rw [hcw]; decide)]
            rw [e]; exact h)⟩
          clear HF HR HD hr1 hxf hcw h9 hxf1
          obtain ⟨y, hy⟩ : ∃ y, y = c.read.getD n 0 := ⟨_, rfl⟩
          simp only [← hy] at g2 HX HR2
          clear hy
          unfold xorB at HX
          go_wp2
          refine region_R [11] [] (fun _ => True) #[false, false, false, false, false, false, false, false, false, false, false, false] (by kernel_rfl) rfl rfl ?_
          refine wpR_rd 0 #[true, false, false, false, false, false, false, false, false, false, false, false] rfl onlyN_noPanic (by kernel_rfl) (fun K hK => ?_); (go_simp; try go_bits); refine hK _ ?_; clear hK K
          refine wpR_rd 1 #[true, true, false, false, false, false, false, false, false, false, false, false] rfl onlyN_noPanic (by kernel_rfl) (fun K hK => ?_); (go_simp; try go_bits); refine hK _ ?_; clear hK K
          refine wpR_rd 2 #[true, true, true, false, false, false, false, false, false, false, false, false] rfl onlyN_noPanic (by kernel_rfl) (fun K hK => ?_); (go_simp; try go_bits); refine hK _ ?_; clear hK K
          refine wpR_rd 3 #[true, true, true, true, false, false, false, false, false, false, false, false] rfl onlyN_noPanic (by kernel_rfl) (fun K hK => ?_); (go_simp; try go_bits); refine hK _ ?_; clear hK K
          refine wpR_rd 4 #[true, true, true, true, true, false, false, false, false, false, false, false] rfl onlyN_noPanic (by kernel_rfl) (fun K hK => ?_); (go_simp; try go_bits); refine hK _ ?_; clear hK K
          refine wpR_rd 5 #[true, true, true, true, true, true, false, false, false, false, false, false] rfl onlyN_noPanic (by kernel_rfl) (fun K hK => ?_); (go_simp; try go_bits); refine hK _ ?_; clear hK K
          refine wpR_rd 6 #[true, true, true, true, true, true, true, false, false, false, false, false] rfl onlyN_noPanic (by kernel_rfl) (fun K hK => ?_); (go_simp; try go_bits); refine hK _ ?_; clear hK K
          refine wpR_rd 7 #[true, true, true, true, true, true, true, true, false, false, false, false] rfl onlyN_noPanic (by kernel_rfl) (fun K hK => ?_); (go_simp; try go_bits); refine hK _ ?_; clear hK K
          refine wpR_rd 8 #[true, true, true, true, true, true, true, true, true, false, false, false] rfl onlyN_noPanic (by kernel_rfl) (fun K hK => ?_); (go_simp; try go_bits); refine hK _ ?_; clear hK K
          refine wpR_rd 9 #[true, true, true, true, true, true, true, true, true, true, false, false] rfl onlyN_noPanic (by kernel_rfl) (fun K hK => ?_); (go_simp; try go_bits); refine hK _ ?_; clear hK K
          refine wpR_rd 10 #[true, true, true, true, true, true, true, true, true, true, true, false] rfl onlyN_noPanic (by kernel_rfl) (fun K hK => ?_); (go_simp; try go_bits); refine hK _ ?_; clear hK K
          refine wpR_eff #[true, true, true, true, true, true, true, true, true, true, true, true] (i := 11) rfl (by kernel_rfl) (fun K hK => ?_)
          go_simp; refine hK _ _ ?_; clear hK K
          refine wpR_done (by kernel_rfl) ?_ _
          simp only [OnlyN]
          obtain ⟨h9, hxf1⟩ := HX.out
          obtain ⟨w5, hw5⟩ : ∃ w5, w5 = (w2.setCell ⟨bk, n, none⟩ (.int .u8 (bits .xor .u8 y mask))).drew := ⟨_, rfl⟩
          rw [← hw5] at h9 ⊢
          clear hw5 HX cw g2 f2 
          have g2 := cel_byte_durable h9 hxf1 hn8
          have f2 := cel_thaw h9 (128 + n)
          have h10 := cel_set_durable (h9.drew) hxf1 hn8 (xorB (c.durable.getD n 0) mask)
          have HH := Aside.mk (HR2.out _ h10)
          clear HR2 h9 hxf1 h10
          dsimp only at g2
          generalize c.durable.getD n 0 = y at *
          unfold xorB at HH
          go_wp2
          refine region_R [11] [] (fun _ => True) #[false, false, false, false, false, false, false, false, false, false, false, false] (by kernel_rfl) rfl rfl ?_
          refine wpR_rd 0 #[true, false, false, false, false, false, false, false, false, false, false, false] rfl onlyN_noPanic (by kernel_rfl) (fun K hK => ?_); (go_simp; try go_bits); refine hK _ ?_; clear hK K
          refine wpR_rd 1 #[true, true, false, false, false, false, false, false, false, false, false, false] rfl onlyN_noPanic (by kernel_rfl) (fun K hK => ?_); (go_simp; try go_bits); refine hK _ ?_; clear hK K
          refine wpR_rd 2 #[true, true, true, false, false, false, false, false, false, false, false, false] rfl onlyN_noPanic (by kernel_rfl) (fun K hK => ?_); (go_simp; try go_bits); refine hK _ ?_; clear hK K
          refine wpR_rd 3 #[true, true, true, true, false, false, false, false, false, false, false, false] rfl onlyN_noPanic (by kernel_rfl) (fun K hK => ?_); (go_simp; try go_bits); refine hK _ ?_; clear hK K
          refine wpR_rd 4 #[true, true, true, true, true, false, false, false, false, false, false, false] rfl onlyN_noPanic (by kernel_rfl) (fun K hK => ?_); (go_simp; try go_bits); refine hK _ ?_; clear hK K
          refine wpR_rd 5 #[true, true, true, true, true, true, false, false, false, false, false, false] rfl onlyN_noPanic (by kernel_rfl) (fun K hK => ?_); (go_simp; try go_bits); refine hK _ ?_; clear hK K
          refine wpR_rd 6 #[true, true, true, true, true, true, true, false, false, false, false, false] rfl onlyN_noPanic (by kernel_rfl) (fun K hK => ?_); (go_simp; try go_bits); refine hK _ ?_; clear hK K
          refine wpR_rd 7 #[true, true, true, true, true, true, true, true, false, false, false, false] rfl onlyN_noPanic (by kernel_rfl) (fun K hK => ?_); (go_simp; try go_bits); refine hK _ ?_; clear hK K
          refine wpR_rd 8 #[true, true, true, true, true, true, true, true, true, false, false, false] rfl onlyN_noPanic (by kernel_rfl) (fun K hK => ?_); (go_simp; try go_bits); refine hK _ ?_; clear hK K
          refine wpR_rd 9 #[true, true, true, true, true, true, true, true, true, true, false, false] rfl onlyN_noPanic (by kernel_rfl) (fun K hK => ?_); (go_simp; try go_bits); refine hK _ ?_; clear hK K
          refine wpR_rd 10 #[true, true, true, true, true, true, true, true, true, true, true, false] rfl onlyN_noPanic (by kernel_rfl) (fun K hK => ?_); (go_simp; try go_bits); refine hK _ ?_; clear hK K
          refine wpR_eff #[true, true, true, true, true, true, true, true, true, true, true, true] (i := 11) rfl (by kernel_rfl) (fun K hK => ?_)
          go_simp; refine hK _ _ ?_; clear hK K
          refine wpR_done (by kernel_rfl) ?_ _
          simp only [OnlyN]
          go_wp2
          go_ret
          rw [HT.out]
          exact ⟨rfl, HH.out⟩
end Go.Proofs.YtcjcccbjgooooaaGreatDoor
/- A disk's file taken out, what lies beside left open. -/
namespace Go.Proofs.YtcjcccbjgooooaaGreatDoor
open Go.RowKit HP
set_option linter.unusedSimpArgs false
set_option linter.unusedVariables false

/-- The file at a place, and what becomes of the disk when its extents are laid anew. -/
theorem dk_fileQ {E : Env} {q : HP} {w : World} {d m : Nat} {room fuse : Int} {es : Array MapEntry} {clock : Nat} {fs : List Fil} (hw : Sat E w (HP.dk d room fuse m es clock fs * q)) {j : Nat} {f : Fil} (hj : fs[j]? = some f) :
    ∃ R0 : HP, Sat E w (HP.row 137 1 f.val f.cels.length (celPtrs f.cels) * (HP.cels f.cels * (R0 * q))) ∧
      ∀ (q' : HP) (w' : World) (cels' : List (Nat × Cel)), cels'.map (·.1) = f.cels.map (·.1) → Sat E w' (HP.row 137 1 f.val f.cels.length (celPtrs f.cels) * (HP.cels cels' * (R0 * q'))) →
        Sat E w' (HP.dk d room fuse m es clock (fs.set j ⟨f.name, f.val, cels'⟩) * q') := by
  have h1 := dk_parts hw
  have h2 : Sat E w (HP.all (fs.map HP.fil) * (HP.dsk d room fuse m * (HP.pt m (.map es clock) * q))) := h1.perm (by ac_rfl)
  rw [all_take (l := fs.map HP.fil) (j := j) (p := HP.fil f) (by rw [List.getElem?_map, hj]; rfl)] at h2
  refine ⟨HP.all ((fs.map HP.fil).eraseIdx j) * (HP.dsk d room fuse m * HP.pt m (.map es clock)), h2.perm (by unfold HP.fil HP.cels Fil.ptrs celPtrs; ac_rfl), fun q' w' cels' hfst h => ?_⟩
  have hjl : j < fs.length := (List.getElem?_eq_some_iff.1 hj).1
  have hlen : cels'.length = f.cels.length := by simpa using congrArg List.length hfst
  unfold HP.dk
  rw [all_take (l := (fs.set j (⟨f.name, f.val, cels'⟩ : Fil)).map HP.fil) (j := j) (p := HP.fil ⟨f.name, f.val, cels'⟩) (by rw [List.getElem?_map, List.getElem?_set]; simp [hjl])]
  rw [List.map_set, List.eraseIdx_set_eq]
  have hp : (⟨f.name, f.val, cels'⟩ : Fil).ptrs = celPtrs f.cels := by
    show cels'.map (fun x => Value.pointer (some ⟨x.1, 0, none⟩)) = _
    unfold celPtrs
    have := congrArg (List.map fun b : Nat => Value.pointer (some ⟨b, 0, none⟩)) hfst
    simpa [List.map_map, Function.comp_def] using this
  have e1 : HP.fil ⟨f.name, f.val, cels'⟩ = HP.row 137 1 f.val f.cels.length (celPtrs f.cels) * HP.cels cels' := by
    unfold HP.fil HP.cels
    rw [hp]
    show HP.row 137 1 f.val cels'.length _ * _ = _
    rw [hlen]
  rw [e1]
  exact h.perm (by ac_rfl)

theorem cel_whole {E : Env} {q : HP} {w : World} {b : Nat} {c : Cel} (h : Sat E w (HP.cel b c * q)) : Cells w (some ⟨b, 0, none⟩) c.vals := fun j u hj => ⟨_, rfl, by
  rw [addr_add, Nat.zero_add]
  have h1 : Sat E w (HP.pt b (.cells c.vals.toArray 140) * q) := h
  rw [h1.cell]
  simpa using hj⟩
end Go.Proofs.YtcjcccbjgooooaaGreatDoor
/- The document's sum, bit by bit, in plain numbers: it is the same. -/
namespace Go.Proofs.YtcjcccbjgooooaaGreatDoor
open Go.RowKit HP
set_option linter.unusedSimpArgs false
set_option linter.unusedVariables false

/-- One bit's step. -/
def crc1 (r : Nat) : Nat := if r % 2 = 1 then r / 2 ^^^ 2197175160 else r / 2
def crcJ : Nat → Nat → Nat
  | 0, r => r
  | k + 1, r => crc1 (crcJ k r)
theorem crc1_lt {r : Nat} (h : r < 4294967296) : crc1 r < 4294967296 := by
  unfold crc1
  split
  · exact xor_lt32 (by omega) (by decide)
  · omega
theorem crcJ_lt {r : Nat} (h : r < 4294967296) : ∀ k, crcJ k r < 4294967296
  | 0 => h
  | k + 1 => crc1_lt (crcJ_lt h k)
theorem xor_half (a b : Nat) : (a ^^^ b) / 2 = a / 2 ^^^ b / 2 := by
  have := Nat.shiftRight_xor_distrib (a := a) (b := b) (i := 1)
  simpa [Nat.shiftRight_succ, Nat.shiftRight_zero] using this
theorem xor_par (a b : Nat) (hb : b % 2 = 0) : (a ^^^ b) % 2 = a % 2 := by
  have h := Nat.xor_mod_two_pow (a := a) (b := b) (n := 1)
  rw [Nat.pow_one, hb, Nat.xor_zero] at h
  exact h
theorem crcQ_two (r : Nat) : crcQ r = crc1 (crc1 r) := by
  have hP : (2197175160 : Nat) % 2 = 0 := by decide
  have hH : (2197175160 : Nat) / 2 = 1098587580 := by decide
  have h4 : r % 4 = 0 ∨ r % 4 = 1 ∨ r % 4 = 2 ∨ r % 4 = 3 := by omega
  unfold crcQ
  rcases h4 with h | h | h | h
  · have e1 : crc1 r = r / 2 := by unfold crc1; rw [if_neg (by omega)]
    have e2 : crc1 (r / 2) = r / 2 / 2 := by unfold crc1; rw [if_neg (by omega)]
    rw [h, e1, e2, Nat.div_div_eq_div_mul]
    show r / 4 ^^^ 0 = _
    rw [Nat.xor_zero]
  · have e1 : crc1 r = r / 2 ^^^ 2197175160 := by unfold crc1; rw [if_pos (by omega)]
    have e0 : (r / 2 ^^^ 2197175160) % 2 = 0 := by rw [xor_par _ _ hP]; omega
    have e2 : crc1 (r / 2 ^^^ 2197175160) = (r / 2 ^^^ 2197175160) / 2 := by unfold crc1; rw [if_neg (by omega)]
    rw [h, e1, e2, xor_half, hH, Nat.div_div_eq_div_mul]
    rfl
  · have e1 : crc1 r = r / 2 := by unfold crc1; rw [if_neg (by omega)]
    have e2 : crc1 (r / 2) = r / 2 / 2 ^^^ 2197175160 := by unfold crc1; rw [if_pos (by omega)]
    rw [h, e1, e2, Nat.div_div_eq_div_mul]
    rfl
  · have e1 : crc1 r = r / 2 ^^^ 2197175160 := by unfold crc1; rw [if_pos (by omega)]
    have e0 : (r / 2 ^^^ 2197175160) % 2 = 1 := by rw [xor_par _ _ hP]; omega
    have e2 : crc1 (r / 2 ^^^ 2197175160) = (r / 2 ^^^ 2197175160) / 2 ^^^ 2197175160 := by unfold crc1; rw [if_pos e0]
    rw [h, e1, e2, xor_half, hH, Nat.div_div_eq_div_mul, Nat.xor_assoc]
    rfl
theorem crcJ_I (r : Nat) : ∀ k, crcJ (2 * k) r = crcI k r
  | 0 => rfl
  | k + 1 => by
    show crc1 (crc1 (crcJ (2 * k) r)) = crcQ (crcI k r)
    rw [crcJ_I r k, crcQ_two]
theorem crcB_bits (r x : Nat) : crcB r x = crcJ 8 (r ^^^ x) := (crcJ_I (r ^^^ x) 4).symm
end Go.Proofs.YtcjcccbjgooooaaGreatDoor
/- dryrotref01.More, Sum: the same sum, bit by bit. -/
namespace Go.Proofs.YtcjcccbjgooooaaGreatDoor
open Go.RowKit HP
set_option linter.unusedSimpArgs false
set_option linter.unusedVariables false

theorem bit_mask {r : Nat} (h : r < 4294967296) : bits .and .u32 (r : Int) 1 = ((r % 2 : Nat) : Int) := by
  have := u32_and_nat r 1 h (by decide)
  rw [Nat.and_one_is_mod] at this
  exact this
set_option maxHeartbeats 1000000 in
set_option maxRecDepth 100000 in
theorem ref_more (A : Option Addr) (l : List Int) (n c : Nat) (s : Nat) (w : World) (hln : l.length = n) (hs : s < 4294967296) (hl : n ≤ maxLen) (hb : Bytes l) (hc : Cells w A (b8s l)) :
    Calls Tryz.prog 128 #[.int .u32 s, .slice A n c] w fun e w' => e = .returned (.int .u32 (crcMore s l)) ∧ w' = w := by
  have x1 : bits BinOp.xor IntKind.u32 IntKind.u32.max (s : Int) = ((4294967295 ^^^ s : Nat) : Int) := u32_xor_nat 4294967295 s (by decide) hs
  have HX : Aside (4294967295 ^^^ s < 4294967296) := ⟨xor_lt32 (by decide) hs⟩
  obtain ⟨y, hy⟩ : ∃ y, y = 4294967295 ^^^ s := ⟨_, rfl⟩
  have HF : Aside (crcMore s l = 4294967295 ^^^ crcL y l) := ⟨by rw [hy]; rfl⟩
  rw [← hy] at x1 HX
  clear hy
  have HLN := Aside.mk hln
  have hl' : (n : Int) ≤ 9223372036854775807 := by have := hl; unfold maxLen at this; omega
  clear hln
  go_enter Tryz.func128, Tryz.ntmps128
  go_wp2
  go_loopw [5, 13] (fun v5 v13 wr => ∃ k : Nat, k ≤ n ∧ v13 = .int .i64 k ∧ (∃ r : Nat, v5 = .int .u32 r ∧ Aside (r = crcL y (l.take k) ∧ r < 4294967296)) ∧ wr = w) (fun _ i _ => n - (intOf i).toNat)
  case atStart => exact ⟨0, Nat.zero_le _, rfl, ⟨y, rfl, ⟨rfl, HX.out⟩⟩, rfl⟩
  case round =>
    obtain ⟨k, hk, rfl, ⟨r, rfl, HR⟩, rfl⟩ := hrel
    by_cases hlt : k < n
    · have hltl : k < l.length := by rw [HLN.out]; exact hlt
      obtain ⟨a, rfl, hcx⟩ := hc.at_ k (by simpa [b8s] using hltl)
      have hxb := hb _ (List.getElem_mem hltl)
      have HN : Aside (l.take (k + 1) = l.take k ++ [l[k]]) := ⟨List.take_succ_eq_append_getElem hltl⟩
      simp only [b8s, List.getElem_map] at hcx
      obtain ⟨m, hm⟩ := Int.eq_ofNat_of_zero_le hxb.1
      rw [hm] at hcx hxb HN
      have hm8 : m < 256 := by omega
      have x2 : bits .xor .u32 (r : Int) (m : Int) = ((r ^^^ m : Nat) : Int) := u32_xor_nat r m HR.out.2 (by omega)
      have HZ : Aside (r ^^^ m < 4294967296 ∧ crcB r m = crcJ 8 (r ^^^ m)) := ⟨xor_lt32 HR.out.2 (by omega), crcB_bits r m⟩
      obtain ⟨z, hz⟩ : ∃ z, z = r ^^^ m := ⟨_, rfl⟩
      rw [← hz] at x2 HZ
      clear hz hm hxb hb
      obtain ⟨wo, rfl⟩ : ∃ wo : World, wo = wr := ⟨_, rfl⟩
      go_wp2
      go_loopw [5, 21] (fun v5 v21 w2 => ∃ j : Nat, j ≤ 8 ∧ v21 = .int .i64 j ∧ (∃ t : Nat, v5 = .int .u32 t ∧ Aside (t = crcJ j z ∧ t < 4294967296)) ∧ w2 = wo) (fun _ i _ => 8 - (intOf i).toNat)
      case atStart => exact ⟨0, Nat.zero_le _, rfl, ⟨z, rfl, ⟨rfl, HZ.out.1⟩⟩, rfl⟩
      case round =>
        obtain ⟨j, hj, rfl, ⟨t, rfl, HT⟩, rfl⟩ := hrel
        by_cases hj8 : j < 8
        · have hj8I : (j : Int) < 8 := by omega
          have x3 := bit_mask HT.out.2
          have HQ := Aside.mk (crc1_lt HT.out.2)
          have HJ : Aside (crcJ (j + 1) z = crc1 t) := ⟨by rw [HT.out.1]; rfl⟩
          obtain ⟨h, hh⟩ : ∃ h, h = t / 2 := ⟨_, rfl⟩
          have x4 : (t : Int) / 2 = (h : Int) := by omega
          have hh32 : h < 4294967296 := by have := HT.out.2; omega
          have x6 : bits .xor .u32 (h : Int) 2197175160 = ((h ^^^ 2197175160 : Nat) : Int) := u32_xor_nat h 2197175160 hh32 (by decide)
          by_cases ho : t % 2 = 1
          · have HO : Aside (crc1 t = h ^^^ 2197175160) := ⟨by unfold crc1; rw [if_pos ho, hh]⟩
            rw [ho] at x3
            have x5 : bits .and .u32 (t : Int) 1 = 1 := x3
            obtain ⟨t', ht'⟩ : ∃ t', t' = h ^^^ 2197175160 := ⟨_, rfl⟩
            rw [← ht'] at x6 HO
            clear ht' ho x3 hh
            go_wp2
            go_roundw
            case rel => exact ⟨j + 1, by omega, by go_num, ⟨t', rfl, ⟨by rw [HJ.out, HO.out], by rw [← HO.out]; exact HQ.out⟩⟩, trivial⟩
            case measure => simp only [intOf]; omega
          · have ho0 : t % 2 = 0 := by omega
            have HO : Aside (crc1 t = h) := ⟨by unfold crc1; rw [if_neg ho, hh]⟩
            rw [ho0] at x3
            have x5 : bits .and .u32 (t : Int) 1 = 0 := x3
            clear ho ho0 x3 hh
            go_wp2
            go_roundw
            case rel => exact ⟨j + 1, by omega, by go_num, ⟨h, rfl, ⟨by rw [HJ.out, HO.out], hh32⟩⟩, trivial⟩
            case measure => simp only [intOf]; omega
        · have hj8' : j = 8 := by omega
          subst hj8'
          go_wp2
          go_roundw
          case rel =>
            refine ⟨k + 1, by omega, by go_num, ⟨t, rfl, ⟨?_, HT.out.2⟩⟩, trivial⟩
            rw [HN.out, crcL_append, ← HR.out.1, HT.out.1, ← HZ.out.2]
            rfl
          case measure => simp only [intOf]; omega
    · have hk' : k = n := by omega
      have x7 : bits BinOp.xor IntKind.u32 IntKind.u32.max (r : Int) = ((4294967295 ^^^ r : Nat) : Int) := u32_xor_nat 4294967295 r (by decide) HR.out.2
      have HE : Aside (crcMore s l = 4294967295 ^^^ r) := ⟨by rw [HF.out, HR.out.1, hk', ← HLN.out, List.take_length]⟩
      clear hk'
      go_wp2
      go_ret
      rw [HE.out]
      exact ⟨rfl, rfl⟩
set_option maxHeartbeats 1000000 in
set_option maxRecDepth 100000 in
theorem ref_sum (A : Option Addr) (l : List Int) (n c : Nat) (w : World) (hln : l.length = n) (hl : n ≤ maxLen) (hb : Bytes l) (hc : Cells w A (b8s l)) :
    Calls Tryz.prog 106 #[.slice A n c] w fun e w' => e = .returned (.int .u32 (crcSum l)) ∧ w' = w := by
  have HS := Aside.mk (And.intro hln (And.intro hl (And.intro hb hc)))
  clear hln hl hb hc
  go_enter Tryz.func106, Tryz.ntmps106
  go_wp2_with fail
  refine (ref_more A l n c 0 _ HS.out.1 (by decide) HS.out.2.1 HS.out.2.2.1 HS.out.2.2.2).mono ?_
  rintro e w1 ⟨rfl, hw1⟩
  subst w1
  go_wp2
  go_ret
  exact ⟨rfl, rfl⟩
end Go.Proofs.YtcjcccbjgooooaaGreatDoor
/- dryrotref01.Put, Get; dryrotref10.Big, Int. -/
namespace Go.Proofs.YtcjcccbjgooooaaGreatDoor
open Go.RowKit HP
set_option linter.unusedSimpArgs false
set_option linter.unusedVariables false

set_option maxHeartbeats 1000000 in
set_option maxRecDepth 100000 in
theorem ref_put (E : Env) (q : HP) (n wd : Nat) (w : World) (hwd : wd ≤ 8) (hn : n < 18446744073709551616) (hw : Sat E w q) :
    Calls Tryz.prog 38 #[.int .u64 n, .int .i64 wd] w fun e w' => ∃ g, e = .returned (.slice (some ⟨g, 0, none⟩) wd wd) ∧ Sat E w' (HP.row 5 1 (.slice (some ⟨g, 0, none⟩) wd wd) wd (b8s (putI n wd)) * q) := by
  have hz : (if (0 : Int) > (wd : Int) then (0 : Int) else wd) = wd := by split <;> omega
  have hm : (if (8 : Int) < (wd : Int) then (8 : Int) else wd) = wd := by split <;> omega
  have HW := Aside.mk hw
  clear hw
  go_enter Tryz.func38, Tryz.ntmps38
  go_wp2_with (first
    | (refine wpList_make_row (n := wd) slB8 rfl rfl rfl rfl rfl HW.out (by unfold maxLen; omega) (by omega) (fun g w2 hw2 => ?_); have HW2 := Aside.mk hw2; clear hw2))
  go_loopw [0, 7] (fun v0 v7 wr => ∃ k : Nat, k ≤ wd ∧ (∃ i : Int, v7 = .int .i64 i ∧ i = (wd : Int) - 1 - k) ∧ (∃ m : Nat, v0 = .int .u64 m ∧ m < 18446744073709551616 ∧ Aside (m = n / 256 ^ k)) ∧ Aside (Sat E wr (HP.row 5 1 (.slice (some ⟨g, 0, none⟩) wd wd) wd (b8s (List.replicate (wd - k) 0 ++ (putI n wd).drop (wd - k))) * q))) (fun _ i _ => (intOf i + 1).toNat)
  case atStart => exact ⟨0, Nat.zero_le _, ⟨_, rfl, by omega⟩, ⟨n, rfl, hn, ⟨by simp⟩⟩, ⟨HW2.out.perm (by rw [Nat.sub_zero, List.drop_of_length_le (by rw [putI_length]; exact Nat.le_refl _), List.append_nil]; unfold b8s; rw [List.map_replicate])⟩⟩
  case round =>
    obtain ⟨k, hk, ⟨i, rfl, hi⟩, ⟨m, rfl, hm64, HM⟩, HS⟩ := hrel
    by_cases hlt : k < wd
    · obtain ⟨t, ht⟩ : ∃ t : Nat, i = (t : Int) := ⟨wd - 1 - k, by omega⟩
      subst ht
      have ht2 : t = wd - 1 - k := by omega
      have htl : t < (b8s (List.replicate (wd - k) 0 ++ (putI n wd).drop (wd - k))).length := by rw [b8s_length, List.length_append, List.length_replicate, List.length_drop, putI_length]; omega
      have f1 := HS.out.row_thaw t htl
      rw [Nat.zero_add] at f1
      have c1 := HS.out.row_cell t _ (List.getElem?_eq_getElem htl)
      rw [Nat.zero_add] at c1
      generalize (b8s (List.replicate (wd - k) 0 ++ (putI n wd).drop (wd - k)))[t] = old at c1
      have hr2 : (m : Int) % 256 = putD n k := by unfold putD; rw [← HM.out]; omega
      have hr1 : (m : Int).tmod 256 = putD n k := by rw [Int.tmod_eq_emod_of_nonneg (by omega)]; exact hr2
      have hpd := putD_byte n k
      obtain ⟨m2, hm2⟩ : ∃ m2 : Nat, m2 = m / 256 := ⟨_, rfl⟩
      have hd2 : (m : Int) / 256 = (m2 : Int) := by omega
      have hd1 : (m : Int).tdiv 256 = (m2 : Int) := by rw [Int.tdiv_eq_ediv_of_nonneg (by omega)]; exact hd2
      have HM2 : Aside (m2 = n / 256 ^ (k + 1)) := ⟨by rw [hm2, HM.out, Nat.div_div_eq_div_mul, Nat.pow_succ]⟩
      have hm264 : m2 < 18446744073709551616 := by omega
      have h1 := HS.out.row_set t htl (.int .u8 (putD n k))
      rw [ht2, put_set n wd k hlt, ← ht2, Nat.zero_add] at h1
      have H1 := Aside.mk h1
      have HI : Aside ((t : Int) - 1 = (wd : Int) - 1 - ((k + 1 : Nat) : Int)) := ⟨by push_cast; omega⟩
      have ht3 : (t : Int) < wd := by omega
      have ht4 : (0 : Int) ≤ t := by omega
      clear h1 htl ht2 hi
      generalize putD n k = pd at *
      clear hm2
      go_wp2
      exact ⟨⟨k + 1, by omega, ⟨_, rfl, HI.out⟩, ⟨m2, rfl, hm264, HM2⟩, ⟨H1.out⟩⟩, by simp only [intOf]; omega⟩
    · have hk' : k = wd := by omega
      subst hk'
      have H1 : Aside (Sat E wr (HP.row 5 1 (.slice (some ⟨g, 0, none⟩) k k) k (b8s (putI n k)) * q)) := ⟨by have := HS.out; rw [Nat.sub_self] at this; exact this⟩
      have hi2 : i = -1 := by omega
      subst hi2
      go_wp2
      go_ret
      exact ⟨g, rfl, H1.out⟩
set_option maxHeartbeats 1000000 in
set_option maxRecDepth 100000 in
theorem ref_get (A : Option Addr) (l : List Int) (n c : Nat) (w : World) (hln : l.length = n) (h0 : 0 < n) (h8 : n ≤ 8) (hb : Bytes l) (hc : Cells w A (b8s l)) :
    Calls Tryz.prog 105 #[.slice A n c] w fun e w' => e = .returned (.tuple #[.int .u64 (getN l), .bool true]) ∧ w' = w := by
  have HL := Aside.mk hln
  clear hln
  have h0' : ¬ (n : Int) < 1 := by omega
  have h8' : ¬ (8 : Int) < (n : Int) := by omega
  go_enter Tryz.func105, Tryz.ntmps105
  go_wp2
  go_loopw [4, 17] (fun v4 v17 wr => ∃ k : Nat, k ≤ n ∧ v17 = .int .i64 k ∧ (∃ r : Nat, v4 = .int .u64 r ∧ Aside (r = getN (l.take k) ∧ r < 256 ^ k)) ∧ wr = w) (fun _ i _ => n - (intOf i).toNat)
  case atStart => exact ⟨0, Nat.zero_le _, rfl, ⟨0, rfl, ⟨rfl, by decide⟩⟩, rfl⟩
  case round =>
    obtain ⟨k, hk, rfl, ⟨r, rfl, HR⟩, rfl⟩ := hrel
    by_cases hlt : k < n
    · have hltl : k < l.length := by rw [HL.out]; exact hlt
      have hlt2 : (k : Int) < n := by omega
      obtain ⟨a, rfl, hcx⟩ := hc.at_ k (by simpa [b8s] using hltl)
      have hxb := hb _ (List.getElem_mem hltl)
      have HN : Aside (l.take (k + 1) = l.take k ++ [l[k]]) := ⟨List.take_succ_eq_append_getElem hltl⟩
      simp only [b8s, List.getElem_map] at hcx
      obtain ⟨m, hm⟩ := Int.eq_ofNat_of_zero_le hxb.1
      rw [hm] at hcx hxb HN
      have hm8 : m < 256 := by omega
      have hr7 : r < 72057594037927936 := Nat.lt_of_lt_of_le HR.out.2 (Nat.le_trans (Nat.pow_le_pow_right (by decide) (show k ≤ 7 by omega)) (by decide))
      have HZ : Aside (r * 256 + m = getN (l.take (k + 1)) ∧ r * 256 + m < 256 ^ (k + 1)) := ⟨by
        rw [HN.out, getN_append_one, ← HR.out.1, Int.toNat_natCast, Nat.pow_succ]
        have := HR.out.2
        omega⟩
      obtain ⟨y, hy⟩ : ∃ y : Nat, y = r * 256 := ⟨_, rfl⟩
      obtain ⟨z, hz⟩ : ∃ z : Nat, z = y + m := ⟨_, rfl⟩
      rw [← hy, ← hz] at HZ
      have x1 : (r : Int) * 256 = (y : Int) := by omega
      have x3 : (y : Int) + (m : Int) = (z : Int) := by omega
      have w1 : IntKind.u64.wrap (y : Int) = (y : Int) := by rw [IntKind.wrap_u64]; omega
      have w2 : IntKind.u64.wrap (z : Int) = (z : Int) := by rw [IntKind.wrap_u64]; omega
      clear hm hxb hltl hy hz HN hr7
      go_wp2
      exact ⟨⟨k + 1, by omega, by push_cast; rfl, ⟨z, rfl, HZ⟩, trivial⟩, by simp only [intOf]; omega⟩
    · have hk' : k = n := by omega
      subst hk'
      have HE : Aside (getN l = r) := ⟨by rw [HR.out.1, ← HL.out, List.take_length]⟩
      go_wp2
      go_ret2
      rw [HE.out]
      exact ⟨rfl, rfl⟩
end Go.Proofs.YtcjcccbjgooooaaGreatDoor
/- dryrotref04.Frame: an extent's bytes. -/
namespace Go.Proofs.YtcjcccbjgooooaaGreatDoor
open Go.RowKit HP
set_option linter.unusedSimpArgs false
set_option linter.unusedVariables false

theorem wpList_value_run {P : Program} {ops : Array Oper} {rest : List Oper} {o : Oper} {a : Act} {w w' : World} {Q : Exit → Act → World → Prop} {v : Value} (hg : o.guard = none) (hr : (execOp a.eval o).run P w = .ok (.value v) w') (hk : wpList P ops Q rest (a.put o.dst v) w') : wpList P ops Q (o :: rest) a w := by
  refine wpList_plain hg fun K hK => ?_
  exact wp_value_run hr (hK _ _ hk)
theorem Sat.row_new {E : Env} {w : World} {q : HP} {e : TypeId} (h : Sat E w q) (cs : List Value) (hn : cs.length ≤ maxLen) : Sat E (w.alloc (.cells cs.toArray e)) (HP.row e 1 (.slice (some ⟨w.heap.size, 0, none⟩) cs.length cs.length) cs.length cs * q) := by
  have h1 := h.alloc (.cells cs.toArray e)
  have h2 := Sat.row_mk (n := cs.length) (cap := cs.length) (off := 0) (size := 1) (cs := cs) h1 (Nat.le_refl _) hn (by simp) (by simp)
  simpa using h2
def sliceLen : Value → Nat
  | .slice _ n _ => n
  | _ => 0
set_option maxHeartbeats 4000000 in
set_option maxRecDepth 100000 in
theorem ref_frame (E : Env) (q : HP) (name : ByteArray) (index gen : Nat) (A : Option Addr) (p : List Int) (n c : Nat) (w : World) (hname : name.size ≤ maxLen) (hi : (index : Int) ≤ 2147483647) (hg : (gen : Int) ≤ 4611686018427387904) (hpn : p.length = n) (hn : n ≤ 106) (hp : Bytes p)
    (hq : ∀ w, Sat E w q → Cells w A (b8s p)) (hw : Sat E w q) :
    Calls Tryz.prog 65 #[.string name, .int .i64 index, .int .i64 gen, .slice A n c] w fun e w' => ∃ v, e = .returned (.tuple #[v, .int .i64 0]) ∧ Sat E w' (HP.row 5 1 v 128 (b8s (extI name index gen p)) * q) := by
  have HQ := Aside.mk (And.intro hq (And.intro hp hpn))
  have HNM := Aside.mk hname
  have hn' : (n : Int) ≤ 106 := by omega
  have hi0 : (0 : Int) ≤ (index : Int) := by omega
  have hg0 : (0 : Int) ≤ (gen : Int) := by omega
  have u1 : IntKind.u64.wrap (index : Int) = (index : Int) := by rw [IntKind.wrap_u64]; omega
  have u2 : IntKind.u64.wrap (gen : Int) = (gen : Int) := by rw [IntKind.wrap_u64]; omega
  have u3 : IntKind.u8.wrap (n : Int) = (n : Int) := by rw [IntKind.wrap_u8]; omega
  have h1 : Sat E (w.alloc (.cells #[.int .u8 229] 5)) (HP.row 5 1 (.slice (some ⟨w.heap.size, 0, none⟩) 1 1) 1 (b8s [229]) * q) := hw.row_new (b8s [229]) (by unfold maxLen; show 1 ≤ _; omega)
  obtain ⟨gs, cs, w2, hr2, h2, c2⟩ := run_str_bytes (dst := 28) Tryz.underlying9 Tryz.underlying28 Tryz.underlying5 name h1
  have H2 := Aside.mk (And.intro h2 c2)
  clear hq hw hp hpn h1 h2 c2 hname
  go_enter Tryz.func65, Tryz.ntmps65
  go_wp2_with (first | (refine wpList_value_run rfl (exec_convert rfl rfl hr2) ?_))
  clear hr2
  refine (ref_sum _ (strB name) name.size cs w2 (strB_length _) HNM.out (strB_bytes _) H2.out.2).mono ?_
  rintro e w3 ⟨rfl, hw3⟩
  subst w3
  obtain ⟨S, hS⟩ : ∃ S, S = crcSum (strB name) := ⟨_, rfl⟩
  have hS4 : S < 4294967296 := by rw [hS]; exact crcSum_lt (strB_bytes _)
  rw [← hS]
  have HSS := Aside.mk hS
  clear hS
  have u4 : IntKind.u64.wrap (S : Int) = (S : Int) := by rw [IntKind.wrap_u64]; omega
  go_wp2_with fail
  refine (ref_put E _ S 4 w2 (by omega) (by omega) H2.out.1).mono ?_
  rintro e w4 ⟨g4, rfl, h4⟩
  have H4 := Aside.mk (And.intro h4.s2 h4.row_cells)
  clear h4 H2 u4
  go_wp2_with (at_builtin; refine wpList_append_row slB8 rfl rfl (by rfl) (by rfl) H4.out.1 H4.out.2 (by rw [b8s_length, putI_length]) (b8s_one _) (by unfold maxLen; omega) (by omega) (fun v5 w5 h5 => ?_); rw [← b8s_append] at h5; obtain ⟨A5, c5, rfl, -, -⟩ := h5.row_slice; have H5 := Aside.mk h5.drop2; clear h5)
  refine (ref_put E _ index 4 _ (by omega) (by omega) H5.out).mono ?_
  rintro e w6 ⟨g6, rfl, h6⟩
  have H6 := Aside.mk (And.intro h6.s2 h6.row_cells)
  clear h6 H5 H4
  go_wp2_with (at_builtin; refine wpList_append_row slB8 rfl rfl (by rfl) (by rfl) H6.out.1 H6.out.2 (by rw [b8s_length, putI_length]) (b8s_one _) (by unfold maxLen; omega) (by omega) (fun v7 w7 h7 => ?_); rw [← b8s_append] at h7; obtain ⟨A7, c7, rfl, -, -⟩ := h7.row_slice; have H7 := Aside.mk h7.drop2; clear h7)
  refine (ref_put E _ gen 8 _ (by omega) (by omega) H7.out).mono ?_
  rintro e w8 ⟨g8, rfl, h8⟩
  have H8 := Aside.mk (And.intro h8.s2 h8.row_cells)
  clear h8 H7 H6
  have HCP : Aside (∀ w r, Sat E w (r * q) → Cells w A (b8s p)) := ⟨fun w r h => HQ.out.1 w h.right⟩
  go_wp2_with (at_builtin; first
    | (refine wpList_append_row slB8 rfl rfl (by rfl) (by rfl) H8.out.1 H8.out.2 (by rw [b8s_length, putI_length]) (b8s_one _) (by unfold maxLen; omega) (by omega) (fun v9 w9 h9 => ?_); rw [← b8s_append] at h9; obtain ⟨A9, c9, rfl, -, -⟩ := h9.row_slice; have H9 := Aside.mk h9.drop2; clear h9)
    | (refine wpList_append_new (news := b8s [(n : Int)]) slB8 rfl rfl (by rfl) (by rfl) H9.out (by rfl) (by rfl) (by unfold maxLen; omega) (by omega) (fun v10 w10 h10 => ?_); rw [← b8s_append] at h10; obtain ⟨A10, c10, rfl, -, -⟩ := h10.row_slice; have H10 := Aside.mk h10; clear h10)
    | (refine wpList_append_row slB8 rfl rfl (by rfl) (by rfl) H10.out (HCP.out _ _ H10.out) (by rw [b8s_length, HQ.out.2.2]; omega) (b8s_one _) (by unfold maxLen; omega) (by omega) (fun v11 w11 h11 => ?_); rw [← b8s_append] at h11; obtain ⟨A11, c11, rfl, -, -⟩ := h11.row_slice; have H11 := Aside.mk h11; clear h11))
  obtain ⟨hd, hhd⟩ : ∃ hd, hd = [229] ++ putI S 4 ++ putI index 4 ++ putI gen 8 ++ [(n : Int)] ++ p := ⟨_, rfl⟩
  rw [← hhd] at H11
  have HHD := Aside.mk hhd
  have H12 : Aside (Sat E w11 (HP.row 5 1 (.slice A11 (18 + n) c11) (18 + n) (b8s (hd ++ List.replicate 0 0)) * q)) := ⟨by rw [List.replicate_zero, List.append_nil]; exact H11.out⟩
  clear H11 H10 H9 H8 hhd
  go_loopw [10] (fun v10 wr => ∃ (m k : Nat) (A10 : Option Addr) (c10 : Nat), v10 = .slice A10 m c10 ∧ m = 18 + n + k ∧ m ≤ 124 ∧ Aside (Sat E wr (HP.row 5 1 (.slice A10 m c10) m (b8s (hd ++ List.replicate k 0)) * q))) (fun v _ => 124 - sliceLen v)
  case atStart => exact ⟨18 + n, 0, A11, c11, rfl, rfl, by omega, H12⟩
  case round =>
    clear H12
    obtain ⟨m, k, A10, c10, rfl, hm, hm2, HS⟩ := hrel
    by_cases hlt : m < 124
    · have hlt2 : (m : Int) < 124 := by omega
      have HE : Aside (hd ++ List.replicate k 0 ++ [0] = hd ++ List.replicate (k + 1) (0 : Int)) := ⟨by rw [List.append_assoc, List.replicate_succ']⟩
      have HM := Aside.mk hm
      clear hm
      go_wp2_with (at_builtin; refine wpList_append_new (news := b8s [0]) slB8 rfl rfl (by rfl) (by rfl) HS.out (by rfl) (by rfl) (by unfold maxLen; omega) (by omega) (fun v5 w5 h5 => ?_); rw [← b8s_append, HE.out] at h5; obtain ⟨A5, c5, rfl, -, -⟩ := h5.row_slice; have H5 := Aside.mk h5; clear h5)
      go_roundw
      case rel => exact ⟨m + 1, k + 1, A5, c5, rfl, by have := HM.out; omega, by omega, H5⟩
      case measure => simp only [sliceLen]; omega
    · have hm124 : m = 124 := by omega
      subst hm124
      have hk : k = 106 - p.length := by rw [HQ.out.2.2]; omega
      have HX : Aside (hd ++ List.replicate k 0 = extH name index gen p) := ⟨by rw [HHD.out, hk, HSS.out]; unfold extH; rw [HQ.out.2.2]⟩
      have h0 := HS.out
      rw [HX.out] at h0
      have H0 := Aside.mk h0
      obtain ⟨X, hX⟩ : ∃ X, X = extH name index gen p := ⟨_, rfl⟩
      have hXl : X.length = 124 := by rw [hX]; exact extH_length (by rw [HQ.out.2.2]; exact hn)
      have hXb : Bytes X := by rw [hX]; exact extH_bytes (by rw [HQ.out.2.2]; exact hn) HQ.out.2.1
      have HI : Aside (extI name index gen p = X ++ putI (crcSum X) 4) := ⟨by unfold extI; rw [← hX]⟩
      rw [← hX] at H0
      have HXP := Aside.mk (And.intro hXl hXb)
      clear hm hk h0 hX hXl hXb HS HX
      go_wp2_with fail
      refine (ref_sum _ X 124 _ _ HXP.out.1 (by unfold maxLen; omega) HXP.out.2 H0.out.row_cells).mono ?_
      rintro e w3 ⟨rfl, hw3⟩
      subst w3
      obtain ⟨T, hT⟩ : ∃ T, T = crcSum X := ⟨_, rfl⟩
      have hT4 : T < 4294967296 := by rw [hT]; exact crcSum_lt HXP.out.2
      rw [← hT] at HI ⊢
      clear hT
      have u4 : IntKind.u64.wrap (T : Int) = (T : Int) := by rw [IntKind.wrap_u64]; omega
      go_wp2_with fail
      refine (ref_put E _ T 4 _ (by omega) (by omega) H0.out).mono ?_
      rintro e w4 ⟨g4, rfl, h4⟩
      have H4 := Aside.mk (And.intro h4.s2 h4.row_cells)
      clear h4 H0 u4
      go_wp2_with (at_builtin; refine wpList_append_row slB8 rfl rfl (by rfl) (by rfl) H4.out.1 H4.out.2 (by rw [b8s_length, putI_length]) (b8s_one _) (by unfold maxLen; omega) (by omega) (fun v5 w5 h5 => ?_); rw [← b8s_append] at h5; obtain ⟨A5, c5, rfl, -, -⟩ := h5.row_slice; have H5 := Aside.mk h5.drop2; clear h5)
      go_ret2
      rw [HI.out]
      exact ⟨_, rfl, H5.out⟩
set_option maxHeartbeats 2000000 in
set_option maxRecDepth 100000 in
theorem ref_frame_bad (name : ByteArray) (index gen : Int) (A : Option Addr) (n c : Nat) (w : World) (h : ¬ FrameOk index gen n) :
    Calls Tryz.prog 65 #[.string name, .int .i64 index, .int .i64 gen, .slice A n c] w fun e w' => e = .returned (.tuple #[.slice none 0 0, .int .i64 1]) ∧ w' = w := by
  have hb : index < 0 ∨ 2147483647 < index ∨ gen < 0 ∨ 4611686018427387904 < gen ∨ 106 < (n : Int) := by unfold FrameOk at h; omega
  clear h
  have key : ((((index < 0 ∨ 2147483647 < index) ∨ gen < 0) ∨ 4611686018427387904 < gen) ∨ 106 < (n : Int)) := by omega
  go_enter Tryz.func65, Tryz.ntmps65
  go_wp2
  all_goals (go_ret2; exact ⟨rfl, rfl⟩)
end Go.Proofs.YtcjcccbjgooooaaGreatDoor
/- dryrotref04.Open: what an extent holds. -/
namespace Go.Proofs.YtcjcccbjgooooaaGreatDoor
open Go.RowKit HP
set_option linter.unusedSimpArgs false
set_option linter.unusedVariables false

theorem run_string_m {P : Program} {w : World} {src dst e : TypeId} {A : Option Addr} {l : List Int} {n c : Nat} (hn : l.length = n) (hs : P.underlying src = some (.slice e)) (he : P.underlying e = some (.int .u8)) (hd : P.underlying dst = some .string)
    (h : Cells w A (b8s l)) : (convert src dst (.slice A n c)).run P w = .ok (.string (strOf l)) w := by
  subst hn
  exact run_string hs he hd h
theorem strOf_eqb {a b : List Int} (ha : Bytes a) (hb : Bytes b) : ((strOf a).toList == (strOf b).toList) = decide (a = b) := by
  by_cases h : a = b
  · subst h; simp
  · have : ¬ (strOf a).toList = (strOf b).toList := fun h2 => h (strOf_inj ha hb (toList_inj h2))
    simp [h, this]
theorem openI_gen_none {b : List Int} {name : ByteArray} {index : Int} (h : 4611686018427387904 < getN ((b.drop 9).take 8)) : openI b name index = none := by
  unfold openI
  by_cases h1 : b.length ≠ 128 ∨ 106 < b.getD 17 0 ∨ index < 0 ∨ 2147483647 < index
  · rw [if_pos h1]
  · rw [if_neg h1, if_pos h]
set_option maxHeartbeats 4000000 in
set_option maxRecDepth 100000 in
theorem ref_open (E : Env) (q : HP) (name : ByteArray) (index : Int) (A : Option Addr) (b : List Int) (n c : Nat) (w : World) (hname : name.size ≤ maxLen) (hbn : b.length = n) (hnc : n ≤ c) (hb : Bytes b)
    (hq : ∀ w, Sat E w q → Cells w A (b8s b)) (hw : Sat E w q) :
    Calls Tryz.prog 104 #[.slice A n c, .string name, .int .i64 index] w fun e w' =>
      (openI b name index = none ∧ e = .returned (.tuple #[.slice none 0 0, .int .i64 0, .int .i64 40]) ∧ Sat E w' q) ∨
      (∃ p gen v, openI b name index = some (p, gen) ∧ e = .returned (.tuple #[v, .int .i64 gen, .int .i64 0]) ∧ Sat E w' (HP.row 5 1 v p.length (b8s p) * q)) := by
  by_cases hlen : n = 128
  · subst hlen
    have hcw := hq w hw
    obtain ⟨a, rfl, -⟩ := hcw.at_ 0 (by rw [b8s_length, hbn]; decide)
    obtain ⟨g, o, rfl⟩ := slice_addr hcw rfl (k := 0) (by rw [b8s_length, hbn]; decide)
    have g17 : b[17]? = some (b.getD 17 0) := by
      have : 17 < b.length := by omega
      simp [List.getD, this]
    have c17 : w.cell? ⟨g, o + 17, none⟩ = some (.int .u8 (b.getD 17 0)) := by
      have := hcw.some_ 17 (.int .u8 (b.getD 17 0)) (by unfold b8s; rw [List.getElem?_map, g17]; rfl)
      rw [addr_add] at this
      exact this
    have hx := hb _ (List.mem_of_getElem? g17)
    have HO : Aside (openI b name index = if b.length ≠ 128 ∨ 106 < b.getD 17 0 ∨ index < 0 ∨ 2147483647 < index then none else
        if 4611686018427387904 < getN ((b.drop 9).take 8) then none else
        if extI name index.toNat (getN ((b.drop 9).take 8)) ((b.drop 18).take (b.getD 17 0).toNat) ≠ b then none else
        some ((b.drop 18).take (b.getD 17 0).toNat, getN ((b.drop 9).take 8))) := ⟨rfl⟩
    obtain ⟨x, hxe⟩ : ∃ x : Nat, b.getD 17 0 = (x : Int) := ⟨(b.getD 17 0).toNat, by omega⟩
    rw [hxe] at c17 hx HO
    clear g17 hxe
    by_cases hbad : 106 < (x : Int)
    · have HN : Aside (openI b name index = none ∧ Sat E w q) := ⟨by rw [HO.out, if_pos (.inr (.inl hbad))], hw⟩
      clear HO hw hq hcw hbn
      go_enter Tryz.func104, Tryz.ntmps104
      go_wp2
      all_goals (go_ret3; exact .inl ⟨HN.out.1, rfl, HN.out.2⟩)
    · have hx1 : ¬ 106 < (x : Int) := hbad
      have HQ := Aside.mk (And.intro hq (And.intro hw (And.intro hb hbn)))
      have HNM := Aside.mk hname
      have cg : Cells w (some ⟨g, o + 9, none⟩) (b8s ((b.drop 9).take 8)) := by
        have := (hcw.drop 9).take 8
        rw [addr_add] at this
        unfold b8s at this ⊢
        rw [List.map_take, List.map_drop]
        exact this
      have CG := Aside.mk cg
      have HGN : Aside (∀ G, G = getN ((b.drop 9).take 8) → 4611686018427387904 < G → openI b name index = none) := ⟨fun G hG h => openI_gen_none (by rw [← hG]; exact h)⟩
      clear hbad hq hw hcw hbn cg hb hname
      go_enter Tryz.func104, Tryz.ntmps104
      go_wp2_with fail
      refine (ref_get (some ⟨g, o + 9, none⟩) ((b.drop 9).take 8) 8 (c - 9) w (by rw [List.length_take, List.length_drop, HQ.out.2.2.2]; rfl) (by decide) (by decide) (fun y hy => HQ.out.2.2.1 y (List.mem_of_mem_drop (List.mem_of_mem_take hy))) CG.out).mono ?_
      rintro e w1 ⟨rfl, hw1⟩
      subst w1
      obtain ⟨G, hGe⟩ : ∃ G, G = getN ((b.drop 9).take 8) := ⟨_, rfl⟩
      have HGN2 := Aside.mk (HGN.out G hGe)
      rw [← hGe] at HO ⊢
      clear CG HGN hGe
      by_cases hG : 4611686018427387904 < (G : Int)
      · have HN : Aside (openI b name index = none ∧ Sat E w q) := ⟨HGN2.out (by omega), HQ.out.2.1⟩
        clear HO
        go_wp2
        go_ret3
        exact .inl ⟨HN.out.1, rfl, HN.out.2⟩
      · have c17a : (w.alloc (.cells #[] 5)).cell? ⟨g, o + 17, none⟩ = some (.int .u8 (x : Int)) := by
          rw [World.cell?_of_block (w := w) (heap_alloc_old w _ (World.block_lt_of_cell? w _ c17))]; exact c17
        have hpl : ((b.drop 18).take x).length = x := by rw [List.length_take, List.length_drop, HQ.out.2.2.2]; omega
        have cp : Cells w (some ⟨g, o + 18, none⟩) (b8s ((b.drop 18).take x)) := by
          have := ((HQ.out.1 _ HQ.out.2.1).drop 18).take x
          rw [addr_add] at this
          unfold b8s at this ⊢
          rw [List.map_take, List.map_drop]
          exact this
        have hpb : Bytes ((b.drop 18).take x) := fun y hy => HQ.out.2.2.1 y (List.mem_of_mem_drop (List.mem_of_mem_take hy))
        rw [Int.toNat_natCast] at HO
        obtain ⟨p, hp⟩ : ∃ p, p = (b.drop 18).take x := ⟨_, rfl⟩
        rw [← hp] at HO hpl cp hpb
        have HP1 := Aside.mk (And.intro hpl (And.intro cp (And.intro hpb (show (b8s p).length = (18 + x - 18) * 1 by rw [b8s_length, hpl, Nat.mul_one]; omega))))
        clear hpl cp hpb hp
        go_wp2_with (at_builtin; go_loud (refine wpList_append_row slB8 rfl rfl (by rfl) (by rfl) (((HQ.out.2.1.alloc _).right).row_nil _ _ _) (HP1.out.2.1.alloc _) HP1.out.2.2.2 (b8s_one _) (by unfold maxLen; omega) (by omega) (fun v4 w4 hw4 => ?_); have HW4 := Aside.mk hw4; clear hw4))
        have hw4 : Sat E w4 (HP.row 5 1 v4 x (b8s p) * q) := by
          have := HW4.out
          rw [Nat.zero_add, List.nil_append, Nat.add_sub_cancel_left] at this
          exact this
        obtain ⟨A4, c4, rfl, -, -⟩ := hw4.row_slice
        have HW := Aside.mk hw4
        clear HW4 hw4 c17 c17a
        have hx106 : x ≤ 106 := by omega
        by_cases hbad : index < 0 ∨ 2147483647 < index
        · have HN : Aside (openI b name index = none) := ⟨by rw [HO.out, if_pos (.inr (.inr hbad))]⟩
          refine (ref_frame_bad name index G (A4) x c4 w4 (by unfold FrameOk; omega)).mono ?_
          rintro e w5 ⟨rfl, hw5⟩
          subst w5
          clear HO hbad
          go_wp2
          go_ret3
          exact .inl ⟨HN.out, rfl, HW.out.right⟩
        · obtain ⟨ix, rfl⟩ := Int.eq_ofNat_of_zero_le (show 0 ≤ index by omega)
          rw [if_neg (by rw [HQ.out.2.2.2]; intro h; rcases h with h | h | h; exact h rfl; omega; exact hbad h), if_neg (by omega), Int.toNat_natCast] at HO
          refine (ref_frame E _ name ix G A4 p x c4 w4 HNM.out (by omega) (by omega) HP1.out.1 hx106 HP1.out.2.2.1 (fun w h => h.row_cells) HW.out).mono ?_
          rintro e w5 ⟨v, rfl, h5⟩
          obtain ⟨A5, c5, rfl, -, -⟩ := h5.row_slice
          have hIl : (extI name ix G p).length = 128 := extI_length (by rw [HP1.out.1]; exact hx106)
          have hIb : Bytes (extI name ix G p) := extI_bytes (by rw [HP1.out.1]; exact hx106) HP1.out.2.2.1
          obtain ⟨I, hIe⟩ : ∃ I, I = extI name ix G p := ⟨_, rfl⟩
          rw [← hIe] at HO hIl hIb h5
          have e0 := run_string_m (P := Tryz.prog) (c := c5) hIl Tryz.underlying28 Tryz.underlying5 Tryz.underlying9 h5.row_cells
          have e1 := run_string_m (P := Tryz.prog) (c := c) HQ.out.2.2.2 Tryz.underlying28 Tryz.underlying5 Tryz.underlying9 (HQ.out.1 _ h5.right.right)
          have e2 := strOf_eqb hIb HQ.out.2.2.1
          have H5 : Aside (Sat E w5 (HP.row 5 1 (.slice A4 x c4) p.length (b8s p) * q)) := ⟨by rw [HP1.out.1]; exact h5.right⟩
          clear h5 hIe hIl hIb HW hbad
          by_cases hb : I = b
          · rw [decide_eq_true hb] at e2
            have HE : Aside (openI b name ix = some (p, G)) := ⟨by rw [HO.out, if_neg (by simpa using hb)]⟩
            clear HO hb
            generalize strOf I = s0 at *
            generalize strOf b = s1 at *
            go_wp2
            go_ret3
            exact .inr ⟨p, G, _, HE.out, rfl, H5.out⟩
          · rw [decide_eq_false hb] at e2
            have HE : Aside (openI b name ix = none) := ⟨by rw [HO.out, if_pos hb]⟩
            clear HO hb
            generalize strOf I = s0 at *
            generalize strOf b = s1 at *
            go_wp2
            go_ret3
            exact .inl ⟨HE.out, rfl, H5.out.right⟩
  · have HN : Aside (openI b name index = none ∧ Sat E w q) := ⟨by unfold openI; rw [if_pos (.inl (by rw [hbn]; exact hlen))], hw⟩
    have h2 : ¬ (n : Int) = 128 := by omega
    clear hw hq hbn hb
    go_enter Tryz.func104, Tryz.ntmps104
    go_wp2
    go_ret3
    exact .inl ⟨HN.out.1, rfl, HN.out.2⟩
end Go.Proofs.YtcjcccbjgooooaaGreatDoor
/- pair.Drop, pair.Need. -/
namespace Go.Proofs.YtcjcccbjgooooaaGreatDoor
open Go.RowKit HP
set_option linter.unusedSimpArgs false
set_option linter.unusedVariables false

def dropL (A : Dk) : List ByteArray → Int × Dk
  | [] => (0, A)
  | f :: r => if (A.at f).length = 0 then dropL A r else if (A.remove f).1 = 0 then dropL (A.remove f).2 r else A.remove f
def dropP (A : Dk) (name : ByteArray) : Int × Dk := dropL A (halvesL name)
def needI (n : Int) : Int := if n ≤ 0 then 2 else 2 * ((n - 1) / 106 + 1)
end Go.Proofs.YtcjcccbjgooooaaGreatDoor
/- slices.Chunk: a slice's pieces come, one behind the other. -/
namespace Go.Proofs.YtcjcccbjgooooaaGreatDoor
open Go.RowKit Go.Shelf HP
set_option linter.unusedSimpArgs false
set_option linter.unusedVariables false
attribute [local go_sem] Oper.semAt_some

def chunkN (n : Nat) : Nat := (n + 105) / 106
def chunkM (n k : Nat) : Nat := min 106 (n - 106 * k)
def chunkV (g o n k : Nat) : Value := .slice (some ⟨g, o + 106 * k, none⟩) (chunkM n k) (chunkM n k)
def Keep2 (b1 b2 : Nat) (W W' : World) : Prop := W'.heap[b1]? = W.heap[b1]? ∧ W'.heap[b2]? = W.heap[b2]?
theorem Keep2.refl {b1 b2 : Nat} (W : World) : Keep2 b1 b2 W W := ⟨rfl, rfl⟩
theorem Keep2.trans {b1 b2 : Nat} {W X Y : World} (h : Keep2 b1 b2 W X) (k : Keep2 b1 b2 X Y) : Keep2 b1 b2 W Y := ⟨k.1.trans h.1, k.2.trans h.2⟩
theorem grows_drew (w : World) : w.grownBy w.drew none := ⟨rfl, rfl, rfl, Nat.le_refl _, fun _ _ _ => rfl⟩
end Go.Proofs.YtcjcccbjgooooaaGreatDoor
/- slices.AppendSeq and Collect over slices.Chunk. -/
namespace Go.Proofs.YtcjcccbjgooooaaGreatDoor
open Go.RowKit Go.Shelf HP
set_option linter.unusedSimpArgs false
set_option linter.unusedVariables false
attribute [local go_sem] Oper.semAt_some

theorem slSS : SlTy Tryz.prog 39 28 (.slice none 0 0) 1 24 := ⟨Tryz.underlying39, by kernel_rfl, rfl, by decide⟩
/-- What has been gathered: a box with a slice of an own array. -/
def HP.gath (bb : Nat) (l : List Value) : HP := HP.ex fun v => HP.pt bb (.cells #[v] 39) * HP.row 28 1 v l.length l
theorem HP.gath_solid {bb B : Nat} (h : bb < B) (l : List Value) : HP.Solid B (HP.gath bb l) := by
  rintro k ⟨v, hk⟩
  exact (HP.Solid.mul (HP.Solid.pt_below h _) ((HP.Celled.row _ _ _ _ _).solid B)) k hk
end Go.Proofs.YtcjcccbjgooooaaGreatDoor
/- pair.Store. -/
namespace Go.Proofs.YtcjcccbjgooooaaGreatDoor
open Go.RowKit HP
set_option linter.unusedSimpArgs false
set_option linter.unusedVariables false

/-- A text's pieces. -/
def piece (l : List Int) (k : Nat) : List Int := (l.drop (106 * k)).take 106
def piecesI (l : List Int) : List (List Int) := if l.length = 0 then [[]] else (List.range (chunkN l.length)).map (piece l)
def storeP (A : Dk) (name : ByteArray) (gen : Nat) (l : List Int) : Int × Dk := if (dropP A name).1 = 0 then wrP (dropP A name).2 name 0 gen (piecesI l) else dropP A name
theorem piece_length (l : List Int) (k : Nat) : (piece l k).length = chunkM l.length k := by
  unfold piece chunkM
  rw [List.length_take, List.length_drop]
def pieceS (g o : Nat) (l : List Int) (k : Nat) : Sl Int := ⟨some ⟨g, o + 106 * k, none⟩, chunkM l.length k, piece l k⟩
theorem pieceS_val (g o : Nat) (l : List Int) (k : Nat) : (pieceS g o l k).val8 = chunkV g o l.length k := by
  unfold Sl.val8 pieceS chunkV
  rw [piece_length]
end Go.Proofs.YtcjcccbjgooooaaGreatDoor
/- pair.Get. -/
namespace Go.Proofs.YtcjcccbjgooooaaGreatDoor
open Go.RowKit HP
set_option linter.unusedSimpArgs false
set_option linter.unusedVariables false

/-- A half read: what is best so far. -/
def getF (A : Dk) (i : Int) (st : Int × List Int) (f : ByteArray) : Int × List Int :=
  match A.cel f i with
  | none => st
  | some c => match openI c.read f i with
    | none => st
    | some x => if (x.2 : Int) ≤ st.1 then st else ((x.2 : Int), x.1)
def getP (A : Dk) (name : ByteArray) (i : Int) : Int × List Int := (halvesL name).foldl (getF A i) (-1, [])
theorem openI_gen {b : List Int} {f : ByteArray} {i : Int} {p : List Int} {g : Nat} (h : openI b f i = some (p, g)) : (g : Int) ≤ 4611686018427387904 ∧ p.length ≤ 106 := by
  unfold openI at h
  split at h
  · cases h
  · split at h
    · cases h
    · split at h
      · cases h
      · rename_i h1 h2 h3
        simp only [Option.some.injEq, Prod.mk.injEq] at h
        obtain ⟨rfl, rfl⟩ := h
        refine ⟨by omega, ?_⟩
        rw [List.length_take]
        omega
def getEnd (st : Int × List Int) (v : Value) : Ending := if st.1 < 0 then .returned (.tuple #[.slice none 0 0, .int .i64 0, .int .i64 50]) else .returned (.tuple #[v, .int .i64 st.1, .int .i64 0])
set_option maxHeartbeats 2000000 in
set_option maxRecDepth 100000 in
theorem pair_get (E : Env) (q : HP) (d : Nat) (A : Dk) (name : ByteArray) (i : Int) (w : World) (hname : name.size + 2 ≤ maxLen) (hby : ∀ f ∈ halvesL name, ∀ c, A.cel f i = some c → Bytes c.read)
    (hq : ∀ w, Sat E w q → Quarter w) (hw : Sat E w (HP.disk d A * q)) :
    Calls Tryz.prog 127 #[.pointer (some ⟨d, 0, none⟩), .string name, .int .i64 i] w fun e w' => ∃ v, e = getEnd (getP A name i) v ∧ Sat E w' (HP.row 5 1 v (getP A name i).2.length (b8s (getP A name i).2) * (HP.disk d A * q)) := by
  have hfa : (name ++ dotA).size ≤ maxLen := by rw [dotA_size]; exact hname
  have hfb : (name ++ dotB).size ≤ maxLen := by rw [dotB_size]; exact hname
  have HF : Aside (halvesL name = [name ++ dotA, name ++ dotB]) := ⟨rfl⟩
  have HQ := Aside.mk (And.intro hq (And.intro hby hw))
  clear hq hw hby
  go_enter Tryz.func127, Tryz.ntmps127
  go_wp2_with fail
  refine (pair_none E q d A _ HQ.out.2.2).mono ?_
  rintro e w1 ⟨rfl, k1⟩
  have K1 := Aside.mk k1
  clear k1
  go_wp2_with fail
  refine (pair_halves E _ name _ hname K1.out).mono ?_
  rintro e w2 ⟨rfl, k2⟩
  obtain ⟨fa, hfae⟩ : ∃ fa, fa = name ++ dotA := ⟨_, rfl⟩
  obtain ⟨fb, hfbe⟩ : ∃ fb, fb = name ++ dotB := ⟨_, rfl⟩
  rw [← hfae] at hfa HF ⊢
  rw [← hfbe] at hfb HF ⊢
  clear hfae hfbe
  have K2 := Aside.mk (k2.row_nil 5 1 none)
  clear k2 K1
  have i0 : ∀ w, (Instr.index 73 (.agg #[.string fa, .string fb]) (.int .i64 0)).run Tryz.prog w = .ok (.string fa) w := fun w => by kernel_rfl
  have i1 : ∀ w, (Instr.index 73 (.agg #[.string fa, .string fb]) (.int .i64 1)).run Tryz.prog w = .ok (.string fb) w := fun w => by kernel_rfl
  go_wp2
  go_loopw [9, 10, 21] (fun v9 v10 v21 wr => ∃ (h : Nat) (best : Int) (p : List Int), h ≤ 2 ∧ v21 = .int .i64 h ∧ v9 = .int .i64 best ∧ best ≤ 4611686018427387904 ∧ -1 ≤ best ∧ p.length ≤ 106 ∧ Aside ((((halvesL name).drop h).foldl (getF A i) (best, p)) = getP A name i) ∧ Aside (Sat E wr (HP.row 5 1 v10 p.length (b8s p) * (HP.disk d A * q)))) (fun _ _ i _ => 2 - (intOf i).toNat)
  case atStart => exact ⟨0, -1, [], by omega, rfl, rfl, by omega, by omega, by simp, ⟨rfl⟩, K2⟩
  case round =>
    obtain ⟨h, best, p, hh, rfl, rfl, hb1, hb2, hpl, HG, HS⟩ := hrel
    by_cases hlt : h < 2
    · obtain ⟨f, hf, hfm, hff, hix⟩ : ∃ f : ByteArray, f.size ≤ maxLen ∧ f ∈ halvesL name ∧ (halvesL name).drop h = f :: (halvesL name).drop (h + 1) ∧ ∀ w, (Instr.index 73 (.agg #[.string fa, .string fb]) (.int .i64 (h : Int))).run Tryz.prog w = .ok (.string f) w := by
        rw [HF.out]
        rcases Nat.lt_or_ge h 1 with h0 | h0
        · obtain rfl : h = 0 := by omega
          exact ⟨fa, hfa, by simp, rfl, i0⟩
        · obtain rfl : h = 1 := by omega
          exact ⟨fb, hfb, by simp, rfl, i1⟩
      rw [hff, List.foldl_cons] at HG
      clear hff
      have hlt2 : (h : Int) < 2 := by omega
      have hby := HQ.out.2.1 f hfm
      clear hfm
      clear i0 i1
      go_wp2_with fail
      refine (disk_read_ok E _ d A f i _ hf HS.out.s2).mono ?_
      intro e w3 h3
      unfold readEnd at h3
      cases hc : A.cel f i with
      | none =>
        rw [hc] at h3
        obtain ⟨rfl, h3⟩ := h3
        have HG2 : Aside (((halvesL name).drop (h + 1)).foldl (getF A i) (best, p) = getP A name i) := ⟨by rw [← HG.out]; simp only [getF, hc]⟩
        have H3 := Aside.mk h3.s2
        clear h3 hc HG hby HS
        go_wp2
        go_roundw
        case rel => exact ⟨h + 1, best, p, by omega, by push_cast; rfl, rfl, hb1, hb2, hpl, HG2, H3⟩
        case measure => simp [intOf]; omega
      | some cl =>
        rw [hc] at h3
        obtain ⟨vr, rfl, h3⟩ := h3
        have hbr := hby cl hc
        obtain ⟨Ar, cr, rfl, hcr, -⟩ := h3.row_slice
        have hl128 : cl.read.length = 128 := by
          have := h3.row_cases.1
          rw [b8s_length] at this
          exact this
        have HC : Aside (getF A i (best, p) f = match openI cl.read f i with
            | none => (best, p)
            | some x => if (x.2 : Int) ≤ best then (best, p) else ((x.2 : Int), x.1)) := ⟨by simp only [getF, hc]⟩
        have H3 := Aside.mk (And.intro h3 (And.intro hbr hl128))
        clear h3 hbr hl128 hc hby HS
        go_wp2_with fail
        refine (ext_open E _ f i Ar cl.read 128 cr _ hf H3.out.2.2 hcr H3.out.2.1 (fun w h => ⟨HQ.out.1 _ h.right.right.right, h.row_cells⟩) H3.out.1).mono ?_
        rintro e w4 (⟨ho, rfl, h4⟩ | ⟨p2, G, vp, ho, rfl, h4⟩)
        · rw [ho] at HC
          rw [HC.out] at HG
          have H4 := Aside.mk (h4.right.s2)
          clear h4 ho HC H3
          go_wp2
          go_roundw
          case rel => exact ⟨h + 1, best, p, by omega, by push_cast; rfl, rfl, hb1, hb2, hpl, HG, H4⟩
          case measure => simp [intOf]; omega
        · obtain ⟨hG1, hp2⟩ := openI_gen ho
          rw [ho] at HC
          dsimp only at HC
          by_cases hle : (G : Int) ≤ best
          · rw [if_pos hle] at HC
            rw [HC.out] at HG
            have H4 := Aside.mk (h4.right.right.s2)
            clear h4 ho HC H3
            go_wp2
            go_roundw
            case rel => exact ⟨h + 1, best, p, by omega, by push_cast; rfl, rfl, hb1, hb2, hpl, HG, H4⟩
            case measure => simp [intOf]; omega
          · rw [if_neg hle] at HC
            rw [HC.out] at HG
            obtain ⟨A2, c2, rfl, -, -⟩ := h4.row_slice
            have H4 := Aside.mk h4
            clear h4 ho HC H3
            obtain ⟨m, hm⟩ : ∃ m, m = p2.length := ⟨_, rfl⟩
            rw [← hm] at H4 hp2 ⊢
            have HM := Aside.mk hm
            clear hm
            have hle2 : best < (G : Int) := by omega
            clear hle
            go_wp2_with (first
              | (refine wpList_make_row (n := m) slB8 rfl rfl rfl rfl rfl H4.out (by unfold maxLen; omega) (by omega) (fun g w5 hw5 => ?_); have HW5 := Aside.mk hw5; clear hw5)
              | (at_builtin; fail)
              | (refine wpList_copy_sat Tryz.underlying28 (by kernel_rfl) rfl rfl rfl rfl HW5.out (by rw [b8s_length]; exact HM.out.symm) (HW5.out.right.row_cells) (b8s_one _) (fun w6 hw6 => ?_); have HW6 := Aside.mk hw6; clear hw6))
            have HW7 : Aside (Sat E w6 (HP.row 5 1 (.slice (some ⟨g, 0, none⟩) m m) p2.length (b8s p2) * (HP.disk d A * q))) := ⟨by
              have h7 := HW6.out.drop2.drop2
              rw [List.take_of_length_le (by rw [b8s_length, ← HM.out]; exact Nat.le_refl _), List.drop_of_length_le (by simp), List.append_nil] at h7
              have h8 : Sat E w6 (HP.row 5 1 u10 p.length (b8s p) * (HP.row 5 1 (.slice (some ⟨g, 0, none⟩) m m) m (b8s p2) * (HP.disk d A * q))) := h7.perm (by ac_rfl)
              rw [← HM.out]
              exact h8.right⟩
            clear HW5 HW6 H4
            go_wp2
            go_roundw
            case rel => exact ⟨h + 1, (G : Int), p2, by omega, by push_cast; rfl, rfl, hG1, by omega, by rw [← HM.out]; omega, HG, HW7⟩
            case measure => simp [intOf]; omega
    · have hh2 : h = 2 := by omega
      subst hh2
      rw [HF.out] at HG
      have HX : Aside (getP A name i = (best, p)) := ⟨HG.out.symm⟩
      clear HG i0 i1
      by_cases hneg : best < 0
      · go_wp2
        go_ret3
        rw [HX.out]
        exact ⟨_, by unfold getEnd; rw [if_pos hneg]; rfl, HS.out⟩
      · go_wp2
        go_ret3
        rw [HX.out]
        exact ⟨_, by unfold getEnd; rw [if_neg (by show ¬ best < 0; omega)]; rfl, HS.out⟩
end Go.Proofs.YtcjcccbjgooooaaGreatDoor
/- What is framed is opened; two extents written and read. -/
namespace Go.Proofs.YtcjcccbjgooooaaGreatDoor
open Go.RowKit HP
set_option linter.unusedSimpArgs false
set_option linter.unusedVariables false

theorem extI_parts {f : ByteArray} {i g : Nat} {p : List Int} (h : p.length ≤ 106) :
    (extI f i g p).getD 17 0 = p.length ∧ ((extI f i g p).drop 9).take 8 = putI g 8 ∧ ((extI f i g p).drop 18).take p.length = p := by
  have e : extI f i g p = ([229] ++ putI (crcSum (strB f)) 4 ++ putI i 4) ++ (putI g 8 ++ ((p.length : Int) :: (p ++ (List.replicate (106 - p.length) 0 ++ putI (crcSum (extH f i g p)) 4)))) := by
    unfold extI
    conv => lhs; arg 1; unfold extH
    simp only [List.append_assoc, List.cons_append, List.nil_append]
  have l1 : ([229] ++ putI (crcSum (strB f)) 4 ++ putI i 4 : List Int).length = 9 := by simp [putI_length]
  have d9 : (extI f i g p).drop 9 = putI g 8 ++ ((p.length : Int) :: (p ++ (List.replicate (106 - p.length) 0 ++ putI (crcSum (extH f i g p)) 4))) := by
    rw [e, ← l1, List.drop_left]
  have d17 : (extI f i g p).drop 17 = (p.length : Int) :: (p ++ (List.replicate (106 - p.length) 0 ++ putI (crcSum (extH f i g p)) 4)) := by
    rw [show 17 = 9 + 8 from rfl, ← List.drop_drop, d9, List.drop_left' (putI_length g 8)]
  refine ⟨?_, ?_, ?_⟩
  · have := congrArg (fun l => l[0]?) d17
    simp only [List.getElem?_drop, Nat.add_zero, List.getElem?_cons_zero] at this
    simp [List.getD, this]
  · rw [d9]
    have := putI_length g 8
    rw [List.take_append_of_le_length (by omega), List.take_of_length_le (by omega)]
  · rw [show 18 = 17 + 1 from rfl, ← List.drop_drop, d17, List.drop_one, List.tail_cons, List.take_left]
theorem openI_extI {f : ByteArray} {i g : Nat} {p : List Int} (hi : i ≤ 2147483647) (hg : g ≤ 4611686018427387904) (h : p.length ≤ 106) : openI (extI f i g p) f i = some (p, g) := by
  obtain ⟨h1, h2, h3⟩ := extI_parts (f := f) (i := i) (g := g) h
  unfold openI
  rw [h1, h2, Int.toNat_natCast, Int.toNat_natCast, h3, getN_putI 8 g (by omega)]
  rw [if_neg (by rw [extI_length h]; omega), if_neg (by omega), if_neg (by simp)]

def stl (I : List Int) : Cel := ⟨I, I, I, I, false⟩
theorem stl_sync (c : Cel) (I : List Int) : (c.wrote I).syncd = stl I := rfl
structure TwoNames (fa fb : ByteArray) : Prop where
  na : namedB fa = true
  nb : namedB fb = true
  ne : fa ≠ fb
  lt : ltN fa fb = true
  gt : ltN fb fa = false
def wr1 (A : Dk) (f : ByteArray) (i : Int) (I : List Int) : Int × Dk := if (A.write f i I).1 = 0 then (A.write f i I).2.sync f else A.write f i I
def put2 (A : Dk) (fa fb : ByteArray) (i : Int) (Ia Ib : List Int) : Int × Dk :=
  if (wr1 A fa i Ia).1 = 0 then (if (wr1 (wr1 A fa i Ia).2 fb i Ib).1 = 0 then (0, (wr1 (wr1 A fa i Ia).2 fb i Ib).2) else wr1 (wr1 A fa i Ia).2 fb i Ib) else wr1 A fa i Ia
theorem wrF_one {A : Dk} {f : ByteArray} {i g : Nat} {p : List Int} (hf : FrameOk i g p.length) : wrF A f g i [p] = wr1 A f i (extI f i g p) := by
  unfold wrF wr1
  rw [if_neg (by simpa using hf)]
  rfl
def two (room fuse : Int) (fa fb : ByteArray) (a b : Cel) : Dk := ⟨room, fuse, [(fa, [a]), (fb, [b])]⟩
section
variable {fa fb : ByteArray} {Ia Ib : List Int} (T : TwoNames fa fb) (la : Ia.length = 128) (lb : Ib.length = 128)
include T la lb
theorem put_first : put2 (Dk.new 4) fa fb 0 Ia Ib = (0, two 4 (-1) fa fb (stl Ia) (stl Ib)) := by
  obtain ⟨na, nb, ne, lt, gt⟩ := T
  have ne' := Ne.symm ne
  simp [put2, wr1, Dk.write, Dk.sync, Dk.new, Dk.at, Dk.free, Dk.goes, Dk.burnt, burnI, Dk.set, lk_nil, lk_cons, putF, sizeF, na, nb, ne, ne', lt, gt, la, lb, stl_sync, two]
theorem put_first2 : put2 (Dk.new 2) fa fb 0 Ia Ib = (0, two 2 (-1) fa fb (stl Ia) (stl Ib)) := by
  obtain ⟨na, nb, ne, lt, gt⟩ := T
  have ne' := Ne.symm ne
  simp [put2, wr1, Dk.write, Dk.sync, Dk.new, Dk.at, Dk.free, Dk.goes, Dk.burnt, burnI, Dk.set, lk_nil, lk_cons, putF, sizeF, na, nb, ne, ne', lt, gt, la, lb, stl_sync, two]
end
theorem cel_a {room fuse : Int} {fa fb : ByteArray} {a b : Cel} : (two room fuse fa fb a b).cel fa 0 = some a := by simp [two, Dk.cel, Dk.at, lk_cons]
theorem cel_b {room fuse : Int} {fa fb : ByteArray} {a b : Cel} (h : fa ≠ fb) : (two room fuse fa fb a b).cel fb 0 = some b := by simp [two, Dk.cel, Dk.at, lk_cons, h]
/-- Of two halves that are right the greater generation counts; of two alike the first. -/
theorem get_two {x : ByteArray} (h : x ++ dotA ≠ x ++ dotB) {room fuse : Int} {ca cb : Cel} {ga gb : Nat} (ha : ga ≤ 4611686018427387904) (hb : gb ≤ 4611686018427387904) {pa pb : List Int} (la : pa.length ≤ 106) (lb : pb.length ≤ 106)
    (ra : ca.read = extI (x ++ dotA) 0 ga pa) (rb : cb.read = extI (x ++ dotB) 0 gb pb) :
    getP (two room fuse (x ++ dotA) (x ++ dotB) ca cb) x 0 = if (gb : Int) ≤ ga then ((ga : Int), pa) else ((gb : Int), pb) := by
  have oa := openI_extI (f := x ++ dotA) (i := 0) (by omega) ha la
  have ob := openI_extI (f := x ++ dotB) (i := 0) (by omega) hb lb
  simp only [Int.ofNat_zero, Int.natCast_zero] at oa ob
  rw [← ra] at oa
  rw [← rb] at ob
  unfold getP halvesL
  simp only [List.foldl_cons, List.foldl_nil]
  rw [show getF _ 0 (-1, []) (x ++ dotA) = ((ga : Int), pa) by simp only [getF, cel_a, oa]; rw [if_neg (by show ¬ (ga : Int) ≤ -1; omega)]]
  simp only [getF, cel_b h, ob]
def exS : ByteArray := ⟨#[120]⟩
theorem twoEx : TwoNames (exS ++ dotA) (exS ++ dotB) := ⟨by kernel_rfl, by kernel_rfl, by decide, by kernel_rfl, by kernel_rfl⟩
end Go.Proofs.YtcjcccbjgooooaaGreatDoor
/- Payloads written behind a file of a disk that has room. -/
namespace Go.Proofs.YtcjcccbjgooooaaGreatDoor
open Go.RowKit HP
set_option linter.unusedSimpArgs false
set_option linter.unusedVariables false

theorem goes_ever {A : Dk} (h : A.fuse = -1) : A.goes = true := by simp [Dk.goes, burnI, h]
theorem burnt_ever {A : Dk} (h : A.fuse = -1) : A.burnt = A := by
  obtain ⟨r, f, fs⟩ := A
  simp only at h
  subst h
  rfl
theorem write_end {A : Dk} {f : ByteArray} {I : List Int} (hn : namedB f = true) (hl : I.length = 128) (he : A.fuse = -1) (hf : 0 < A.free) : A.write f ((A.at f).length : Int) I = (0, A.set f (A.at f ++ [Cel.zero.wrote I])) := by
  unfold Dk.write
  rw [if_neg (by rw [hn, hl]; simp), if_neg (by rw [goes_ever he]; simp), if_neg (by omega), if_pos rfl, burnt_ever he]
theorem at_some {A : Dk} {f : ByteArray} (h : 0 < (A.at f).length) : lk A.files f = some (A.at f) := by
  unfold Dk.at at h ⊢
  cases hk : lk A.files f with
  | none => rw [hk] at h; simp at h
  | some l => rfl
structure Fresh (A B : Dk) (f : ByteArray) (m : Nat) : Prop where
  sorted : Sorted B.files
  fuse : B.fuse = -1
  room : B.room = A.room
  size : sizeF B.files = sizeF A.files + m
  others : ∀ t, f ≠ t → B.at t = A.at t
theorem set_fresh {A : Dk} {f : ByteArray} {l : List Cel} {m : Nat} (hs : Sorted A.files) (he : A.fuse = -1) (hl : l.length = (A.at f).length + m) : Fresh A (A.set f l) f m :=
  ⟨sorted_put f l hs, he, rfl, by
    have := sizeF_put hs f l
    have h2 : ((lk A.files f).getD []).length = (A.at f).length := rfl
    show sizeF (putF A.files f l) = _
    omega, fun t ht => by rw [at_set hs l, if_neg ht]⟩
theorem wrF_fresh {f : ByteArray} {gen : Nat} (hn : namedB f = true) (hg : (gen : Int) ≤ 4611686018427387904) : ∀ (ps : List (List Int)) (A : Dk) (i : Nat), Sorted A.files → A.fuse = -1 → (A.at f).length = i → (ps.length : Int) ≤ A.free → (∀ p ∈ ps, p.length ≤ 106) → i + ps.length ≤ 2147483647 → 0 < i + ps.length →
    ∃ B, wrF A f gen i ps = (0, B) ∧ Fresh A B f ps.length ∧ (B.at f).length = i + ps.length
  | [], A, i, hs, he, hi, _, _, _, h0 => by
    have hl := at_some (A := A) (f := f) (by rw [hi]; simpa using h0)
    refine ⟨_, sync_some hl (goes_ever he), ?_, ?_⟩
    · rw [burnt_ever he]
      exact set_fresh hs he (by rw [List.length_map]; rfl)
    · rw [burnt_ever he, at_set hs, if_pos rfl, List.length_map, hi]; rfl
  | p :: ps, A, i, hs, he, hi, hf, hp, hm, _ => by
    have hpl := hp p (List.mem_cons_self ..)
    simp only [List.length_cons] at hf hm
    have hfo : FrameOk (i : Int) gen p.length := ⟨by omega, by omega, by omega, hg, hpl⟩
    have hw : A.write f (i : Int) (extI f i gen p) = (0, A.set f (A.at f ++ [Cel.zero.wrote (extI f i gen p)])) := by
      have := write_end (A := A) (f := f) (I := extI f i gen p) hn (extI_length hpl) he (by omega)
      rw [hi] at this
      exact this
    have h1 := set_fresh (A := A) (f := f) (l := A.at f ++ [Cel.zero.wrote (extI f i gen p)]) (m := 1) hs he (by rw [List.length_append]; rfl)
    have hlen : ((A.set f (A.at f ++ [Cel.zero.wrote (extI f i gen p)])).at f).length = i + 1 := by rw [at_set hs, if_pos rfl, List.length_append, hi]; rfl
    obtain ⟨B, hB, hF, hBl⟩ := wrF_fresh hn hg ps (A.set f (A.at f ++ [Cel.zero.wrote (extI f i gen p)])) (i + 1) h1.sorted h1.fuse hlen (by
      have := h1.size
      show (ps.length : Int) ≤ (A.set f _).room - _
      unfold Dk.free at hf
      have h2 := h1.room
      omega) (fun x hx => hp x (List.mem_cons_of_mem _ hx)) (by omega) (by omega)
    refine ⟨B, ?_, ⟨hF.sorted, hF.fuse, hF.room.trans h1.room, ?_, fun t ht => (hF.others t ht).trans (h1.others t ht)⟩, by rw [hBl, List.length_cons]; omega⟩
    · unfold wrF
      rw [if_neg (by simpa using hfo), hw, if_pos rfl]
      exact hB
    · rw [hF.size, h1.size, List.length_cons]; omega
end Go.Proofs.YtcjcccbjgooooaaGreatDoor
/- A disk on which both halves hold pieces. -/
namespace Go.Proofs.YtcjcccbjgooooaaGreatDoor
open Go.RowKit HP
set_option linter.unusedSimpArgs false
set_option linter.unusedVariables false

def newCels (f : ByteArray) (gen : Nat) : Nat → List (List Int) → List Cel
  | _, [] => []
  | i, p :: ps => Cel.zero.wrote (extI f i gen p) :: newCels f gen (i + 1) ps
theorem wrF_cels {f : ByteArray} {gen : Nat} (hn : namedB f = true) (hg : (gen : Int) ≤ 4611686018427387904) : ∀ (ps : List (List Int)) (A : Dk) (i : Nat), Sorted A.files → A.fuse = -1 → (A.at f).length = i → (ps.length : Int) ≤ A.free → (∀ p ∈ ps, p.length ≤ 106) → i + ps.length ≤ 2147483647 → 0 < i + ps.length →
    (wrF A f gen i ps).2.at f = (A.at f ++ newCels f gen i ps).map Cel.syncd
  | [], A, i, hs, he, hi, _, _, _, h0 => by
    have hl := at_some (A := A) (f := f) (by rw [hi]; simpa using h0)
    show (A.sync f).2.at f = _
    rw [sync_some hl (goes_ever he), burnt_ever he, at_set hs, if_pos rfl]
    simp [newCels]
  | p :: ps, A, i, hs, he, hi, hf, hp, hm, _ => by
    have hpl := hp p (List.mem_cons_self ..)
    simp only [List.length_cons] at hf hm
    have hfo : FrameOk (i : Int) gen p.length := ⟨by omega, by omega, by omega, hg, hpl⟩
    have hw : A.write f (i : Int) (extI f i gen p) = (0, A.set f (A.at f ++ [Cel.zero.wrote (extI f i gen p)])) := by
      have := write_end (A := A) (f := f) (I := extI f i gen p) hn (extI_length hpl) he (by omega)
      rw [hi] at this
      exact this
    have h1 := set_fresh (A := A) (f := f) (l := A.at f ++ [Cel.zero.wrote (extI f i gen p)]) (m := 1) hs he (by rw [List.length_append]; rfl)
    have hlen : ((A.set f (A.at f ++ [Cel.zero.wrote (extI f i gen p)])).at f).length = i + 1 := by rw [at_set hs, if_pos rfl, List.length_append, hi]; rfl
    have hB := wrF_cels hn hg ps (A.set f (A.at f ++ [Cel.zero.wrote (extI f i gen p)])) (i + 1) h1.sorted h1.fuse hlen (by
      have := h1.size
      show (ps.length : Int) ≤ (A.set f _).room - _
      unfold Dk.free at hf
      have h2 := h1.room
      omega) (fun x hx => hp x (List.mem_cons_of_mem _ hx)) (by omega) (by omega)
    unfold wrF
    rw [if_neg (by simpa using hfo), hw, if_pos rfl, hB, at_set hs, if_pos rfl]
    simp [newCels]
theorem newCels_get {f : ByteArray} {gen : Nat} : ∀ (ps : List (List Int)) (i k : Nat) (p : List Int), ps[k]? = some p → (newCels f gen i ps)[k]? = some (Cel.zero.wrote (extI f (i + k) gen p))
  | [], i, k, p, h => by simp at h
  | q :: ps, i, 0, p, h => by
    simp only [List.getElem?_cons_zero, Option.some.injEq] at h
    subst h
    rfl
  | q :: ps, i, k + 1, p, h => by
    have := newCels_get (f := f) (gen := gen) ps (i + 1) k p (by simpa using h)
    rw [show i + 1 + k = i + (k + 1) by omega] at this
    simpa [newCels] using this
theorem newCels_length {f : ByteArray} {gen : Nat} : ∀ (ps : List (List Int)) (i : Nat), (newCels f gen i ps).length = ps.length
  | [], _ => rfl
  | _ :: ps, i => by
    show (newCels f gen (i + 1) ps).length + 1 = ps.length + 1
    rw [newCels_length ps]
/-- A disk on which both halves hold these pieces, of one generation. -/
structure Holds (B : Dk) (x : ByteArray) (gen : Nat) (ps : List (List Int)) : Prop where
  a : B.at (x ++ dotA) = (newCels (x ++ dotA) gen 0 ps).map Cel.syncd
  b : B.at (x ++ dotB) = (newCels (x ++ dotB) gen 0 ps).map Cel.syncd
theorem held_cel {B : Dk} {f : ByteArray} {gen k : Nat} {ps : List (List Int)} {p : List Int} (h : B.at f = (newCels f gen 0 ps).map Cel.syncd) (hp : ps[k]? = some p) : B.cel f (k : Int) = some (stl (extI f k gen p)) := by
  unfold Dk.cel
  rw [if_pos (by omega), Int.toNat_natCast, h, List.getElem?_map, newCels_get ps 0 k p hp, Nat.zero_add]
  rfl
theorem held_get {B : Dk} {x : ByteArray} {gen k : Nat} {ps : List (List Int)} {p : List Int} (h : Holds B x gen ps) (hg : gen ≤ 4611686018427387904) (hk : k ≤ 2147483647) (hp : ps[k]? = some p) (hl : p.length ≤ 106) : getP B x (k : Int) = ((gen : Int), p) := by
  have oa := openI_extI (f := x ++ dotA) (i := k) hk hg hl
  have ob := openI_extI (f := x ++ dotB) (i := k) hk hg hl
  unfold getP halvesL
  simp only [List.foldl_cons, List.foldl_nil]
  rw [show getF B k (-1, []) (x ++ dotA) = ((gen : Int), p) by simp only [getF, held_cel h.a hp, stl, oa]; rw [if_neg (by show ¬ (gen : Int) ≤ -1; omega)]]
  simp only [getF, held_cel h.b hp, stl, ob]
  rw [if_pos (Int.le_refl _)]
end Go.Proofs.YtcjcccbjgooooaaGreatDoor
/- What a disk reads at a place. -/
namespace Go.Proofs.YtcjcccbjgooooaaGreatDoor
open Go.RowKit HP

/-- What a disk reads at a place. -/
def readO (A : Dk) (f : ByteArray) (i : Int) : List Int := match A.cel f i with | some c => c.read | none => []
end Go.Proofs.YtcjcccbjgooooaaGreatDoor
/- pair.Mend, in plain words: both halves made the better one. -/
namespace Go.Proofs.YtcjcccbjgooooaaGreatDoor
open Go.RowKit HP
set_option linter.unusedSimpArgs false
set_option linter.unusedVariables false

/-- Each half that reads otherwise than the better one is written, and synced. -/
def mendL (i g : Nat) (p : List Int) (wrote : Bool) (A : Dk) : List ByteArray → (Bool × Int) × Dk
  | [] => ((wrote, 0), A)
  | f :: r =>
    if readO A f i = extI f i g p then mendL i g p wrote A r
    else if (A.write f i (extI f i g p)).1 = 0 then
      if ((A.write f i (extI f i g p)).2.sync f).1 = 0 then mendL i g p true ((A.write f i (extI f i g p)).2.sync f).2 r
      else ((false, ((A.write f i (extI f i g p)).2.sync f).1), ((A.write f i (extI f i g p)).2.sync f).2)
    else ((false, (A.write f i (extI f i g p)).1), (A.write f i (extI f i g p)).2)
theorem mendL_nil (i g : Nat) (p : List Int) (wrote : Bool) (A : Dk) : mendL i g p wrote A [] = ((wrote, 0), A) := rfl
theorem mendL_cons (i g : Nat) (p : List Int) (wrote : Bool) (A : Dk) (f : ByteArray) (r : List ByteArray) : mendL i g p wrote A (f :: r) =
    if readO A f i = extI f i g p then mendL i g p wrote A r
    else if (A.write f i (extI f i g p)).1 = 0 then
      if ((A.write f i (extI f i g p)).2.sync f).1 = 0 then mendL i g p true ((A.write f i (extI f i g p)).2.sync f).2 r
      else ((false, ((A.write f i (extI f i g p)).2.sync f).1), ((A.write f i (extI f i g p)).2.sync f).2)
    else ((false, (A.write f i (extI f i g p)).1), (A.write f i (extI f i g p)).2) := rfl
def mendP (A : Dk) (name : ByteArray) (i : Int) : (Bool × Int) × Dk :=
  if (getP A name i).1 < 0 then ((false, 50), A) else mendL i.toNat (getP A name i).1.toNat (getP A name i).2 false A (halvesL name)
theorem openI_index {b : List Int} {f : ByteArray} {i : Int} {x : List Int × Nat} (h : openI b f i = some x) : 0 ≤ i ∧ i ≤ 2147483647 := by
  unfold openI at h
  split at h
  · cases h
  · rename_i h1
    omega
structure GotOk (i : Int) (st : Int × List Int) : Prop where
  place : 0 ≤ st.1 → 0 ≤ i ∧ i ≤ 2147483647
  gen : st.1 ≤ 4611686018427387904
  len : st.2.length ≤ 106
theorem getF_ok {A : Dk} {i : Int} {st : Int × List Int} {f : ByteArray} (h : GotOk i st) : GotOk i (getF A i st f) := by
  unfold getF
  cases A.cel f i with
  | none => exact h
  | some c =>
    dsimp only
    cases ho : openI c.read f i with
    | none => exact h
    | some x =>
      dsimp only
      split
      · exact h
      · have h1 := openI_gen (p := x.1) (g := x.2) ho
        exact ⟨fun _ => openI_index ho, h1.1, h1.2⟩
theorem getP_ok (A : Dk) (name : ByteArray) (i : Int) : GotOk i (getP A name i) := by
  unfold getP halvesL
  exact getF_ok (getF_ok ⟨fun h => absurd h (by show ¬ (0 : Int) ≤ -1; omega), by show (-1 : Int) ≤ _; omega, by show 0 ≤ 106; omega⟩)
theorem getF_byt {A : Dk} {i : Int} {st : Int × List Int} {f : ByteArray} (hs : Bytes st.2) (hb : ∀ c, A.cel f i = some c → Bytes c.read) : Bytes (getF A i st f).2 := by
  unfold getF
  cases hc : A.cel f i with
  | none => exact hs
  | some c =>
    dsimp only
    cases ho : openI c.read f i with
    | none => exact hs
    | some x =>
      dsimp only
      split
      · exact hs
      · have h := ho
        unfold openI at h
        split at h
        · cases h
        · split at h
          · cases h
          · split at h
            · cases h
            · simp only [Option.some.injEq] at h
              rw [← h]
              exact fun y hy => hb c hc y (List.mem_of_mem_drop (List.mem_of_mem_take hy))
theorem getP_byt {A : Dk} {name : ByteArray} {i : Int} (hb : ∀ f ∈ halvesL name, ∀ c, A.cel f i = some c → Bytes c.read) : Bytes (getP A name i).2 := by
  unfold getP halvesL
  exact getF_byt (getF_byt (fun x hx => by cases hx) (hb _ (List.mem_cons_self ..))) (hb _ (List.mem_cons_of_mem _ (List.mem_cons_self ..)))
theorem halves_ne (x : ByteArray) : x ++ dotA ≠ x ++ dotB := fun h => by
  have h1 : (x ++ dotA).data = (x ++ dotB).data := by rw [h]
  rw [ByteArray.data_append, ByteArray.data_append] at h1
  have h2 := congrArg Array.toList h1
  simp only [Array.toList_append, List.append_cancel_left_eq] at h2
  exact absurd h2 (by decide)
theorem write_at_ne {A : Dk} (hs : Sorted A.files) {f t : ByteArray} (ht : f ≠ t) (i : Int) (b : List Int) : (A.write f i b).2.at t = A.at t := by
  unfold Dk.write
  have hs2 : Sorted A.burnt.files := hs
  split
  · rfl
  · split
    · rfl
    · split
      · rfl
      · split
        · show (A.burnt.set f _).at t = _
          rw [at_set hs2, if_neg ht]; rfl
        · show (A.burnt.set f _).at t = _
          rw [at_set hs2, if_neg ht]; rfl
theorem sync_at_ne {A : Dk} (hs : Sorted A.files) {f t : ByteArray} (ht : f ≠ t) : (A.sync f).2.at t = A.at t := by
  unfold Dk.sync
  have hs2 : Sorted A.burnt.files := hs
  split
  · rfl
  · split
    · rfl
    · show (A.burnt.set f _).at t = _
      rw [at_set hs2, if_neg ht]; rfl
theorem write_sorted {A : Dk} (hs : Sorted A.files) (f : ByteArray) (i : Int) (b : List Int) : Sorted (A.write f i b).2.files := by
  unfold Dk.write
  have hs2 : Sorted A.burnt.files := hs
  split
  · exact hs
  · split
    · exact hs
    · split
      · exact hs
      · split
        · exact sorted_put f _ hs2
        · exact sorted_put f _ hs2
theorem sync_sorted {A : Dk} (hs : Sorted A.files) (f : ByteArray) : Sorted (A.sync f).2.files := by
  unfold Dk.sync
  have hs2 : Sorted A.burnt.files := hs
  split
  · exact hs
  · split
    · exact hs
    · exact sorted_put f _ hs2
theorem cel_of_at {A B : Dk} {t : ByteArray} (h : A.at t = B.at t) (i : Int) : A.cel t i = B.cel t i := by
  unfold Dk.cel
  rw [h]
theorem readO_of_none {A : Dk} {f : ByteArray} {i : Int} (h : A.cel f i = none) : readO A f i = [] := by unfold readO; rw [h]
theorem readO_of_some {A : Dk} {f : ByteArray} {i : Int} {c : Cel} (h : A.cel f i = some c) : readO A f i = c.read := by unfold readO; rw [h]
end Go.Proofs.YtcjcccbjgooooaaGreatDoor
/- dryrotref10.Int in four bytes. -/
namespace Go.Proofs.YtcjcccbjgooooaaGreatDoor
open Go.RowKit HP
set_option linter.unusedSimpArgs false
set_option linter.unusedVariables false

set_option maxHeartbeats 1000000 in
set_option maxRecDepth 100000 in
theorem refint4_ok (E : Env) (q : HP) (g o : Nat) (b : List Int) (n c : Nat) (w : World) (hln : b.length = n) (h8 : 4 ≤ n) (hnc : n ≤ c) (hb : Bytes b) (hq : ∀ w, Sat E w q → Cells w (some ⟨g, o, none⟩) (b8s b)) (hw : Sat E w q) :
    Calls Tryz.prog 55 #[.slice (some ⟨g, o, none⟩) n c, .int .i64 4] w fun e w' => (∃ o', e = .returned (.tuple #[.int .i64 (wrap64 (getN (b.take 4) : Int)), .slice (some ⟨g, o', none⟩) (n - 4) (c - 4), .bool true]) ∧ (4 < n → o' = o + 4)) ∧ Sat E w' q := by
  have c2 : Cells w (some ⟨g, o, none⟩) (b8s (b.take 4)) := by
    have := (hq w hw).take 4
    unfold b8s at this ⊢
    rw [List.map_take]
    exact this
  have l2 : (b.take 4).length = 4 := by rw [List.length_take]; omega
  have b2 : Bytes (b.take 4) := fun y hy => hb y (List.mem_of_mem_take hy)
  have H2 := Aside.mk (And.intro c2 (And.intro l2 (And.intro b2 hw)))
  have h8' : ¬ (n : Int) < 4 := by omega
  have h8c : (4 : Int) ≤ n := by omega
  have h8d : (4 : Int) ≤ c := by omega
  clear c2 l2 b2 hq hw hb hln
  go_enter Tryz.func55, Tryz.ntmps55
  go_wp2_with fail
  refine (ref_get (some ⟨g, o, none⟩) (b.take 4) 4 _ w H2.out.2.1 (by omega) (by omega) H2.out.2.2.1 H2.out.1).mono ?_
  rintro e w1 ⟨rfl, hw1⟩
  subst w1
  go_wp2
  refine region_R [] [] (fun _ => True) #[false, false, false, false, false, false, false, false] (by kernel_rfl) rfl rfl ?_
  refine wpR_rd 0 #[true, false, false, false, false, false, false, false] rfl onlyN_noPanic (by kernel_rfl) (fun K hK => ?_); (go_simp; try go_bits); refine hK _ ?_; clear hK K
  refine wpR_rd 1 #[true, true, false, false, false, false, false, false] rfl onlyN_noPanic (by kernel_rfl) (fun K hK => ?_); (go_simp; try go_bits); refine hK _ ?_; clear hK K
  refine wpR_rd 2 #[true, true, true, false, false, false, false, false] rfl onlyN_noPanic (by kernel_rfl) (fun K hK => ?_); (go_simp; try go_bits); refine hK _ ?_; clear hK K
  refine wpR_rd 3 #[true, true, true, true, false, false, false, false] rfl onlyN_noPanic (by kernel_rfl) (fun K hK => ?_); (go_simp; try go_bits); refine hK _ ?_; clear hK K
  refine wpR_rd 4 #[true, true, true, true, true, false, false, false] rfl onlyN_noPanic (by kernel_rfl) (fun K hK => ?_); (go_simp; try go_bits); refine hK _ ?_; clear hK K
  refine wpR_rd 5 #[true, true, true, true, true, true, false, false] rfl onlyN_noPanic (by kernel_rfl) (fun K hK => ?_); (go_simp; try go_bits); refine hK _ ?_; clear hK K
  refine wpR_rd 6 #[true, true, true, true, true, true, true, false] rfl onlyN_noPanic (by kernel_rfl) (fun K hK => ?_); (go_simp; try go_bits); refine hK _ ?_; clear hK K
  refine wpR_rd 7 #[true, true, true, true, true, true, true, true] rfl onlyN_noPanic (by kernel_rfl) (fun K hK => ?_); (go_simp; try go_bits); refine hK _ ?_; clear hK K
  refine wpR_done (by kernel_rfl) ?_ _
  simp only [OnlyN]
  go_wp2
  all_goals (go_ret3; exact ⟨⟨_, rfl, by omega⟩, H2.out.2.2.2.drew⟩)
set_option maxHeartbeats 1000000 in
theorem refint4_short (A : Option Addr) (n c : Nat) (w : World) (h : n < 4) :
    Calls Tryz.prog 55 #[.slice A n c, .int .i64 4] w fun e w' => e = .returned (.tuple #[.int .i64 0, .slice none 0 0, .bool false]) ∧ w' = w := by
  have h4 : (n : Int) < 4 := by omega
  go_enter Tryz.func55, Tryz.ntmps55
  go_wp2
  all_goals (go_ret3; exact ⟨rfl, rfl⟩)
end Go.Proofs.YtcjcccbjgooooaaGreatDoor
