/- Texts of one claim, one behind the other: DiskRo, StC, PairP, PairD, ChunkA, ChunkB, PairS, PairG, ExtP, FreshP, NeedsP, PairLo, HeldP, LoadP, LostP, StP, AppZ, StR, StS, StL, StX, StY, StN, StPm, LeftZ, AnchA, Laid, Tied, RefA3, RefB3, RegM, WpA, FileQ, AnchR, Rc1P, Rc1, Ref1, Rc4, Rc4O, Trm, Full, AnchX0, TabO. -/
import Derived.Test.YtnpinegpajbkeaaGreatDoorGr4
import Derived.Shelf.Abstract
import Derived.Shelf.RegionOpen
import Derived.OwnWalkIn
import Derived.TacticsInMore
import Derived.LoopNIn
import Derived.LoopIn
import Derived.Outline
import Derived.IntWalk
import Derived.Lib.AppendZerosOnto
import Derived.LaidMore
import Derived.Stop.Joined
import Derived.Laws.RangeAny
import Derived.Laws.RangeString
import Derived.Laws.Bits64
import Derived.Laws.BytesString
import Derived.Lib.LaidTab
set_option linter.unusedSimpArgs false
set_option linter.unusedVariables false
namespace Go.Proofs.YtnpinegpajbkeaaGreatDoor
open Go.RowKit HP
def xorB (a b : Int) : Int := bits .xor .u8 a b
def xorAt (l : List Int) (k : Nat) (m : Int) : List Int := l.set k (xorB (l.getD k 0) m)
theorem xorAt_length (l : List Int) (k : Nat) (m : Int) : (xorAt l k m).length = l.length := List.length_set
def Cel.rotd (c : Cel) (k : Nat) (m : Int) : Cel := if c.waits then { c with durable := xorAt c.durable k m } else { c with read := xorAt c.read k m, durable := xorAt c.durable k m }
theorem Cel.rotd_fine {c : Cel} (h : c.Fine) (k : Nat) (m : Int) : (c.rotd k m).Fine := by
  unfold Cel.rotd
  split
  · exact ⟨h.1, (xorAt_length _ _ _).trans h.2.1, h.2.2.1, h.2.2.2⟩
  · exact ⟨(xorAt_length _ _ _).trans h.1, (xorAt_length _ _ _).trans h.2.1, h.2.2.1, h.2.2.2⟩
def Dk.rot (A : Dk) (s : ByteArray) (i at_ m : Int) : Int × Dk :=
  match A.cel s i with
  | none => (30, A)
  | some c => if at_ < 0 ∨ 128 ≤ at_ then (1, A) else (0, A.set s ((A.at s).set i.toNat (c.rotd at_.toNat m)))
theorem celAt_some {fs : List Fil} {s : ByteArray} {i : Int} {x : Nat × Cel} (h : celAt fs s i = some x) : ∃ (j : Nat) (f : Fil) (k : Nat), fs[j]? = some f ∧ f.name = s ∧ i = (k : Int) ∧ f.cels[k]? = some x := by
  unfold celAt at h
  cases hf : fs.find? (fun f => decide (f.name = s)) with
  | none => rw [hf] at h; cases h
  | some f =>
    rw [hf] at h
    dsimp only at h
    split at h
    · rename_i hi
      obtain ⟨j, hj⟩ := List.getElem?_of_mem (List.mem_of_find?_eq_some hf)
      have hn := List.find?_some hf
      simp only [decide_eq_true_eq] at hn
      exact ⟨j, f, i.toNat, hj, hn, by omega, h⟩
    · cases h
section
variable {E : Env} {q : HP} {w : World} {b : Nat} {c : Cel}
theorem cel_byte_read (h : Sat E w (HP.cel b c * q)) (hf : c.Fine) {k : Nat} (hk : k < 128) : w.cell? ⟨b, k, none⟩ = some (.int .u8 (c.read.getD k 0)) := by
  have := (cel_read h hf).some_ k (.int .u8 (c.read.getD k 0)) (by
    unfold b8s
    rw [List.getElem?_map, List.getElem?_eq_getElem (by rw [hf.1]; exact hk)]
    simp [List.getD, hf.1, hk])
  rw [addr_add, Nat.zero_add] at this
  exact this
theorem cel_byte_durable (h : Sat E w (HP.cel b c * q)) (hf : c.Fine) {k : Nat} (hk : k < 128) : w.cell? ⟨b, 128 + k, none⟩ = some (.int .u8 (c.durable.getD k 0)) := by
  have := (cel_durable h hf).some_ k (.int .u8 (c.durable.getD k 0)) (by
    unfold b8s
    rw [List.getElem?_map, List.getElem?_eq_getElem (by rw [hf.2.1]; exact hk)]
    simp [List.getD, hf.2.1, hk])
  rw [addr_add] at this
  exact this
theorem b8s_set (l : List Int) (k : Nat) (x : Int) : (b8s l).set k (.int .u8 x) = b8s (l.set k x) := by unfold b8s; rw [List.map_set]
theorem cel_set_read (h : Sat E w (HP.cel b c * q)) (hf : c.Fine) {k : Nat} (hk : k < 128) (x : Int) : Sat E (w.setCell ⟨b, k, none⟩ (.int .u8 x)) (HP.cel b { c with read := c.read.set k x } * q) := by
  have h1 : Sat E w (HP.pt b (.cells c.vals.toArray 149) * q) := h
  have h2 := h1.set (i := k) (.int .u8 x)
  have e : c.vals.toArray.setIfInBounds k (.int .u8 x) = ({ c with read := c.read.set k x } : Cel).vals.toArray := by
    rw [List.setIfInBounds_toArray]
    congr 1
    unfold Cel.vals
    rw [List.set_append_left _ _ (by rw [b8s_length, hf.1]; exact hk), b8s_set]
  rw [e] at h2
  exact h2
theorem cel_set_durable (h : Sat E w (HP.cel b c * q)) (hf : c.Fine) {k : Nat} (hk : k < 128) (x : Int) : Sat E (w.setCell ⟨b, 128 + k, none⟩ (.int .u8 x)) (HP.cel b { c with durable := c.durable.set k x } * q) := by
  have h1 : Sat E w (HP.pt b (.cells c.vals.toArray 149) * q) := h
  have h2 := h1.set (i := 128 + k) (.int .u8 x)
  have e : c.vals.toArray.setIfInBounds (128 + k) (.int .u8 x) = ({ c with durable := c.durable.set k x } : Cel).vals.toArray := by
    rw [List.setIfInBounds_toArray]
    congr 1
    unfold Cel.vals
    rw [List.set_append_right _ _ (by rw [b8s_length, hf.1]; omega), b8s_length, hf.1, Nat.add_sub_cancel_left, List.set_append_left _ _ (by rw [b8s_length, hf.2.1]; exact hk), b8s_set]
  rw [e] at h2
  exact h2
end
set_option maxHeartbeats 2000000 in
set_option maxRecDepth 100000 in
theorem disk_rot (E : Env) (q : HP) (d : Nat) (A : Dk) (name : ByteArray) (i at_ mask : Int) (w : World) (hn : name.size ≤ maxLen) (hw : Sat E w (HP.disk d A * q)) :
    Calls Tryz.prog 79 #[.pointer (some ⟨d, 0, none⟩), .string name, .int .i64 i, .int .i64 at_, .int .u8 mask] w fun e w' => e = .returned (.int .i64 (A.rot name i at_ mask).1) ∧ Sat E w' (HP.disk d (A.rot name i at_ mask).2 * q) := by
  obtain ⟨m, es, clock, fs, hv, hd⟩ := hw.disk_open
  have HF : Aside (A.rot name i at_ mask = match A.cel name i with
    | none => (30, A)
    | some c => if at_ < 0 ∨ 128 ≤ at_ then (1, A) else (0, A.set name ((A.at name).set i.toNat (c.rotd at_.toNat mask)))) := ⟨rfl⟩
  rw [← celAt_view hv] at HF
  clear hw
  go_enter Tryz.func79, Tryz.ntmps79
  go_wp2_with fail
  refine (disk_none E _ d _ _ m w (dk_parts hd)).mono ?_
  rintro e w1 ⟨rfl, rfl⟩
  go_wp2_with fail
  refine (disk_at E q d _ _ m es clock fs name i _ hn hv.map hd).mono ?_
  rintro e w2 ⟨rfl, rfl⟩
  rw [cellAt_eq]
  cases hx : celAt fs name i with
  | none =>
    rw [hx] at HF
    have HT : Aside (A.rot name i at_ mask = (30, A) ∧ Sat E w2 (HP.disk d A * q)) := ⟨HF.out, Sat.disk_close hv hd⟩
    clear HF hx hd hv
    go_wp2
    go_ret
    rw [HT.out.1]
    exact ⟨rfl, HT.out.2⟩
  | some x =>
    rw [hx] at HF
    obtain ⟨j, f, k, hj, hname, hik, hk⟩ := celAt_some hx
    have hxf : x.2.Fine := hv.cel_fine (List.mem_of_getElem? hj) (List.mem_of_getElem? hk)
    obtain ⟨r, hr1, -, hr3⟩ := take_cel hv hd hj hk
    have hat : A.at name = f.cs := by
      unfold Dk.at
      rw [← hv.same, ← hname, lkF_at hv.nodup hj]; rfl
    have HD : Aside (Sat E w2 (HP.disk d A * q)) := ⟨Sat.disk_close hv hd⟩
    have HR : Aside (∀ w' c', c'.Fine → Sat E w' (HP.cel x.1 c' * r) → Sat E w' (HP.disk d (A.set name ((A.at name).set i.toNat c')) * q)) := ⟨fun w' c' hc h => by
      have := hr3 w' c' hc h
      rw [hat, hik, Int.toNat_natCast, ← hname]
      exact this⟩
    obtain ⟨bk, c⟩ := x
    dsimp only [Option.map_some] at *
    clear hx hd hv hr3 hj hk hname hik hat
    by_cases h0 : at_ < 0
    · have HT : Aside (A.rot name i at_ mask = (1, A)) := ⟨by rw [HF.out]; simp [h0]⟩
      clear HF hr1 hxf HR
      go_wp2
      go_ret
      rw [HT.out]
      exact ⟨rfl, HD.out⟩
    · by_cases h8 : 128 ≤ at_
      · have HT : Aside (A.rot name i at_ mask = (1, A)) := ⟨by rw [HF.out]; simp [h8]⟩
        clear HF hr1 hxf HR
        go_wp2
        go_ret
        rw [HT.out]
        exact ⟨rfl, HD.out⟩
      · obtain ⟨n, rfl⟩ := Int.eq_ofNat_of_zero_le (Int.not_lt.1 h0)
        have hn8 : n < 128 := by omega
        have HT : Aside (A.rot name i n mask = (0, A.set name ((A.at name).set i.toNat (c.rotd n mask)))) := ⟨by rw [HF.out]; simp only [if_neg (show ¬ ((n : Int) < 0 ∨ 128 ≤ (n : Int)) by omega), Int.toNat_natCast]⟩
        have cw := cel_waits hr1 hxf
        have hn1 : (n : Int) < 128 := by omega
        have hn0 : (0 : Int) ≤ (n : Int) := by omega
        cases hcw : c.waits with
        | true =>
          rw [hcw] at cw
          have g2 := cel_byte_durable hr1 hxf hn8
          have f2 := cel_thaw hr1 (128 + n)
          have h9 := cel_set_durable (hr1.drew) hxf hn8 (xorB (c.durable.getD n 0) mask)
          have HH := Aside.mk (HR.out _ _ (Cel.rotd_fine hxf n mask) (by
            have e : c.rotd n mask = { c with durable := c.durable.set n (xorB (c.durable.getD n 0) mask) } := by unfold Cel.rotd xorAt; rw [if_pos hcw]
            rw [e]; exact h9))
          clear HF HR HD hr1 hxf hcw h9
          generalize c.durable.getD n 0 = y at *
          unfold xorB at HH
          go_wp2
          refine region_R [11] [] (fun _ => True) #[false, false, false, false, false, false, false, false, false, false, false, false] (by kernel_rfl) rfl rfl ?_
          refine wpR_rd 0 #[true, false, false, false, false, false, false, false, false, false, false, false] rfl onlyN_noPanic (by kernel_rfl) (fun K hK => ?_); (go_simp; try go_bits); refine hK _ ?_; clear hK K
          refine wpR_rd 1 #[true, true, false, false, false, false, false, false, false, false, false, false] rfl onlyN_noPanic (by kernel_rfl) (fun K hK => ?_); (go_simp; try go_bits); refine hK _ ?_; clear hK K
          refine wpR_rd 2 #[true, true, true, false, false, false, false, false, false, false, false, false] rfl onlyN_noPanic (by kernel_rfl) (fun K hK => ?_); (go_simp; try go_bits); refine hK _ ?_; clear hK K
          refine wpR_rd 3 #[true, true, true, true, false, false, false, false, false, false, false, false] rfl onlyN_noPanic (by kernel_rfl) (fun K hK => ?_); (go_simp; try go_bits); refine hK _ ?_; clear hK K
          refine wpR_rd 4 #[true, true, true, true, true, false, false, false, false, false, false, false] rfl onlyN_noPanic (by kernel_rfl) (fun K hK => ?_); (go_simp; try go_bits); refine hK _ ?_; clear hK K
          refine wpR_rd 5 #[true, true, true, true, true, true, false, false, false, false, false, false] rfl onlyN_noPanic (by kernel_rfl) (fun K hK => ?_); (go_simp; try go_bits); refine hK _ ?_; clear hK K
          refine wpR_rd 6 #[true, true, true, true, true, true, true, false, false, false, false, false] rfl onlyN_noPanic (by kernel_rfl) (fun K hK => ?_); (go_simp; try go_bits); refine hK _ ?_; clear hK K
          refine wpR_rd 7 #[true, true, true, true, true, true, true, true, false, false, false, false] rfl onlyN_noPanic (by kernel_rfl) (fun K hK => ?_); (go_simp; try go_bits); refine hK _ ?_; clear hK K
          refine wpR_rd 8 #[true, true, true, true, true, true, true, true, true, false, false, false] rfl onlyN_noPanic (by kernel_rfl) (fun K hK => ?_); (go_simp; try go_bits); refine hK _ ?_; clear hK K
          refine wpR_rd 9 #[true, true, true, true, true, true, true, true, true, true, false, false] rfl onlyN_noPanic (by kernel_rfl) (fun K hK => ?_); (go_simp; try go_bits); refine hK _ ?_; clear hK K
          refine wpR_rd 10 #[true, true, true, true, true, true, true, true, true, true, true, false] rfl onlyN_noPanic (by kernel_rfl) (fun K hK => ?_); (go_simp; try go_bits); refine hK _ ?_; clear hK K
          refine wpR_eff #[true, true, true, true, true, true, true, true, true, true, true, true] (i := 11) rfl (by kernel_rfl) (fun K hK => ?_)
          go_simp; refine hK _ _ ?_; clear hK K
          refine wpR_done (by kernel_rfl) ?_ _
          simp only [OnlyN]
          go_wp2
          go_ret
          rw [HT.out]
          exact ⟨rfl, HH.out⟩
        | false =>
          rw [hcw] at cw
          have g2 := cel_byte_read hr1 hxf hn8
          have f2 := cel_thaw hr1 n
          have h9 := (cel_set_read hr1 hxf hn8 (xorB (c.read.getD n 0) mask)).drew
          have hxf1 : ({ c with read := c.read.set n (xorB (c.read.getD n 0) mask) } : Cel).Fine := ⟨List.length_set.trans hxf.1, hxf.2.1, hxf.2.2.1, hxf.2.2.2⟩
          have HX := Aside.mk (And.intro h9 hxf1)
          have HR2 : Aside (∀ w', Sat E w' (HP.cel bk { c with read := c.read.set n (xorB (c.read.getD n 0) mask), durable := c.durable.set n (xorB (c.durable.getD n 0) mask) } * r) → Sat E w' (HP.disk d (A.set name ((A.at name).set i.toNat (c.rotd n mask))) * q)) := ⟨fun w' h => HR.out w' _ (Cel.rotd_fine hxf n mask) (by
            have e : c.rotd n mask = { c with read := c.read.set n (xorB (c.read.getD n 0) mask), durable := c.durable.set n (xorB (c.durable.getD n 0) mask) } := by unfold Cel.rotd xorAt; rw [if_neg (by rw [hcw]; decide)]
            rw [e]; exact h)⟩
          clear HF HR HD hr1 hxf hcw h9 hxf1
          obtain ⟨y, hy⟩ : ∃ y, y = c.read.getD n 0 := ⟨_, rfl⟩
          simp only [← hy] at g2 HX HR2
          clear hy
          unfold xorB at HX
          go_wp2
          refine region_R [11] [] (fun _ => True) #[false, false, false, false, false, false, false, false, false, false, false, false] (by kernel_rfl) rfl rfl ?_
          refine wpR_rd 0 #[true, false, false, false, false, false, false, false, false, false, false, false] rfl onlyN_noPanic (by kernel_rfl) (fun K hK => ?_); (go_simp; try go_bits); refine hK _ ?_; clear hK K
          refine wpR_rd 1 #[true, true, false, false, false, false, false, false, false, false, false, false] rfl onlyN_noPanic (by kernel_rfl) (fun K hK => ?_); (go_simp; try go_bits); refine hK _ ?_; clear hK K
          refine wpR_rd 2 #[true, true, true, false, false, false, false, false, false, false, false, false] rfl onlyN_noPanic (by kernel_rfl) (fun K hK => ?_); (go_simp; try go_bits); refine hK _ ?_; clear hK K
          refine wpR_rd 3 #[true, true, true, true, false, false, false, false, false, false, false, false] rfl onlyN_noPanic (by kernel_rfl) (fun K hK => ?_); (go_simp; try go_bits); refine hK _ ?_; clear hK K
          refine wpR_rd 4 #[true, true, true, true, true, false, false, false, false, false, false, false] rfl onlyN_noPanic (by kernel_rfl) (fun K hK => ?_); (go_simp; try go_bits); refine hK _ ?_; clear hK K
          refine wpR_rd 5 #[true, true, true, true, true, true, false, false, false, false, false, false] rfl onlyN_noPanic (by kernel_rfl) (fun K hK => ?_); (go_simp; try go_bits); refine hK _ ?_; clear hK K
          refine wpR_rd 6 #[true, true, true, true, true, true, true, false, false, false, false, false] rfl onlyN_noPanic (by kernel_rfl) (fun K hK => ?_); (go_simp; try go_bits); refine hK _ ?_; clear hK K
          refine wpR_rd 7 #[true, true, true, true, true, true, true, true, false, false, false, false] rfl onlyN_noPanic (by kernel_rfl) (fun K hK => ?_); (go_simp; try go_bits); refine hK _ ?_; clear hK K
          refine wpR_rd 8 #[true, true, true, true, true, true, true, true, true, false, false, false] rfl onlyN_noPanic (by kernel_rfl) (fun K hK => ?_); (go_simp; try go_bits); refine hK _ ?_; clear hK K
          refine wpR_rd 9 #[true, true, true, true, true, true, true, true, true, true, false, false] rfl onlyN_noPanic (by kernel_rfl) (fun K hK => ?_); (go_simp; try go_bits); refine hK _ ?_; clear hK K
          refine wpR_rd 10 #[true, true, true, true, true, true, true, true, true, true, true, false] rfl onlyN_noPanic (by kernel_rfl) (fun K hK => ?_); (go_simp; try go_bits); refine hK _ ?_; clear hK K
          refine wpR_eff #[true, true, true, true, true, true, true, true, true, true, true, true] (i := 11) rfl (by kernel_rfl) (fun K hK => ?_)
          go_simp; refine hK _ _ ?_; clear hK K
          refine wpR_done (by kernel_rfl) ?_ _
          simp only [OnlyN]
          obtain ⟨h9, hxf1⟩ := HX.out
          obtain ⟨w5, hw5⟩ : ∃ w5, w5 = (w2.setCell ⟨bk, n, none⟩ (.int .u8 (bits .xor .u8 y mask))).drew := ⟨_, rfl⟩
          rw [← hw5] at h9 ⊢
          clear hw5 HX cw g2 f2 
          have g2 := cel_byte_durable h9 hxf1 hn8
          have f2 := cel_thaw h9 (128 + n)
          have h10 := cel_set_durable (h9.drew) hxf1 hn8 (xorB (c.durable.getD n 0) mask)
          have HH := Aside.mk (HR2.out _ h10)
          clear HR2 h9 hxf1 h10
          dsimp only at g2
          generalize c.durable.getD n 0 = y at *
          unfold xorB at HH
          go_wp2
          refine region_R [11] [] (fun _ => True) #[false, false, false, false, false, false, false, false, false, false, false, false] (by kernel_rfl) rfl rfl ?_
          refine wpR_rd 0 #[true, false, false, false, false, false, false, false, false, false, false, false] rfl onlyN_noPanic (by kernel_rfl) (fun K hK => ?_); (go_simp; try go_bits); refine hK _ ?_; clear hK K
          refine wpR_rd 1 #[true, true, false, false, false, false, false, false, false, false, false, false] rfl onlyN_noPanic (by kernel_rfl) (fun K hK => ?_); (go_simp; try go_bits); refine hK _ ?_; clear hK K
          refine wpR_rd 2 #[true, true, true, false, false, false, false, false, false, false, false, false] rfl onlyN_noPanic (by kernel_rfl) (fun K hK => ?_); (go_simp; try go_bits); refine hK _ ?_; clear hK K
          refine wpR_rd 3 #[true, true, true, true, false, false, false, false, false, false, false, false] rfl onlyN_noPanic (by kernel_rfl) (fun K hK => ?_); (go_simp; try go_bits); refine hK _ ?_; clear hK K
          refine wpR_rd 4 #[true, true, true, true, true, false, false, false, false, false, false, false] rfl onlyN_noPanic (by kernel_rfl) (fun K hK => ?_); (go_simp; try go_bits); refine hK _ ?_; clear hK K
          refine wpR_rd 5 #[true, true, true, true, true, true, false, false, false, false, false, false] rfl onlyN_noPanic (by kernel_rfl) (fun K hK => ?_); (go_simp; try go_bits); refine hK _ ?_; clear hK K
          refine wpR_rd 6 #[true, true, true, true, true, true, true, false, false, false, false, false] rfl onlyN_noPanic (by kernel_rfl) (fun K hK => ?_); (go_simp; try go_bits); refine hK _ ?_; clear hK K
          refine wpR_rd 7 #[true, true, true, true, true, true, true, true, false, false, false, false] rfl onlyN_noPanic (by kernel_rfl) (fun K hK => ?_); (go_simp; try go_bits); refine hK _ ?_; clear hK K
          refine wpR_rd 8 #[true, true, true, true, true, true, true, true, true, false, false, false] rfl onlyN_noPanic (by kernel_rfl) (fun K hK => ?_); (go_simp; try go_bits); refine hK _ ?_; clear hK K
          refine wpR_rd 9 #[true, true, true, true, true, true, true, true, true, true, false, false] rfl onlyN_noPanic (by kernel_rfl) (fun K hK => ?_); (go_simp; try go_bits); refine hK _ ?_; clear hK K
          refine wpR_rd 10 #[true, true, true, true, true, true, true, true, true, true, true, false] rfl onlyN_noPanic (by kernel_rfl) (fun K hK => ?_); (go_simp; try go_bits); refine hK _ ?_; clear hK K
          refine wpR_eff #[true, true, true, true, true, true, true, true, true, true, true, true] (i := 11) rfl (by kernel_rfl) (fun K hK => ?_)
          go_simp; refine hK _ _ ?_; clear hK K
          refine wpR_done (by kernel_rfl) ?_ _
          simp only [OnlyN]
          go_wp2
          go_ret
          rw [HT.out]
          exact ⟨rfl, HH.out⟩
end Go.Proofs.YtnpinegpajbkeaaGreatDoor
namespace Go.Proofs.YtnpinegpajbkeaaGreatDoor
open Go.RowKit HP
def mixN (L : List Int) (off : Nat) (O : List Int) : Nat → List Int
  | 0 => L
  | i + 1 => (mixN L off O i).set (off + i) (xorB (L.getD (off + i) 0) (O.getD i 0))
def putP (A : Dk) (name : ByteArray) (i gen : Int) (p : List Int) : Int × Dk := if FrameOk i gen p.length then wrP A name i.toNat gen.toNat [p] else (1, A)
def dropL (A : Dk) : List ByteArray → Int × Dk
  | [] => (0, A)
  | f :: r => if (A.at f).length = 0 then dropL A r else if (A.remove f).1 = 0 then dropL (A.remove f).2 r else A.remove f
def dropP (A : Dk) (name : ByteArray) : Int × Dk := dropL A (halvesL name)
def needI (n : Int) : Int := if n ≤ 0 then 2 else 2 * ((n - 1) / 106 + 1)
end Go.Proofs.YtnpinegpajbkeaaGreatDoor
namespace Go.Proofs.YtnpinegpajbkeaaGreatDoor
open Go.RowKit Go.Shelf HP
attribute [local go_sem] Oper.semAt_some
def chunkN (n : Nat) : Nat := (n + 105) / 106
def chunkM (n k : Nat) : Nat := min 106 (n - 106 * k)
def chunkV (g o n k : Nat) : Value := .slice (some ⟨g, o + 106 * k, none⟩) (chunkM n k) (chunkM n k)
def Keep2 (b1 b2 : Nat) (W W' : World) : Prop := W'.heap[b1]? = W.heap[b1]? ∧ W'.heap[b2]? = W.heap[b2]?
theorem Keep2.refl {b1 b2 : Nat} (W : World) : Keep2 b1 b2 W W := ⟨rfl, rfl⟩
theorem Keep2.trans {b1 b2 : Nat} {W X Y : World} (h : Keep2 b1 b2 W X) (k : Keep2 b1 b2 X Y) : Keep2 b1 b2 W Y := ⟨k.1.trans h.1, k.2.trans h.2⟩
end Go.Proofs.YtnpinegpajbkeaaGreatDoor
namespace Go.Proofs.YtnpinegpajbkeaaGreatDoor
open Go.RowKit Go.Shelf HP
attribute [local go_sem] Oper.semAt_some
def HP.gath (bb : Nat) (l : List Value) : HP := HP.ex fun v => HP.pt bb (.cells #[v] 111) * HP.row 43 1 v l.length l
end Go.Proofs.YtnpinegpajbkeaaGreatDoor
namespace Go.Proofs.YtnpinegpajbkeaaGreatDoor
open Go.RowKit HP
def piece (l : List Int) (k : Nat) : List Int := (l.drop (106 * k)).take 106
def piecesI (l : List Int) : List (List Int) := if l.length = 0 then [[]] else (List.range (chunkN l.length)).map (piece l)
def storeP (A : Dk) (name : ByteArray) (gen : Nat) (l : List Int) : Int × Dk := if (dropP A name).1 = 0 then wrP (dropP A name).2 name 0 gen (piecesI l) else dropP A name
def pieceS (g o : Nat) (l : List Int) (k : Nat) : Sl Int := ⟨some ⟨g, o + 106 * k, none⟩, chunkM l.length k, piece l k⟩
def getF (A : Dk) (i : Int) (st : Int × List Int) (f : ByteArray) : Int × List Int :=
  match A.cel f i with
  | none => st
  | some c => match openI c.read f i with
    | none => st
    | some x => if (x.2 : Int) ≤ st.1 then st else ((x.2 : Int), x.1)
def getP (A : Dk) (name : ByteArray) (i : Int) : Int × List Int := (halvesL name).foldl (getF A i) (-1, [])
def getEnd (st : Int × List Int) (v : Value) : Ending := if st.1 < 0 then .returned (.tuple #[.slice none 0 0, .int .i64 0, .int .i64 50]) else .returned (.tuple #[v, .int .i64 st.1, .int .i64 0])
end Go.Proofs.YtnpinegpajbkeaaGreatDoor
namespace Go.Proofs.YtnpinegpajbkeaaGreatDoor
open Go.RowKit HP
def stl (I : List Int) : Cel := ⟨I, I, I, I, false⟩
structure TwoNames (fa fb : ByteArray) : Prop where
  na : namedB fa = true
  nb : namedB fb = true
  ne : fa ≠ fb
  lt : ltN fa fb = true
  gt : ltN fb fa = false
def wr1 (A : Dk) (f : ByteArray) (i : Int) (I : List Int) : Int × Dk := if (A.write f i I).1 = 0 then (A.write f i I).2.sync f else A.write f i I
def put2 (A : Dk) (fa fb : ByteArray) (i : Int) (Ia Ib : List Int) : Int × Dk :=
  if (wr1 A fa i Ia).1 = 0 then (if (wr1 (wr1 A fa i Ia).2 fb i Ib).1 = 0 then (0, (wr1 (wr1 A fa i Ia).2 fb i Ib).2) else wr1 (wr1 A fa i Ia).2 fb i Ib) else wr1 A fa i Ia
def two (room fuse : Int) (fa fb : ByteArray) (a b : Cel) : Dk := ⟨room, fuse, [(fa, [a]), (fb, [b])]⟩
section
variable {fa fb : ByteArray} {Ia Ib : List Int} (T : TwoNames fa fb) (la : Ia.length = 128) (lb : Ib.length = 128)
include T la lb
end
def exS : ByteArray := ⟨#[120]⟩
end Go.Proofs.YtnpinegpajbkeaaGreatDoor
namespace Go.Proofs.YtnpinegpajbkeaaGreatDoor
open Go.RowKit HP
theorem at_some {A : Dk} {f : ByteArray} (h : 0 < (A.at f).length) : lk A.files f = some (A.at f) := by
  unfold Dk.at at h ⊢
  cases hk : lk A.files f with
  | none => rw [hk] at h; simp at h
  | some l => rfl
structure Fresh (A B : Dk) (f : ByteArray) (m : Nat) : Prop where
  sorted : Sorted B.files
  fuse : B.fuse = -1
  room : B.room = A.room
  size : sizeF B.files = sizeF A.files + m
  others : ∀ t, f ≠ t → B.at t = A.at t
def extN (A : Dk) (name : ByteArray) : Nat := (halvesL name).foldl (fun m f => max m (A.at f).length) 0
def loadG (A : Dk) (name : ByteArray) (gen : Int) : Nat → Nat → List Int → Option (List Int)
  | _, 0, out => some out
  | i, c + 1, out => if 0 ≤ (getP A name i).1 ∧ (getP A name i).1 = gen then loadG A name gen (i + 1) c (out ++ (getP A name i).2) else none
def loadP (A : Dk) (name : ByteArray) (gen : Int) : Option (List Int) := if extN A name = 0 then none else loadG A name gen 0 (extN A name) []
def loadEnd (E : Env) (q : HP) (r : Option (List Int)) (e : Ending) (w' : World) : Prop :=
  match r with
  | none => e = .returned (.tuple #[.slice none 0 0, .int .i64 50]) ∧ Sat E w' q
  | some l => ∃ v, e = .returned (.tuple #[v, .int .i64 0]) ∧ Sat E w' (HP.row 5 1 v l.length (b8s l) * q)
def newCels (f : ByteArray) (gen : Nat) : Nat → List (List Int) → List Cel
  | _, [] => []
  | i, p :: ps => Cel.zero.wrote (extI f i gen p) :: newCels f gen (i + 1) ps
structure Holds (B : Dk) (x : ByteArray) (gen : Nat) (ps : List (List Int)) : Prop where
  a : B.at (x ++ dotA) = (newCels (x ++ dotA) gen 0 ps).map Cel.syncd
  b : B.at (x ++ dotB) = (newCels (x ++ dotB) gen 0 ps).map Cel.syncd
def SumOk (b : List Int) : Prop := b.length = 128 ∧ b.drop 124 = putI (crcSum (b.take 124)) 4
structure LostEnd (B : Dk) (x : ByteArray) (k : Nat) : Prop where
  got : (getP B x k).1 < 0
  load : ∀ gen, loadP B x gen = none
  bytes : ∀ f ∈ halvesL x, ∀ i c, B.cel f i = some c → Bytes c.read
def partI (l : List Int) (e : Nat) : List Int := (l.drop (105 * e)).take 105
def zipX (a b : List Int) : List Int := List.zipWith xorB a b
def parI (l : List Int) (g : Nat) : Nat → List Int
  | 0 => List.replicate 106 0
  | k + 1 => zipX (parI l g k) (slotI (partI l (3 * g + k)))
def sec (G : List Int) (s : Nat) : List Int := (G.drop (106 * s)).take 106
def splS (G : List Int) (s : Nat) (S : List Int) : List Int := G.take (106 * s) ++ S ++ G.drop (106 * s + 106)
def payS (l : List Int) (g k : Nat) : List Int := if k = 3 then parI l g 3 else partI l (3 * g + k)
def paysS (l : List Int) (n k : Nat) : List (List Int) := (List.range n).map fun g => payS l g k
def stripeF (x : ByteArray) (k : Nat) : ByteArray := if k = 0 then x ++ dot0 else if k = 1 then x ++ dot1 else if k = 2 then x ++ dot2 else x ++ dotP
def groupsN (m : Nat) : Nat := if m = 0 then 1 else (m - 1) / 105 / 3 + 1
def wrT (A : Dk) (gen : Nat) : List (ByteArray × List (List Int)) → Int × Dk
  | [] => (0, A)
  | (f, ps) :: r => if (wrF A f gen 0 ps).1 = 0 then wrT (wrF A f gen 0 ps).2 gen r else wrF A f gen 0 ps
def fsS (name : ByteArray) (l : List Int) : List (ByteArray × List (List Int)) :=
  [(name ++ dot0, paysS l (groupsN l.length) 0), (name ++ dot1, paysS l (groupsN l.length) 1), (name ++ dot2, paysS l (groupsN l.length) 2), (name ++ dotP, paysS l (groupsN l.length) 3)]
def storeS (A : Dk) (name : ByteArray) (gen : Nat) (l : List Int) : Int × Dk := if (dropS A name).1 = 0 then wrT (dropS A name).2 gen (fsS name l) else dropS A name
structure Grp (l : List Int) (n : Nat) (G : List Int) (g k : Nat) : Prop where
  len : G.length = 424 * n
  slots : ∀ g' k', g' < n → k' < 3 → (g' < g ∨ g' = g ∧ k' < k) → sec G (4 * g' + k') = slotI (partI l (3 * g' + k'))
  par : ∀ g', g' < n → sec G (4 * g' + 3) = parI l g' (if g' < g then 3 else if g' = g then k else 0)
def slotZ : List Int := List.replicate 106 0
def readT (file : Nat) (p : List Int) : List Int × Bool := if file = 3 then (p ++ List.replicate (106 - p.length) 0, decide (p.length = 106)) else (slotI (p.take 105), decide (p.length ≤ 105))
def readS (A : Dk) (f : ByteArray) (file : Nat) (gen i : Int) : List Int × Bool :=
  match A.cel f i with
  | none => (slotZ, false)
  | some c => match openI c.read f i with
    | none => (slotZ, false)
    | some x => if (x.2 : Int) ≠ gen then (slotZ, false) else readT file x.1
def cutA (Ap : Option Addr) (c a : Nat) : Option Addr := if c = a then Ap else Ap.map (·.add a)
def gCells (G : List Int) (R : List Bool) (n : Nat) : List Value := b8s G ++ (R.map Value.bool ++ [.int .i64 n])
def slotOf (A : Dk) (x : ByteArray) (gen i : Int) (k : Nat) : List Int × Bool := readS A (stripeF x k) k gen i
def badN (A : Dk) (x : ByteArray) (gen i : Int) : Nat → Nat
  | 0 => 0
  | k + 1 => badN A x gen i k + (if (slotOf A x gen i k).2 = true then 0 else 1)
structure Looked (A : Dk) (x : ByteArray) (gen i : Int) (k : Nat) (G : List Int) (R : List Bool) (n : Nat) : Prop where
  len : G.length = 424
  rlen : R.length = 4
  slot : ∀ j, j < k → sec G j = (slotOf A x gen i j).1
  right : ∀ j, j < k → R[j]? = some (slotOf A x gen i j).2
  bad : n = badN A x gen i k
def xorO (f : Nat → List Int) (k : Nat) : Nat → List Int
  | 0 => List.replicate 106 0
  | j + 1 => if j = k then xorO f k j else zipX (xorO f k j) (f j)
def fineS (S : List Int) : Bool := decide (S.headD 0 ≤ 105) && (S.drop (1 + (S.headD 0).toNat)).all fun x => decide (x = 0)
def slotsL (A : Dk) (x : ByteArray) (gen i : Int) (j : Nat) : List Int := (slotOf A x gen i j).1
def missP (A : Dk) (x : ByteArray) (gen i : Int) (k : Nat) : List Int := xorO (slotsL A x gen i) k 4
def atF (A : Dk) (x : ByteArray) (gen i : Int) (k : Nat) : List Int × Bool :=
  if (slotOf A x gen i k).2 = true then ((slotOf A x gen i k).1, true)
  else if 1 < badN A x gen i 4 then (slotZ, false)
  else (missP A x gen i k, decide (k = 3) || fineS (missP A x gen i k))
def mend1 (A : Dk) (f : ByteArray) (i gen : Nat) (p : List Int) : (Bool × Int) × Dk :=
  if (A.write f i (extI f i gen p)).1 = 0 then
    ((decide (((A.write f i (extI f i gen p)).2.sync f).1 = 0), ((A.write f i (extI f i gen p)).2.sync f).1), ((A.write f i (extI f i gen p)).2.sync f).2)
  else ((false, (A.write f i (extI f i gen p)).1), (A.write f i (extI f i gen p)).2)
def firstBad (A : Dk) (x : ByteArray) (gen i : Int) : Option Nat := [0, 1, 2, 3].find? fun k => !(slotOf A x gen i k).2
def mendK (A : Dk) (x : ByteArray) (gen i : Int) : Option Nat → (Bool × Int) × Dk
  | none => ((false, 0), A)
  | some k => if (atF A x gen i k).2 = true then mend1 A (stripeF x k) i.toNat gen.toNat (payI k (atF A x gen i k).1) else ((false, 50), A)
def mendS (A : Dk) (x : ByteArray) (gen i : Int) : (Bool × Int) × Dk := if i < 0 ∨ 2147483647 < i then ((false, 1), A) else mendK A x gen i (firstBad A x gen i)
structure FilesEnd (A B : Dk) (gen : Nat) (fs : List (ByteArray × List (List Int))) : Prop where
  sorted : Sorted B.files
  fuse : B.fuse = -1
  room : B.room = A.room
  size : sizeF B.files = sizeF A.files + (fs.map fun x => x.2.length).sum
  others : ∀ t, (∀ x ∈ fs, x.1 ≠ t) → B.at t = A.at t
  held : ∀ x ∈ fs, B.at x.1 = (newCels x.1 gen 0 x.2).map Cel.syncd
structure FourNames (x : ByteArray) : Prop where
  n0 : namedB (x ++ dot0) = true
  n1 : namedB (x ++ dot1) = true
  n2 : namedB (x ++ dot2) = true
  n3 : namedB (x ++ dotP) = true
  ne : [x ++ dot0, x ++ dot1, x ++ dot2, x ++ dotP].Pairwise (· ≠ ·)
structure StHas (room : Int) (x : ByteArray) (gen : Nat) (l : List Int) (B : Dk) : Prop where
  eq : storeS (Dk.new room) x gen l = (0, B)
  sorted : Sorted B.files
  fuse : B.fuse = -1
  free : B.free = room - 4 * (groupsN l.length : Int)
  held : ∀ k, k < 4 → B.at (stripeF x k) = (newCels (stripeF x k) gen 0 (paysS l (groupsN l.length) k)).map Cel.syncd
def partM (at_ : Nat → Nat → List Int × Bool) : Nat → Nat → Nat → List Int → Option (List Int)
  | 0, _, _, out => some out
  | c + 1, fr, en, out =>
    if fr < en then
      if (at_ (fr / 105 / 3) (fr / 105 % 3)).2 = true ∧ ((fr % 105 + min (105 - fr % 105) (en - fr) : Nat) : Int) ≤ (at_ (fr / 105 / 3) (fr / 105 % 3)).1.headD 0 then
        partM at_ c (fr + min (105 - fr % 105) (en - fr)) en (out ++ ((at_ (fr / 105 / 3) (fr / 105 % 3)).1.drop (1 + fr % 105)).take (min (105 - fr % 105) (en - fr)))
      else none
    else some out
structure AtText (l : List Int) (at_ : Nat → Nat → List Int × Bool) : Prop where
  right : ∀ i k, k < 3 → (at_ i k).2 = true → (at_ i k).1 = slotI (partI l (3 * i + k))
def slotT (l : List Int) (i k : Nat) : List Int := if k = 3 then parI l i 3 else slotI (partI l (3 * i + k))
structure StRead (B : Dk) (x : ByteArray) (gen : Nat) (l : List Int) : Prop where
  right : ∀ i k, k < 4 → i < groupsN l.length → slotOf B x gen i k = (slotT l i k, true)
  none : ∀ i k, k < 4 → groupsN l.length ≤ i → slotOf B x gen i k = (slotZ, false)
  bytes : ∀ k, k < 4 → ∀ (i : Int) c, B.cel (stripeF x k) i = some c → Bytes c.read
theorem putF_perm {α : Type} {s : ByteArray} {v : α} : ∀ {l : List (ByteArray × α)}, lk l s = none → (putF l s v).Perm ((s, v) :: l)
  | [], _ => List.Perm.refl _
  | (t, u) :: l, h => by
    rw [lk_cons] at h
    split at h
    · cases h
    · rename_i hne
      unfold putF
      rw [if_neg hne]
      split
      · exact List.Perm.refl _
      · exact ((putF_perm h).cons _).trans (List.Perm.swap _ _ _)
theorem sortF_perm {fs : List Fil} (hn : (fs.map (·.name)).Nodup) : (sortF fs).Perm (fs.map fun f => (f.name, f.cs)) := by
  induction fs with
  | nil => exact List.Perm.refl _
  | cons f fs ih =>
    simp only [List.map_cons, List.nodup_cons] at hn
    have h2 : lk (sortF fs) f.name = none := by
      rw [sortF_lk]
      unfold lkF
      rw [Option.map_eq_none_iff, List.find?_eq_none]
      intro x hx he
      simp only [decide_eq_true_eq] at he
      exact hn.1 (List.mem_map.2 ⟨x, hx, he⟩)
    exact (putF_perm h2).trans ((ih hn.2).cons _)
theorem files_perm {A : Dk} {es : Array MapEntry} {clock : Nat} {fs : List Fil} (hv : View A es clock fs) : (fs.map fun f => (f.name, f.cs)).Perm A.files := by
  have e : sortF fs = A.files := sorted_ext (sortF_sorted fs) hv.fine.sorted fun s => by rw [sortF_lk, hv.same]
  rw [← e]
  exact (sortF_perm hv.map.2.2.1).symm
def leftZ (es : Array MapEntry) (seen : Array Nat) (fs : List Fil) : List (MapEntry × Fil) := (es.toList.zip fs).filter fun x => !seen.contains x.1.born
theorem filter_out {α : Type} {b : α → Nat} : ∀ {l : List α} {x : α} {p : α → Bool}, (l.map b).Nodup → x ∈ l → p x = true → (l.filter p).Perm (x :: l.filter fun y => p y && !(b y == b x))
  | [], x, p, _, h, _ => by cases h
  | y :: l, x, p, hn, hx, hp => by
    simp only [List.map_cons, List.nodup_cons] at hn
    by_cases e : y = x
    · subst e
      rw [List.filter_cons_of_pos hp, List.filter_cons_of_neg (by simp)]
      refine List.Perm.cons _ (List.Perm.of_eq ?_)
      refine List.filter_congr fun z hz => ?_
      have : b z ≠ b y := fun h => hn.1 (by rw [← h]; exact List.mem_map.2 ⟨z, hz, rfl⟩)
      simp [this]
    · have hxl : x ∈ l := by
        rcases List.mem_cons.1 hx with h | h
        · exact absurd h.symm e
        · exact h
      have hb : b y ≠ b x := fun h => hn.1 (by rw [h]; exact List.mem_map.2 ⟨x, hxl, rfl⟩)
      have ih := filter_out hn.2 hxl hp
      by_cases hpy : p y = true
      · rw [List.filter_cons_of_pos hpy, List.filter_cons_of_pos (by simp [hpy, hb])]
        exact (ih.cons _).trans (List.Perm.swap _ _ _)
      · rw [List.filter_cons_of_neg hpy, List.filter_cons_of_neg (by simp [hpy])]
        exact ih
theorem leftZ_step {es : Array MapEntry} {seen : Array Nat} {fs : List Fil} {j : Nat} {e : MapEntry} {f : Fil} (hn : (es.toList.map (·.born)).Nodup) (hl : es.toList.length = fs.length) (hj : es.toList[j]? = some e) (hf : fs[j]? = some f) (he : seen.contains e.born = false) :
    (leftZ es seen fs).Perm ((e, f) :: leftZ es (seen.push e.born) fs) := by
  have hm : ((es.toList.zip fs).map fun x => x.1.born) = es.toList.map (·.born) := by
    rw [show (fun x : MapEntry × Fil => x.1.born) = (fun x : MapEntry => x.born) ∘ Prod.fst from rfl, ← List.map_map, List.map_fst_zip (by omega)]
  have hmem : (e, f) ∈ es.toList.zip fs := List.mem_of_getElem? (i := j) (by rw [List.getElem?_zip_eq_some]; exact ⟨hj, hf⟩)
  have := filter_out (b := fun x : MapEntry × Fil => x.1.born) (p := fun x => !seen.contains x.1.born) (by rw [hm]; exact hn) hmem (by show (!seen.contains e.born) = true; rw [he]; rfl)
  refine this.trans (List.Perm.of_eq ?_)
  unfold leftZ
  congr 1
  refine List.filter_congr fun z _ => ?_
  rw [Array.contains_push]
  simp [Bool.not_or]
theorem leftZ_start {es : Array MapEntry} {fs : List Fil} (hl : es.toList.length = fs.length) : (leftZ es #[] fs).map (·.2) = fs := by
  unfold leftZ
  rw [List.filter_eq_self.2 (by simp), List.map_snd_zip (by omega)]
theorem leftZ_end {es : Array MapEntry} {seen : Array Nat} {fs : List Fil} (h : leftL es seen = []) : leftZ es seen fs = [] := by
  unfold leftZ
  rw [List.filter_eq_nil_iff]
  rintro ⟨e, f⟩ hx
  have he := (List.of_mem_zip hx).1
  have := List.filter_eq_nil_iff.1 h e he
  simpa using this
def i8s (l : List Int) : List Value := l.map (Value.int .i64)
def nOk (lo n : Int) : Bool := decide (lo ≤ n) && decide (n ≤ 4611686018427387904)
def btw (lo : Int) (l : List Int) : Bool := l.all (nOk lo)
set_option maxHeartbeats 1000000 in
set_option maxRecDepth 100000 in
theorem btw_in (lo x : Int) (b : Nat) (w : World) (hb : w.cell? ⟨b, 0, none⟩ = some (.int .i64 lo)) :
    Calls Tryz.prog 138 #[.int .i64 x, .pointer (some ⟨b, 0, none⟩)] w fun e w' => e = .returned (.bool (!nOk lo x)) ∧ w' = w := by
  by_cases h1 : x < lo
  · have hr : nOk lo x = false := by unfold nOk; rw [decide_eq_false (by omega)]; rfl
    have HR := Aside.mk hr
    clear hr
    go_enter Tryz.func138, Tryz.ntmps138
    go_wp2
    go_ret
    rw [HR.out]
    exact ⟨rfl, rfl⟩
  · have hr : nOk lo x = decide (x ≤ 4611686018427387904) := by unfold nOk; rw [decide_eq_true (by omega)]; rfl
    by_cases h2 : 4611686018427387904 < x
    · have HR : Aside (nOk lo x = false) := ⟨by rw [hr, decide_eq_false (by omega)]⟩
      clear hr
      go_enter Tryz.func138, Tryz.ntmps138
      go_wp2
      go_ret
      rw [HR.out]
      exact ⟨rfl, rfl⟩
    · have HR : Aside (nOk lo x = true) := ⟨by rw [hr, decide_eq_true (by omega)]⟩
      clear hr
      go_enter Tryz.func138, Tryz.ntmps138
      go_wp2
      go_ret
      rw [HR.out]
      exact ⟨rfl, rfl⟩
theorem btw_take {lo : Int} {l : List Int} {k : Nat} {x : Int} (hx : l[k]? = some x) : btw lo (l.take (k + 1)) = (btw lo (l.take k) && nOk lo x) := by
  unfold btw
  rw [List.take_add_one, hx, List.all_append]
  simp
theorem btw_bad {lo : Int} {l : List Int} {k : Nat} {x : Int} (hx : l[k]? = some x) (h : nOk lo x = false) : btw lo l = false := by
  unfold btw
  rw [Bool.eq_false_iff]
  intro hn
  rw [List.all_eq_true] at hn
  have := hn x (List.mem_of_getElem? hx)
  rw [h] at this
  cases this
set_option maxHeartbeats 1000000 in
set_option maxRecDepth 100000 in
theorem index_fn (lo : Int) (g : Nat) (l : List Int) (n c b : Nat) (w : World) (hln : l.length = n) (hm : n ≤ 4611686018427387904) (hb : w.cell? ⟨b, 0, none⟩ = some (.int .i64 lo)) (hc : Cells w (some ⟨g, 0, none⟩) (i8s l)) :
    Calls Tryz.prog 160 #[.slice (some ⟨g, 0, none⟩) n c, .func (.func 138) #[] #[.pointer (some ⟨b, 0, none⟩)]] w fun e w' => (∃ i : Int, e = .returned (.int .i64 i) ∧ (if 0 ≤ i then btw lo l = false else btw lo l = true)) ∧ w' = w := by
  have HL := Aside.mk (And.intro hln hc)
  have Hb := Aside.mk hb
  clear hln hc hb
  go_enter Tryz.func160, Tryz.ntmps160
  go_wp2
  go_loopw [8] (fun v8 wr => ∃ k : Nat, k ≤ n ∧ v8 = .int .i64 k ∧ Aside (btw lo (l.take k) = true) ∧ wr = w) (fun i _ => n - (intOf i).toNat)
  case atStart => exact ⟨0, by omega, rfl, ⟨rfl⟩, rfl⟩
  case round =>
    obtain ⟨k, hk, rfl, HB, hwr⟩ := hrel
    subst wr
    by_cases hlt : k < n
    · have hlt2 : (k : Int) < n := by omega
      have hkl : k < l.length := by rw [HL.out.1]; exact hlt
      obtain ⟨x, hx⟩ : ∃ x, l[k]? = some x := ⟨_, List.getElem?_eq_getElem hkl⟩
      have gx : w.cell? ⟨g, k, none⟩ = some (.int .i64 x) := by
        have := HL.out.2.some_ k (.int .i64 x) (by unfold i8s; rw [List.getElem?_map, hx]; rfl)
        rw [addr_add, Nat.zero_add] at this
        exact this
      have HX := Aside.mk hx
      clear hx hkl
      cases hq : nOk lo x with
      | false =>
        have HQ : Aside (btw lo l = false) := ⟨btw_bad HX.out hq⟩
        go_wp2_with fail
        refine (btw_in lo x b _ Hb.out).mono ?_
        rintro e w1 ⟨rfl, hw1⟩
        subst w1
        rw [hq]
        go_wp2
        go_ret
        exact ⟨⟨_, rfl, by rw [if_pos (by omega)]; exact HQ.out⟩, rfl⟩
      | true =>
        have HQ : Aside (btw lo (l.take (k + 1)) = true) := ⟨by rw [btw_take HX.out, HB.out, hq]; rfl⟩
        go_wp2_with fail
        refine (btw_in lo x b _ Hb.out).mono ?_
        rintro e w1 ⟨rfl, hw1⟩
        subst w1
        rw [hq]
        go_wp2
        go_roundw
        case rel => exact ⟨k + 1, by omega, by push_cast; rfl, HQ, by first | rfl | trivial⟩
        case measure => simp [intOf]; omega
    · obtain rfl : k = n := by omega
      have HQ : Aside (btw lo l = true) := ⟨by have := HB.out; rwa [List.take_of_length_le (by rw [HL.out.1]; exact Nat.le_refl _)] at this⟩
      go_wp2
      go_ret
      exact ⟨⟨_, rfl, by rw [if_neg (by omega)]; exact HQ.out⟩, rfl⟩
set_option maxHeartbeats 1000000 in
set_option maxRecDepth 100000 in
theorem contains_fn (lo : Int) (g : Nat) (l : List Int) (n c b : Nat) (w : World) (hln : l.length = n) (hm : n ≤ 4611686018427387904) (hb : w.cell? ⟨b, 0, none⟩ = some (.int .i64 lo)) (hc : Cells w (some ⟨g, 0, none⟩) (i8s l)) :
    Calls Tryz.prog 137 #[.slice (some ⟨g, 0, none⟩) n c, .func (.func 138) #[] #[.pointer (some ⟨b, 0, none⟩)]] w fun e w' => e = .returned (.bool (!btw lo l)) ∧ w' = w := by
  have HI := Aside.mk (index_fn lo g l n c b w hln hm hb hc)
  clear hln hc hb
  go_enter Tryz.func137, Tryz.ntmps137
  go_wp2_with fail
  refine HI.out.mono ?_
  rintro e w1 ⟨⟨i, rfl, hi⟩, hw1⟩
  subst w1
  by_cases h0 : 0 ≤ i
  · rw [if_pos h0] at hi
    have HV := Aside.mk hi
    clear hi
    go_wp2
    go_ret
    rw [HV.out]
    exact ⟨rfl, rfl⟩
  · rw [if_neg h0] at hi
    have HV := Aside.mk hi
    clear hi
    go_wp2
    go_ret
    rw [HV.out]
    exact ⟨by show Ending.returned (Value.bool (decide (0 ≤ i))) = _; rw [decide_eq_false (by omega)]; rfl, rfl⟩
set_option maxHeartbeats 1000000 in
set_option maxRecDepth 100000 in
theorem between_ok (E : Env) (q : HP) (lo : Int) (g : Nat) (l : List Int) (n c : Nat) (w : World) (hln : l.length = n) (hm : n ≤ 4611686018427387904) (hq : ∀ w, Sat E w q → Cells w (some ⟨g, 0, none⟩) (i8s l)) (hw : Sat E w q) :
    Calls Tryz.prog 105 #[.int .i64 lo, .slice (some ⟨g, 0, none⟩) n c] w fun e w' => e = .returned (.bool (btw lo l)) ∧ Sat E w' q := by
  have h1 := hw.alloc (.cells #[.int .i64 lo] 3)
  have HI := Aside.mk (And.intro (contains_fn lo g l n c w.heap.size _ hln hm h1.cell1 (hq _ h1.right)) h1.right)
  clear hln hq hw h1
  go_enter Tryz.func105, Tryz.ntmps105
  go_wp2_with fail
  refine HI.out.1.mono ?_
  rintro e w1 ⟨rfl, hw1⟩
  subst w1
  go_wp2
  go_ret
  simp only [Bool.not_not]
  exact ⟨rfl, HI.out.2⟩
structure Anch where
  seq : Int
  gen : Int
  lsn : Int
  seg : Int
  ext : Int
  flo : Int
  new : Int
  keep : Int
  next : Int
  cur : Int
def Anch.l (a : Anch) : List Int := [a.seq, a.gen, a.lsn, a.seg, a.ext, a.flo, a.new, a.keep, a.next, a.cur]
def canA (a : Anch) : Bool := btw 1 [a.seq, a.gen, a.seg, a.next] && btw 0 [a.lsn, a.ext, a.keep, a.cur]
set_option maxHeartbeats 1000000 in
set_option maxRecDepth 100000 in
theorem can_ok (E : Env) (q : HP) (a : Anch) (w : World) (hw : Sat E w q) :
    Calls Tryz.prog 43 #[.agg #[.int .i64 a.seq, .int .i64 a.gen, .int .i64 a.lsn, .int .i64 a.seg, .int .i64 a.ext, .int .i64 a.flo, .int .i64 a.new, .int .i64 a.keep, .int .i64 a.next, .int .i64 a.cur]] w fun e w' => e = .returned (.bool (canA a)) ∧ Sat E w' q := by
  have h1 := (hw.alloc (.cells #[.int .i64 a.seq, .int .i64 a.gen, .int .i64 a.lsn, .int .i64 a.seg, .int .i64 a.ext, .int .i64 a.flo, .int .i64 a.new, .int .i64 a.keep, .int .i64 a.next, .int .i64 a.cur] 24))
  have h2 := h1.alloc (.cells #[.int .i64 a.seq, .int .i64 a.gen, .int .i64 a.seg, .int .i64 a.next] 3)
  have hz : (w.alloc (.cells #[.int .i64 a.seq, .int .i64 a.gen, .int .i64 a.lsn, .int .i64 a.seg, .int .i64 a.ext, .int .i64 a.flo, .int .i64 a.new, .int .i64 a.keep, .int .i64 a.next, .int .i64 a.cur] 24)).heap.size = w.heap.size + 1 := by simp
  rw [hz] at h2
  have H2 := Aside.mk h2
  have HC : Aside (canA a = (btw 1 [a.seq, a.gen, a.seg, a.next] && btw 0 [a.lsn, a.ext, a.keep, a.cur])) := ⟨rfl⟩
  clear hw h1 h2 hz
  go_enter Tryz.func43, Tryz.ntmps43
  go_wp2_with fail
  refine (between_ok E _ 1 (w.heap.size + 1) [a.seq, a.gen, a.seg, a.next] 4 4 _ rfl (by omega) (fun w h => Sat.ptCells (off := 0) (l := i8s [a.seq, a.gen, a.seg, a.next]) h rfl) H2.out).mono ?_
  rintro e w1 ⟨rfl, h3⟩
  cases hb : btw 1 [a.seq, a.gen, a.seg, a.next] with
  | false =>
    have H3 := Aside.mk h3.right.right
    rw [hb] at HC
    clear h3 hb H2
    go_wp2
    go_ret
    rw [HC.out]
    exact ⟨rfl, H3.out⟩
  | true =>
    have H3 := Aside.mk h3.right
    rw [hb] at HC
    have k0 := H3.out.cell 2
    have k1 := H3.out.cell 4
    have k2 := H3.out.cell 7
    have k3 := H3.out.cell 9
    simp only [List.getElem?_toArray, List.getElem?_cons_zero, List.getElem?_cons_succ] at k0 k1 k2 k3
    have H4 := Aside.mk (H3.out.alloc (.cells #[.int .i64 a.lsn, .int .i64 a.ext, .int .i64 a.keep, .int .i64 a.cur] 3))
    clear h3 hb H2
    go_wp2_with fail
    refine (between_ok E _ 0 w1.heap.size [a.lsn, a.ext, a.keep, a.cur] 4 4 _ rfl (by omega) (fun w h => Sat.ptCells (off := 0) (l := i8s [a.lsn, a.ext, a.keep, a.cur]) h rfl) H4.out).mono ?_
    rintro e w2 ⟨rfl, h5⟩
    have H5 := Aside.mk h5.right.right
    clear h5
    go_wp2
    go_ret
    rw [HC.out]
    exact ⟨rfl, H5.out⟩
end Go.Proofs.YtnpinegpajbkeaaGreatDoor
namespace Go.Proofs.YtnpinegpajbkeaaGreatDoor
open Go.ChangeShapes Go.WideShapes Go.ChangeAt Go.WideMaps Go.WideElems Go.RowKit HP
def laidAll : List (String × DataW Unit) := [("dryrot/crc.quarter", Rows.laid_dryrot_crc_quarter)]
end Go.Proofs.YtnpinegpajbkeaaGreatDoor
namespace Go.Proofs.YtnpinegpajbkeaaGreatDoor
open Go.ChangeShapes Go.WideShapes Go.ChangeAt Go.RowKit HP
theorem old_carry {E : Env} {W w : World} (h : Sat E w (HP.old W)) : ∀ k, k < W.heap.size → w.heap[k]? = W.heap[k]? := fun k hk => Sat.old_block (p := HP.emp) (by rw [HP.mul_emp]; exact h) k hk
end Go.Proofs.YtnpinegpajbkeaaGreatDoor
namespace Go.Proofs.YtnpinegpajbkeaaGreatDoor
open Go.RowKit HP
def HP.imgs (L : List (Value × List Int)) : HP := HP.all (L.map fun x => HP.row 5 1 x.1 128 (b8s x.2))
structure RC where
  c : Cel
  vr : Value
  vd : Value
  vs : Value
  vw : Value
def RC.vals (x : RC) : List Value := [x.vr, x.vd, x.vs, x.vw, .bool x.c.waits]
structure RF where
  name : ByteArray
  val : Value
  cs : List RC
def RF.vals (f : RF) : List Value := [.string f.name, f.val]
def HP.rcs (f : RF) : HP := HP.row 176 5 f.val f.cs.length (f.cs.flatMap RC.vals)
def RC.In (L : List (Value × List Int)) (x : RC) : Prop := (x.vr, x.c.read) ∈ L ∧ (x.vd, x.c.durable) ∈ L ∧ (x.vs, x.c.synced) ∈ L ∧ (x.vw, x.c.written) ∈ L
structure RView (A : Dk) (fs : List RF) (L : List (Value × List Int)) : Prop where
  same : fs.map (fun f => (f.name, f.cs.map (·.c))) = A.files
  imgs : ∀ f ∈ fs, ∀ x ∈ f.cs, x.In L
  fine : A.Fine
def HP.rdk (y : Nat) (room fuse : Int) (v : Value) (fs : List RF) (L : List (Value × List Int)) : HP :=
  HP.pt y (.cells #[.int .i64 room, v, .int .i64 fuse] 158) * (HP.row 174 2 v fs.length (fs.flatMap RF.vals) * (HP.all (fs.map HP.rcs) * HP.imgs L))
def HP.rdisk (y : Nat) (A : Dk) : HP := HP.ex fun x : Value × List RF × List (Value × List Int) => HP.fact (RView A x.2.1 x.2.2) * HP.rdk y A.room A.fuse x.1 x.2.1 x.2.2
section
variable {E : Env} {q : HP} {w : World} {y : Nat} {A : Dk} {fs : List RF} {L : List (Value × List Int)} {v : Value}
theorem Sat.rdisk_open (h : Sat E w (HP.rdisk y A * q)) : ∃ v fs L, RView A fs L ∧ Sat E w (HP.rdk y A.room A.fuse v fs L * q) := by
  obtain ⟨⟨v, fs, L⟩, h⟩ := h.ex_elim
  obtain ⟨hv, h⟩ := (h.perm (HP.mul_assoc _ _ _)).fact_elim
  exact ⟨v, fs, L, hv, h⟩
theorem Sat.rdisk_close (hv : RView A fs L) (h : Sat E w (HP.rdk y A.room A.fuse v fs L * q)) : Sat E w (HP.rdisk y A * q) := by
  refine Sat.ex_intro (v, fs, L) ?_
  exact (Sat.fact_intro hv h).perm (HP.mul_assoc _ _ _).symm
theorem Sat.rdk_parts {room fuse : Int} (h : Sat E w (HP.rdk y room fuse v fs L * q)) : Sat E w (HP.pt y (.cells #[.int .i64 room, v, .int .i64 fuse] 158) * (HP.row 174 2 v fs.length (fs.flatMap RF.vals) * (HP.all (fs.map HP.rcs) * (HP.imgs L * q)))) := by
  unfold HP.rdk at h
  exact h.perm (by ac_rfl)
theorem Sat.rdk_join {room fuse : Int} (h : Sat E w (HP.pt y (.cells #[.int .i64 room, v, .int .i64 fuse] 158) * (HP.row 174 2 v fs.length (fs.flatMap RF.vals) * (HP.all (fs.map HP.rcs) * (HP.imgs L * q))))) : Sat E w (HP.rdk y room fuse v fs L * q) := by
  unfold HP.rdk
  exact h.perm (by ac_rfl)
theorem all_mem {l : List HP} {p : HP} (h : p ∈ l) : ∃ r, HP.all l = p * r := by
  obtain ⟨j, hj⟩ := List.getElem?_of_mem h
  exact ⟨_, all_take hj⟩
theorem Sat.img {x : Value} {b : List Int} (hm : (x, b) ∈ L) (h : Sat E w (HP.imgs L * q)) : ∃ A c, x = .slice A 128 c ∧ 128 ≤ c ∧ c ≤ maxLen ∧ Cells w A (b8s b) := by
  obtain ⟨r, hr⟩ := all_mem (List.mem_map.2 ⟨_, hm, rfl⟩ : HP.row 5 1 x 128 (b8s b) ∈ L.map fun x => HP.row 5 1 x.1 128 (b8s x.2))
  unfold HP.imgs at h
  rw [hr] at h
  have h2 := h.perm (HP.mul_assoc _ _ _)
  obtain ⟨A, c, rfl, hc, hm⟩ := h2.row_slice
  exact ⟨A, c, rfl, hc, hm, h2.row_cells⟩
theorem Sat.img_push {x : Value} {b : List Int} (h : Sat E w (HP.row 5 1 x 128 (b8s b) * (HP.imgs L * q))) : Sat E w (HP.imgs ((x, b) :: L) * q) := by
  unfold HP.imgs at h ⊢
  rw [List.map_cons, HP.all_cons]
  exact h.perm (HP.mul_assoc _ _ _).symm
theorem RC.In.push {L : List (Value × List Int)} {x : RC} (h : x.In L) (z : Value × List Int) : x.In (z :: L) := ⟨List.mem_cons_of_mem _ h.1, List.mem_cons_of_mem _ h.2.1, List.mem_cons_of_mem _ h.2.2.1, List.mem_cons_of_mem _ h.2.2.2⟩
end
def strangeC (b : UInt8) : Bool := strangeB (b.toNat : Int)
theorem strange_high {c : Int} (h : 128 ≤ c) : strangeB c = true := by
  unfold strangeB
  simp
  omega
theorem runes_any (s : ByteArray) : ∀ (n pos : Nat) (acc : Array Value), s.size - pos ≤ n → ((Conv.runesFrom s n pos acc).toList.map intOf).any strangeB = ((acc.toList.map intOf).any strangeB || (s.data.toList.drop pos).any strangeC) := by
  intro n
  induction n with
  | zero =>
    intro pos acc h
    unfold Conv.runesFrom
    rw [List.drop_eq_nil_of_le (by rw [Array.length_toList]; show s.size ≤ pos; omega)]
    simp
  | succ n ih =>
    intro pos acc h
    unfold Conv.runesFrom
    by_cases hlt : pos < s.size
    · rw [if_pos hlt]
      have hd : s.data.toList.drop pos = s[pos] :: s.data.toList.drop (pos + 1) := by
        rw [List.drop_eq_getElem_cons (by rw [Array.length_toList]; exact hlt)]
        rfl
      rw [hd, List.any_cons]
      rcases Nat.lt_or_ge (s[pos]).toNat 128 with ha | ha
      · rw [decode_ascii s pos hlt ha]
        dsimp only
        rw [ih (pos + 1) _ (by omega), Array.toList_push, List.map_append, List.any_append]
        simp only [List.map_cons, List.map_nil, List.any_cons, List.any_nil, Bool.or_false, intOf, Int.ofNat_eq_natCast]
        rw [Bool.or_assoc]
        rfl
      · have hh := decode_high s pos hlt ha
        rw [ih _ _ (by omega), Array.toList_push, List.map_append, List.any_append]
        simp only [List.map_cons, List.map_nil, List.any_cons, List.any_nil, Bool.or_false, intOf, Int.ofNat_eq_natCast]
        rw [strange_high (by have := hh.1; omega)]
        have : strangeC s[pos] = true := strange_high (by omega)
        rw [this]
        simp
    · rw [if_neg hlt, List.drop_eq_nil_of_le (by rw [Array.length_toList]; show s.size ≤ pos; omega)]
      simp
theorem named_bytes (s : ByteArray) : namedB s = (decide (1 ≤ s.size) && decide (s.size ≤ 24) && !s.data.toList.any strangeC) := by
  unfold namedB runesOf
  rw [runes_any s s.size 0 #[] (by omega)]
  have e : (!s.toList.isEmpty) = decide (1 ≤ s.size) := by
    rw [ByteArray.toList_eq]
    have : s.data.toList.length = s.size := by rw [Array.length_toList]; rfl
    cases hd : s.data.toList with
    | nil => rw [hd] at this; simp at this; simp [← this]
    | cons a l => rw [hd] at this; simp at this; simp; omega
  rw [e]
  simp
end Go.Proofs.YtnpinegpajbkeaaGreatDoor
namespace Go.Proofs.YtnpinegpajbkeaaGreatDoor
open Go.RowKit HP
set_option maxHeartbeats 2000000 in
set_option maxRecDepth 100000 in
theorem ref_isName (s : ByteArray) (w : World) (hs : s.size ≤ maxLen) :
    Calls Tryz.prog 117 #[.string s] w fun e w' => e = .returned (.bool (namedB s)) ∧ w' = w := by
  obtain ⟨R, hR⟩ : ∃ R, R = namedB s := ⟨_, rfl⟩
  have HR : Aside (R = (decide (1 ≤ s.size) && decide (s.size ≤ 24) && !s.data.toList.any strangeC)) := ⟨by rw [hR, named_bytes]⟩
  rw [← hR]
  clear hR
  have hd : s.data.toList.length = s.size := by rw [Array.length_toList]; rfl
  have HD := Aside.mk hd
  unfold maxLen at hs
  clear hd
  go_enter Tryz.func117, Tryz.ntmps117
  go_wp2
  go_loopw [3] (fun v3 wr => ∃ k : Nat, k ≤ s.size ∧ v3 = .int .i64 k ∧ Aside ((s.data.toList.take k).any strangeC = false) ∧ wr = w) (fun i _ => s.size - (intOf i).toNat)
  case atStart => exact ⟨0, Nat.zero_le _, rfl, ⟨by simp⟩, rfl⟩
  case round =>
    obtain ⟨k, hk, rfl, HS, rfl⟩ := hrel
    by_cases hlt : k < s.size
    · have hlt2 : (k : Int) < (s.size : Int) := by omega
      have h0 : (0 : Int) ≤ (k : Int) := by omega
      have hsk : s.data.toList.take (k + 1) = s.data.toList.take k ++ [s[k]] := by
        rw [List.take_succ_eq_append_getElem (by rw [HD.out]; exact hlt)]
        rfl
      have HSK := Aside.mk hsk
      clear hsk
      go_wp2
      all_goals first
        | (refine ⟨⟨k + 1, by omega, by go_num, ⟨?_⟩, trivial⟩, by simp [intOf]; omega⟩
           rw [HSK.out, List.any_append, HS.out]
           have hst : strangeC s[k] = false := by
             unfold strangeC strangeB
             simp_all
             try omega
           simp [hst])
        | (go_ret
           refine ⟨?_, rfl⟩
           have hst : strangeC s[k] = true := by
             unfold strangeC strangeB
             simp_all
             try omega
           have hany : s.data.toList.any strangeC = true := by
             rw [← List.take_append_drop (k + 1) s.data.toList, HSK.out]
             simp [hst]
           rw [HR.out, hany]
           simp)
    · obtain rfl : k = s.size := by omega
      have hall : s.data.toList.any strangeC = false := by
        have h := HS.out
        rwa [List.take_of_length_le (by rw [HD.out]; exact Nat.le_refl _)] at h
      have HA := Aside.mk hall
      clear hall
      go_wp2
      all_goals
        go_ret
        refine ⟨?_, rfl⟩
        rw [HR.out, HA.out]
        first
          | (have h1 : 1 ≤ s.size := by omega
             have h1' : (1 : Int) ≤ (s.size : Int) := by omega
             by_cases h24 : s.size ≤ 24
             · have h24' : (s.size : Int) ≤ 24 := by omega
               simp [h1, h24, h24', h1']
             · have h24' : ¬ (s.size : Int) ≤ 24 := by omega
               simp [h1, h24, h24', h1'])
          | (have h1 : ¬ 1 ≤ s.size := by omega
             simp [h1])
set_option maxHeartbeats 1000000 in
set_option maxRecDepth 100000 in
theorem ref_new (E : Env) (q : HP) (room : Int) (w : World) (h : 0 ≤ room ∧ room ≤ 100000) (hw : Sat E w q) :
    Calls Tryz.prog 40 #[.int .i64 room] w fun e w' => ∃ y, e = .returned (.tuple #[.pointer (some ⟨y, 0, none⟩), .int .i64 0]) ∧ Sat E w' (HP.rdisk y (Dk.new room) * q) := by
  obtain ⟨h0, h1⟩ := h
  have hb := hw.alloc (.cells #[.int .i64 room, .slice none 0 0, .int .i64 (-1)] 158)
  have HB := Aside.mk hb
  have HR := Aside.mk (And.intro h0 h1)
  clear hb hw
  go_enter Tryz.func40, Tryz.ntmps40
  go_wp2
  go_ret2
  refine ⟨w.heap.size, rfl, ?_⟩
  have h2 := HB.out.row_nil 174 2 none
  refine Sat.rdisk_close (v := .slice none 0 0) (fs := []) (L := []) ⟨rfl, (fun f hf => by cases hf), Dk.new_fine HR.out⟩ (Sat.rdk_join ?_)
  refine h2.perm ?_
  show HP.row _ 2 _ 0 [] * (HP.pt _ _ * q) = HP.pt _ _ * (HP.row _ 2 _ 0 [] * (HP.emp * (HP.emp * q)))
  rw [HP.emp_mul, HP.emp_mul]
  ac_rfl
theorem ref_stops (E : Env) (q : HP) (y : Nat) (A : Dk) (v : Value) (fs : List RF) (L : List (Value × List Int)) (w : World) (hf : -1 ≤ A.fuse ∧ A.fuse ≤ 9223372036854775807) (hw : Sat E w (HP.rdk y A.room A.fuse v fs L * q)) :
    Calls Tryz.prog 118 #[.pointer (some ⟨y, 0, none⟩)] w fun e w' => e = .returned (.bool (!A.goes)) ∧ Sat E w' (HP.rdk y A.room A.burnt.fuse v fs L * q) := by
  have hp := hw.rdk_parts
  have c2 := hp.cell 2
  have z2 := hp.thaw 2
  have HP := Aside.mk hp
  simp only [List.getElem?_toArray, List.getElem?_cons_zero, List.getElem?_cons_succ] at c2
  clear hw hp
  go_enter Tryz.func118, Tryz.ntmps118
  by_cases h0 : A.fuse = 0
  · have hg : A.goes = false := by unfold Dk.goes burnI; simp [h0]
    have hb : A.burnt.fuse = A.fuse := by unfold Dk.burnt burnI; simp [h0]
    rw [hg, hb]
    rw [h0] at c2
    clear hg hb h0
    go_wp2
    go_ret
    exact ⟨rfl, HP.out.rdk_join⟩
  · by_cases h1 : 0 < A.fuse
    · have hg : A.goes = true := by unfold Dk.goes burnI; simp [h1]
      have hb : A.burnt.fuse = A.fuse - 1 := by unfold Dk.burnt burnI; simp [h1]
      rw [hg, hb]
      clear hg hb
      obtain ⟨fu, hfu⟩ : ∃ fu, fu = A.fuse := ⟨_, rfl⟩
      rw [← hfu] at c2 h0 h1 hf ⊢
      have HF := Aside.mk hfu
      clear hfu
      have hs := HP.out.set (i := 2) (.int .i64 (fu - 1))
      simp only [List.setIfInBounds_toArray, List.set_cons_zero, List.set_cons_succ] at hs
      have HS := Aside.mk hs
      have hz : ((fu - 1 : Int)) ≤ 9223372036854775807 := by omega
      have hz1 : (-9223372036854775808 : Int) ≤ fu - 1 := by omega
      clear hs
      go_wp2
      go_ret
      exact ⟨rfl, HS.out.rdk_join⟩
    · have hg : A.goes = true := by unfold Dk.goes burnI; simp [h1]; omega
      have hb : A.burnt.fuse = A.fuse := by unfold Dk.burnt burnI; simp [h1]
      rw [hg, hb]
      clear hg hb
      obtain ⟨fu, hfu⟩ : ∃ fu, fu = A.fuse := ⟨_, rfl⟩
      rw [← hfu] at c2 h0 h1 hf HP ⊢
      clear hfu
      go_wp2
      go_ret
      exact ⟨rfl, HP.out.rdk_join⟩
end Go.Proofs.YtnpinegpajbkeaaGreatDoor
namespace Go.Proofs.YtnpinegpajbkeaaGreatDoor
open Go.RowKit
section
variable {P : Program} {ops : Array Oper} {Q : Exit → Act → World → Prop}
def BR (P : Program) (ops : Array Oper) (Q : Exit → Act → World → Prop) (effs keeps : List Nat) (T : World → Prop) (n : Nat) (l : Array Bool) (a : Act) (w : World) (i : Nat) : Prop :=
  ∃ oi, ops[i]? = some oi ∧ effs.contains i = true ∧ ∀ K : Act → World → Prop, (∀ a' w', (keeps.contains i = true → T w') → wpR P ops Q (RR effs keeps T) n (l.setIfInBounds i true) a' w' → K a' w') → if Region.wanted oi (yielded ops a.tmps) = true then Oper.wp P oi a w K Q else K (a.put oi.dst undef) w
theorem wpR_many {effs keeps : List Nat} {T : World → Prop} {n : Nat} {l : Array Bool} {a : Act} {w : World} (rs : List Nat) (hne : rs.isEmpty = false) (hc : (Region.ready .any ops l == rs) = true) (h : ∀ i ∈ rs, BR P ops Q effs keeps T n l a w i) :
    wpR P ops Q (RR effs keeps T) (n + 1) l a w := by
  have h1 : Region.ready .any ops l = rs := by simpa using hc
  refine ⟨fun h0 => (by rw [h1] at h0; subst h0; cases hne), fun j hj => ?_⟩
  rw [h1] at hj
  obtain ⟨oi, hi, he, hb⟩ := h j hj
  refine wpOp_step hi fun K hK => hb K fun a' w' hT h' => hK a' w' ⟨?_, h'⟩
  unfold RR
  rw [if_pos he]
  split
  · rename_i hk
    exact fun _ => hT hk
  · trivial
theorem br_keep {effs keeps : List Nat} {T : World → Prop} {i : Nat} {oi : Oper} {n : Nat} {l : Array Bool} {a : Act} {w : World} (l' : Array Bool) (hi : ops[i]? = some oi) (hc : (effs.contains i && (l.setIfInBounds i true == l')) = true)
    (h : ∀ K : Act → World → Prop, (∀ a' w', T w' → wpR P ops Q (RR effs keeps T) n l' a' w' → K a' w') → if Region.wanted oi (yielded ops a.tmps) = true then Oper.wp P oi a w K Q else K (a.put oi.dst undef) w) : BR P ops Q effs keeps T n l a w i := by
  simp only [Bool.and_eq_true, beq_iff_eq] at hc
  obtain ⟨h1, h3⟩ := hc
  subst h3
  by_cases hk : keeps.contains i = true
  · exact ⟨oi, hi, h1, fun K hK => h K fun a' w' hT h' => hK a' w' (fun _ => hT) h'⟩
  · exact ⟨oi, hi, h1, fun K hK => h K fun a' w' hT h' => hK a' w' (fun hk' => absurd hk' hk) h'⟩
end
theorem share {S G : Prop} (main : S → G) (pf : S) : G := main pf
end Go.Proofs.YtnpinegpajbkeaaGreatDoor
namespace Go.Proofs.YtnpinegpajbkeaaGreatDoor
open Go.RowKit HP
section
variable {E : Env} {w : World} {q : HP} {e : TypeId} {size n : Nat} {v : Value} {cs : List Value}
theorem wp_append_row {P : Program} {o : Oper} {a : Act} {K : Act → World → Prop} {Q : Exit → Act → World → Prop} {s x : Operand} {t : TypeId} {z : Value} {bytes : Nat}
    (T : SlTy P t e z size bytes)
    (ho : o.op = .call { callee := .builtin .append, args := #[s, x], argTypes := #[t, t] })
    {A : Option Addr} {m c : Nat} {news : List Value} (hs : a.eval s = v) (hx : a.eval x = .slice A m c)
    (h : Sat E w (row e size v n cs * q)) (hnews : Cells w A news) (hl : news.length = m * size) (h1 : news.all Value.oneCell' = true)
    (h63 : n + m ≤ maxLen) (hbytes : (n + m) * bytes ≤ 140737488355328)
    (hk : ∀ v' w', Sat E w' (row e size v' (n + m) (cs ++ news) * q) → K (a.put o.dst v') w') : o.wp P a w K Q := by
  obtain ⟨i, hi, hz, hsize, hby⟩ := info_parts T.info
  obtain ⟨v', w', hr, h2⟩ := run_append_row (P := P) (ty := o.type) T.under hi hz hsize hby T.cells h A m c news hl hnews (List.all_eq_true.1 h1) h63 hbytes (fun _ => T.pos)
  unfold Oper.wp execOp
  simp only [ho, resolve, invoke, builtin, Sem.run_bind, Sem.run_pure, Result.andThen_ok, List.map_toArray, List.map_cons, List.map_nil, hs, hx, hr]
  exact hk v' w' h2
end
end Go.Proofs.YtnpinegpajbkeaaGreatDoor
namespace Go.Proofs.YtnpinegpajbkeaaGreatDoor
open Go.RowKit HP
theorem dk_fileQ {E : Env} {q : HP} {w : World} {d m : Nat} {room fuse : Int} {es : Array MapEntry} {clock : Nat} {fs : List Fil} (hw : Sat E w (HP.dk d room fuse m es clock fs * q)) {j : Nat} {f : Fil} (hj : fs[j]? = some f) :
    ∃ R0 : HP, Sat E w (HP.row 145 1 f.val f.cels.length (celPtrs f.cels) * (HP.cels f.cels * (R0 * q))) ∧
      ∀ (q' : HP) (w' : World) (cels' : List (Nat × Cel)), cels'.map (·.1) = f.cels.map (·.1) → Sat E w' (HP.row 145 1 f.val f.cels.length (celPtrs f.cels) * (HP.cels cels' * (R0 * q'))) →
        Sat E w' (HP.dk d room fuse m es clock (fs.set j ⟨f.name, f.val, cels'⟩) * q') := by
  have h1 := dk_parts hw
  have h2 : Sat E w (HP.all (fs.map HP.fil) * (HP.dsk d room fuse m * (HP.pt m (.map es clock) * q))) := h1.perm (by ac_rfl)
  rw [all_take (l := fs.map HP.fil) (j := j) (p := HP.fil f) (by rw [List.getElem?_map, hj]; rfl)] at h2
  refine ⟨HP.all ((fs.map HP.fil).eraseIdx j) * (HP.dsk d room fuse m * HP.pt m (.map es clock)), h2.perm (by unfold HP.fil HP.cels Fil.ptrs celPtrs; ac_rfl), fun q' w' cels' hfst h => ?_⟩
  have hjl : j < fs.length := (List.getElem?_eq_some_iff.1 hj).1
  have hlen : cels'.length = f.cels.length := by simpa using congrArg List.length hfst
  unfold HP.dk
  rw [all_take (l := (fs.set j (⟨f.name, f.val, cels'⟩ : Fil)).map HP.fil) (j := j) (p := HP.fil ⟨f.name, f.val, cels'⟩) (by rw [List.getElem?_map, List.getElem?_set]; simp [hjl])]
  rw [List.map_set, List.eraseIdx_set_eq]
  have hp : (⟨f.name, f.val, cels'⟩ : Fil).ptrs = celPtrs f.cels := by
    show cels'.map (fun x => Value.pointer (some ⟨x.1, 0, none⟩)) = _
    unfold celPtrs
    have := congrArg (List.map fun b : Nat => Value.pointer (some ⟨b, 0, none⟩)) hfst
    simpa [List.map_map, Function.comp_def] using this
  have e1 : HP.fil ⟨f.name, f.val, cels'⟩ = HP.row 145 1 f.val f.cels.length (celPtrs f.cels) * HP.cels cels' := by
    unfold HP.fil HP.cels
    rw [hp]
    show HP.row 145 1 f.val cels'.length _ * _ = _
    rw [hlen]
  rw [e1]
  exact h.perm (by ac_rfl)
set_option maxHeartbeats 4000000 in
set_option maxRecDepth 100000 in
theorem refcan_ok (E : Env) (q : HP) (a : Anch) (w : World) (hw : Sat E w q) :
    Calls Tryz.prog 51 #[.agg #[.int .i64 a.seq, .int .i64 a.gen, .int .i64 a.lsn, .int .i64 a.seg, .int .i64 a.ext, .int .i64 a.flo, .int .i64 a.new, .int .i64 a.keep, .int .i64 a.next, .int .i64 a.cur]] w fun e w' => e = .returned (.bool (canA a)) ∧ Sat E w' q := by
  have h1 := (hw.alloc (.cells #[.int .i64 a.seq, .int .i64 a.gen, .int .i64 a.lsn, .int .i64 a.seg, .int .i64 a.ext, .int .i64 a.flo, .int .i64 a.new, .int .i64 a.keep, .int .i64 a.next, .int .i64 a.cur] 24))
  have h2 := h1.alloc (.cells (i8s [a.seq, a.gen, a.seg, a.next]).toArray 3)
  have hz : (w.alloc (.cells #[.int .i64 a.seq, .int .i64 a.gen, .int .i64 a.lsn, .int .i64 a.seg, .int .i64 a.ext, .int .i64 a.flo, .int .i64 a.new, .int .i64 a.keep, .int .i64 a.next, .int .i64 a.cur] 24)).heap.size = w.heap.size + 1 := by simp
  rw [hz] at h2
  have H2 := Aside.mk h2
  have HC : Aside (canA a = (btw 1 [a.seq, a.gen, a.seg, a.next] && btw 0 [a.lsn, a.ext, a.keep, a.cur])) := ⟨rfl⟩
  clear hw h1 h2 hz
  go_enter Tryz.func51, Tryz.ntmps51
  go_wp2
  go_loopw [17] (fun v17 wr => ∃ k : Nat, k ≤ 4 ∧ v17 = .int .i64 k ∧ Aside (btw 1 ([a.seq, a.gen, a.seg, a.next].take k) = true) ∧ Aside (Sat E wr (HP.pt (w.heap.size + 1) (.cells (i8s [a.seq, a.gen, a.seg, a.next]).toArray 3) * (HP.pt w.heap.size (.cells #[.int .i64 a.seq, .int .i64 a.gen, .int .i64 a.lsn, .int .i64 a.seg, .int .i64 a.ext, .int .i64 a.flo, .int .i64 a.new, .int .i64 a.keep, .int .i64 a.next, .int .i64 a.cur] 24) * q)))) (fun i _ => 4 - (intOf i).toNat)
  case atStart => exact ⟨0, by omega, rfl, ⟨rfl⟩, H2⟩
  case round =>
    obtain ⟨k, hk, rfl, HB, HS⟩ := hrel
    by_cases hlt : k < 4
    · have hlt2 : (k : Int) < 4 := by omega
      obtain ⟨x, hx⟩ : ∃ x, [a.seq, a.gen, a.seg, a.next][k]? = some x := ⟨_, List.getElem?_eq_getElem (show k < 4 from hlt)⟩
      have gx : wr.cell? ⟨(w.heap.size + 1), k, none⟩ = some (.int .i64 x) := by
        have := (Sat.ptCells (off := 0) (l := i8s [a.seq, a.gen, a.seg, a.next]) HS.out rfl).some_ k (.int .i64 x) (by unfold i8s; rw [List.getElem?_map, hx]; rfl)
        rw [addr_add, Nat.zero_add] at this
        exact this
      have HX := Aside.mk hx
      clear hx
      by_cases h1 : x < 1
      · have HN : Aside (btw 1 [a.seq, a.gen, a.seg, a.next] = false) := ⟨btw_bad HX.out (by unfold nOk; rw [decide_eq_false (by omega)]; rfl)⟩
        go_wp2
        go_ret
        rw [HC.out, HN.out]
        exact ⟨rfl, HS.out.right.right⟩
      · by_cases h2 : 4611686018427387904 < x
        · have HN : Aside (btw 1 [a.seq, a.gen, a.seg, a.next] = false) := ⟨btw_bad HX.out (by unfold nOk; rw [decide_eq_true (by omega), decide_eq_false (by omega)]; rfl)⟩
          go_wp2
          go_ret
          rw [HC.out, HN.out]
          exact ⟨rfl, HS.out.right.right⟩
        · have HN : Aside (btw 1 ([a.seq, a.gen, a.seg, a.next].take (k + 1)) = true) := ⟨by rw [btw_take HX.out, HB.out]; unfold nOk; rw [decide_eq_true (by omega), decide_eq_true (by omega)]; rfl⟩
          go_wp2
          go_roundw
          case rel => exact ⟨k + 1, by omega, by push_cast; rfl, HN, HS⟩
          case measure => simp [intOf]; omega
    · obtain rfl : k = 4 := by omega
      have HN : Aside (btw 1 [a.seq, a.gen, a.seg, a.next] = true) := ⟨HB.out⟩
      have HN1 : Aside (btw 1 [a.seq, a.gen, a.seg, a.next] = true) := HN
      clear HN HB
      have h2 := HS.out.right
      have k0 := h2.cell 2
      have k1 := h2.cell 4
      have k2 := h2.cell 7
      have k3 := h2.cell 9
      simp only [List.getElem?_toArray, List.getElem?_cons_zero, List.getElem?_cons_succ] at k0 k1 k2 k3
      have H3 := Aside.mk (h2.alloc (.cells (i8s [a.lsn, a.ext, a.keep, a.cur]).toArray 3))
      clear h2
      obtain ⟨b2, hb2⟩ : ∃ b, b = wr.heap.size := ⟨_, rfl⟩
      rw [← hb2] at H3
      go_wp2
      rw [← hb2]
      clear hb2 k0 k1 k2 k3
      go_loopw [38] (fun v38 wr => ∃ k : Nat, k ≤ 4 ∧ v38 = .int .i64 k ∧ Aside (btw 0 ([a.lsn, a.ext, a.keep, a.cur].take k) = true) ∧ Aside (Sat E wr (HP.pt b2 (.cells (i8s [a.lsn, a.ext, a.keep, a.cur]).toArray 3) * (HP.pt w.heap.size (.cells #[.int .i64 a.seq, .int .i64 a.gen, .int .i64 a.lsn, .int .i64 a.seg, .int .i64 a.ext, .int .i64 a.flo, .int .i64 a.new, .int .i64 a.keep, .int .i64 a.next, .int .i64 a.cur] 24) * q)))) (fun i _ => 4 - (intOf i).toNat)
      case atStart => exact ⟨0, by omega, rfl, ⟨rfl⟩, H3⟩
      case round =>
        obtain ⟨k, hk, rfl, HB, HS⟩ := hrel
        by_cases hlt : k < 4
        · have hlt2 : (k : Int) < 4 := by omega
          obtain ⟨x, hx⟩ : ∃ x, [a.lsn, a.ext, a.keep, a.cur][k]? = some x := ⟨_, List.getElem?_eq_getElem (show k < 4 from hlt)⟩
          have gx : wr.cell? ⟨b2, k, none⟩ = some (.int .i64 x) := by
            have := (Sat.ptCells (off := 0) (l := i8s [a.lsn, a.ext, a.keep, a.cur]) HS.out rfl).some_ k (.int .i64 x) (by unfold i8s; rw [List.getElem?_map, hx]; rfl)
            rw [addr_add, Nat.zero_add] at this
            exact this
          have HX := Aside.mk hx
          clear hx
          by_cases h1 : x < 0
          · have HN : Aside (btw 0 [a.lsn, a.ext, a.keep, a.cur] = false) := ⟨btw_bad HX.out (by unfold nOk; rw [decide_eq_false (by omega)]; rfl)⟩
            go_wp2
            go_ret
            rw [HC.out, HN.out]
            exact ⟨by rw [HN1.out]; rfl, HS.out.right.right⟩
          · by_cases h2 : 4611686018427387904 < x
            · have HN : Aside (btw 0 [a.lsn, a.ext, a.keep, a.cur] = false) := ⟨btw_bad HX.out (by unfold nOk; rw [decide_eq_true (by omega), decide_eq_false (by omega)]; rfl)⟩
              go_wp2
              go_ret
              rw [HC.out, HN.out]
              exact ⟨by rw [HN1.out]; rfl, HS.out.right.right⟩
            · have HN : Aside (btw 0 ([a.lsn, a.ext, a.keep, a.cur].take (k + 1)) = true) := ⟨by rw [btw_take HX.out, HB.out]; unfold nOk; rw [decide_eq_true (by omega), decide_eq_true (by omega)]; rfl⟩
              go_wp2
              go_roundw
              case rel => exact ⟨k + 1, by omega, by push_cast; rfl, HN, HS⟩
              case measure => simp [intOf]; omega
        · obtain rfl : k = 4 := by omega
          have HN : Aside (btw 0 [a.lsn, a.ext, a.keep, a.cur] = true) := ⟨HB.out⟩
          go_wp2
          go_ret
          rw [HC.out, HN.out, HN1.out]
          exact ⟨rfl, HS.out.right.right⟩
def crc1 (r : Nat) : Nat := if r % 2 = 1 then r / 2 ^^^ 2197175160 else r / 2
def crcJ : Nat → Nat → Nat
  | 0, r => r
  | k + 1, r => crc1 (crcJ k r)
def sliceLen : Value → Nat
  | .slice _ n _ => n
  | _ => 0
def sliceLenT : Value → Nat
  | .slice _ n _ => n
  | _ => 0
set_option maxHeartbeats 1000000 in
set_option maxRecDepth 100000 in
theorem full_ok (E : Env) (q : HP) (s : StepV) (w : World) (hl : s.b.l.length ≤ s.b.cap) (hq : ∀ E w, Sat E w q → Cells w s.b.A (b8s s.b.l)) (hw : Sat E w q) :
    Calls Tryz.prog 77 #[.agg s.vals.toArray] w fun e w' => ∃ g, e = .returned (.slice (some ⟨g, 0, none⟩) 128 128) ∧ Sat E w' (HP.row 5 1 (.slice (some ⟨g, 0, none⟩) 128 128) 128 (b8s (fullOf s.b.l)) * q) := by
  unfold StepV.vals Sl.val
  go_enter Tryz.func77, Tryz.ntmps77
  have h1 := hw.alloc (.cells #[.int .i64 s.op, .int .i64 s.i, .int .i64 s.at_, .int .i64 s.n, .string s.name, .slice s.b.A s.b.l.length s.b.cap, .int .u8 s.mask, .slice s.kept.A s.kept.l.length s.kept.cap] 46)
  have HH := Aside.mk (And.intro h1 (And.intro hl hq))
  clear hw h1 hl hq
  go_wp2_with (first
    | (refine wpList_make_row (n := 128) slB8 rfl rfl rfl rfl rfl HH.out.1 (by unfold maxLen; omega) (by omega) (fun g w2 hw2 => ?_); have g5 := (hw2.s2).cell 5; simp only [List.getElem?_toArray, List.getElem?_cons_zero, List.getElem?_cons_succ] at g5; have HW2 := Aside.mk hw2; clear hw2)
    | (at_builtin; fail)
    | (refine wpList_copy_sat Tryz.underlying43 (by kernel_rfl) rfl rfl rfl rfl HW2.out (b8s_length _) (HH.out.2.2 _ _ HW2.out.right.right) (b8s_one _) (fun w3 hw3 => ?_); have HW3 := Aside.mk hw3; clear hw3))
  go_ret
  refine ⟨g, rfl, ?_⟩
  have h9 := HW3.out.drop2
  rw [full_cells] at h9
  exact h9
end Go.Proofs.YtnpinegpajbkeaaGreatDoor
namespace Go.Proofs.YtnpinegpajbkeaaGreatDoor
open Go.ChangeShapes Go.WideShapes Go.ChangeAt Go.RowKit HP
def rdAnch : Rd Anch := rdMap (rdPair (rdInt .i64) (rdPair (rdInt .i64) (rdPair (rdInt .i64) (rdPair (rdInt .i64) (rdPair (rdInt .i64) (rdPair (rdInt .i64) (rdPair (rdInt .i64) (rdPair (rdInt .i64) (rdPair (rdInt .i64) (rdPair (rdInt .i64) rdEnd)))))))))) (fun x => (⟨x.1, x.2.1, x.2.2.1, x.2.2.2.1, x.2.2.2.2.1, x.2.2.2.2.2.1, x.2.2.2.2.2.2.1, x.2.2.2.2.2.2.2.1, x.2.2.2.2.2.2.2.2.1, x.2.2.2.2.2.2.2.2.2.1⟩ : Anch)) (fun s => (s.seq, s.gen, s.lsn, s.seg, s.ext, s.flo, s.new, s.keep, s.next, s.cur, ())) (fun a => rfl)
theorem rdAnch_at : rdAnch.At Tryz.prog 24 :=
  rdStruct_at Tryz.underlying24 (total := 1 + (1 + (1 + (1 + (1 + (1 + (1 + (1 + (1 + (1 + 0)))))))))) (by kernel_rfl) (rdPair_fs rfl (by kernel_rfl) (rdInt_at Tryz.underlying3) (rdPair_fs rfl (by kernel_rfl) (rdInt_at Tryz.underlying3) (rdPair_fs rfl (by kernel_rfl) (rdInt_at Tryz.underlying3) (rdPair_fs rfl (by kernel_rfl) (rdInt_at Tryz.underlying3) (rdPair_fs rfl (by kernel_rfl) (rdInt_at Tryz.underlying3) (rdPair_fs rfl (by kernel_rfl) (rdInt_at Tryz.underlying3) (rdPair_fs rfl (by kernel_rfl) (rdInt_at Tryz.underlying3) (rdPair_fs rfl (by kernel_rfl) (rdInt_at Tryz.underlying3) (rdPair_fs rfl (by kernel_rfl) (rdInt_at Tryz.underlying3) (rdPair_fs rfl (by kernel_rfl) (rdInt_at Tryz.underlying3) (rdEnd_fs _))))))))))) _ _ _
theorem tab_old {E : Env} {W w : World} {name : String} {k : IntKind} {zs : List Int} (h : Lib.TabIs Tryz.prog W name k zs) (ho : Sat E w (HP.old W)) : Lib.TabIs Tryz.prog w name k zs := by
  unfold Lib.TabIs World.var? at *
  cases hg : Tryz.prog.globalNamed name with
  | none => simp [hg] at h
  | some g =>
    simp only [hg, Option.bind_some] at h ⊢
    have hlt : g < W.heap.size := by
      rcases Nat.lt_or_ge g W.heap.size with h' | h'
      · exact h'
      · rw [Array.getElem?_eq_none h'] at h; simp at h
    rw [old_carry ho g hlt]
    exact h
end Go.Proofs.YtnpinegpajbkeaaGreatDoor
