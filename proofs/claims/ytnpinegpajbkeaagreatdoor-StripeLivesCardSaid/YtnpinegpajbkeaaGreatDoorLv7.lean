/- Texts of one claim, one behind the other: StAt, StN, StPm, StPa, StMe, StX, Trm, StF, StY, StMf, RefA3. -/
import Derived.Test.YtnpinegpajbkeaaGreatDoorLv6
import Derived.Laws.RangeAny
import Derived.Laws.RangeString
set_option linter.unusedSimpArgs false
set_option linter.unusedVariables false
namespace Go.Proofs.YtnpinegpajbkeaaGreatDoor
open Go.RowKit HP
def atP (A : Dk) (x : ByteArray) (gen i : Int) (k : Nat) : List Int × Bool := if (slotOf A x gen i k).2 = true then ((slotOf A x gen i k).1, true) else (slotZ, false)
set_option maxHeartbeats 4000000 in
set_option maxRecDepth 100000 in
theorem stripe_at_plain (E : Env) (q : HP) (b : Nat) (A : Dk) (x : ByteArray) (gen i : Int) (G : List Int) (R : List Bool) (n k : Nat) (w : World) (hk : k < 4) (hG : Looked A x gen i 4 G R n) (hp : (slotOf A x gen i k).2 = true ∨ 1 < n) (hw : Sat E w (HP.pt b (.cells (gCells G R n).toArray 115) * q)) :
    Calls Tryz.prog 71 #[.pointer (some ⟨b, 0, none⟩), .int .i64 k] w fun e w' => e = .returned (.tuple #[.agg (b8s (atP A x gen i k).1).toArray, .bool (atP A x gen i k).2]) ∧ Sat E w' (HP.pt b (.cells (gCells G R n).toArray 115) * q) := by
  have h0 := hw.alloc (.cells Tryz.zeroCells100 100)
  have g1 : (w.alloc (.cells Tryz.zeroCells100 100)).cell? ⟨b, 424 + k, none⟩ = some (.bool (slotOf A x gen i k).2) := by
    rw [h0.s2.cell (424 + k)]
    exact gCells_right hG.len (hG.right k hk)
  have g2 : (w.alloc (.cells Tryz.zeroCells100 100)).cell? ⟨b, 428, none⟩ = some (.int .i64 n) := by
    rw [h0.s2.cell 428]
    exact gCells_bad n hG.len hG.rlen
  have hk2 : (k : Int) < 4 := by omega
  obtain ⟨Z, hZ⟩ : ∃ Z, Z = Tryz.zeroCells100 := ⟨_, rfl⟩
  have HZ : Aside (Z = (b8s slotZ).toArray) := ⟨by rw [hZ]; exact zero_slot.symm⟩
  have HZ9 := Aside.mk hZ
  rw [← hZ] at h0 g1 g2
  have h1 := h0
  rw [HZ.out] at h1
  have hSl : (slotOf A x gen i k).1.length = 106 := readS_length _ _ _ _ _
  by_cases hr : (slotOf A x gen i k).2 = true
  · have HT : Aside (atP A x gen i k = ((slotOf A x gen i k).1, true)) := ⟨by unfold atP; rw [if_pos hr]⟩
    rw [hr] at g1
    obtain ⟨w4, hr4, h4⟩ := run_store_slot (Z := slotZ) (S := (slotOf A x gen i k).1) (List.length_replicate ..) hSl h1
    have rl4 := run_load_slot hSl h4
    have rl : (loadVar 100 ⟨b, k * 106, none⟩).run Tryz.prog (w.alloc (.cells Z 100)) = .ok (.agg (b8s (slotOf A x gen i k).1).toArray) (w.alloc (.cells Z 100)) := run_loadAgg (P := Tryz.prog) agSlot (by rw [b8s_length]; exact hSl) (Sat.ptCells (off := k * 106) (l := b8s (slotOf A x gen i k).1) h0.s2 (by rw [b8s_length, hSl, Nat.mul_comm k 106, ← hG.slot k hk]; exact gCells_sec hG.len hk))
    rw [← HZ.out, HZ9.out] at hr4
    rw [HZ9.out] at g1 rl
    have H4 := Aside.mk h4.right
    clear h0 h1 h4 hG hp hw hr hSl g2
    generalize (slotOf A x gen i k).1 = S at *
    go_enter Tryz.func71, Tryz.ntmps71
    go_wp2_with (first | (refine wpList_load_run rfl rfl rfl rl ?_) | (refine wpList_store_run rfl rfl rfl rfl rfl hr4 ?_))
    refine bodyPost_ret (results_ct rfl rfl rl4) rfl ?_
    rw [HT.out]
    exact ⟨rfl, H4.out⟩
  · have HT : Aside (atP A x gen i k = (slotZ, false)) := ⟨by unfold atP; rw [if_neg hr]⟩
    have hn : 1 < n := by
      rcases hp with hp | hp
      · exact absurd hp hr
      · exact hp
    rw [Bool.not_eq_true] at hr
    rw [hr] at g1
    have hn2 : (1 : Int) < (n : Int) := by omega
    obtain ⟨w4, hr4, h4⟩ := run_store_slot (Z := slotZ) (S := slotZ) (List.length_replicate ..) (List.length_replicate ..) h1
    have rl4 := run_load_slot (S := slotZ) (List.length_replicate ..) h4
    rw [← HZ.out, HZ9.out] at hr4
    have H4 := Aside.mk h4.right
    clear h0 h1 h4 hG hp hw hr hSl
    rw [HZ9.out] at g1 g2
    go_enter Tryz.func71, Tryz.ntmps71
    go_wp2_with (first | (refine wpList_store_run rfl rfl rfl rfl rfl hr4 ?_))
    refine bodyPost_ret (results_ct rfl rfl rl4) rfl ?_
    rw [HT.out]
    exact ⟨rfl, H4.out⟩
structure FilesEnd (A B : Dk) (gen : Nat) (fs : List (ByteArray × List (List Int))) : Prop where
  sorted : Sorted B.files
  fuse : B.fuse = -1
  room : B.room = A.room
  size : sizeF B.files = sizeF A.files + (fs.map fun x => x.2.length).sum
  others : ∀ t, (∀ x ∈ fs, x.1 ≠ t) → B.at t = A.at t
  held : ∀ x ∈ fs, B.at x.1 = (newCels x.1 gen 0 x.2).map Cel.syncd
theorem wrT_new {gen : Nat} (hg : (gen : Int) ≤ 4611686018427387904) : ∀ (fs : List (ByteArray × List (List Int))) (A : Dk), Sorted A.files → A.fuse = -1 → (∀ x ∈ fs, namedB x.1 = true ∧ A.at x.1 = [] ∧ 0 < x.2.length ∧ x.2.length ≤ 2147483647 ∧ ∀ p ∈ x.2, p.length ≤ 106) → fs.Pairwise (fun x y => x.1 ≠ y.1) → (((fs.map fun x => x.2.length).sum : Nat) : Int) ≤ A.free →
    ∃ B, wrT A gen fs = (0, B) ∧ FilesEnd A B gen fs
  | [], A, hs, he, _, _, _ => ⟨A, rfl, hs, he, rfl, by simp, fun _ _ => rfl, fun x hx => by cases hx⟩
  | (f, ps) :: fs, A, hs, he, hx, hp, hf => by
    obtain ⟨h1, h2, h3, h4, h5⟩ := hx (f, ps) (List.mem_cons_self ..)
    simp only at h1 h2 h3 h4 h5
    simp only [List.map_cons, List.sum_cons] at hf
    obtain ⟨B1, e1, F1, -⟩ := wrF_fresh h1 hg ps A 0 hs he (by rw [h2]; rfl) (by omega) h5 (by omega) (by omega)
    have g1 := wrF_cels h1 hg ps A 0 hs he (by rw [h2]; rfl) (by omega) h5 (by omega) (by omega)
    rw [e1, h2, List.nil_append] at g1
    rw [List.pairwise_cons] at hp
    obtain ⟨B2, e2, F2⟩ := wrT_new hg fs B1 F1.sorted F1.fuse (fun x hx2 => by
      obtain ⟨k1, k2, k3⟩ := hx x (List.mem_cons_of_mem _ hx2)
      exact ⟨k1, by rw [F1.others _ (hp.1 x hx2)]; exact k2, k3⟩) hp.2 (by
        have := F1.size
        have := F1.room
        unfold Dk.free at hf ⊢
        omega)
    refine ⟨B2, ?_, F2.sorted, F2.fuse, F2.room.trans F1.room, ?_, fun t ht => ?_, fun x hx2 => ?_⟩
    · unfold wrT
      rw [e1, if_pos rfl]
      exact e2
    · rw [F2.size, F1.size, List.map_cons, List.sum_cons]
      simp only
      omega
    · rw [F2.others t (fun x hx2 => ht x (List.mem_cons_of_mem _ hx2)), F1.others t (ht (f, ps) (List.mem_cons_self ..))]
    · rcases List.mem_cons.1 hx2 with rfl | hx3
      · rw [F2.others f (fun y hy => Ne.symm (hp.1 y hy))]
        exact g1
      · exact F2.held x hx3
structure FourNames (x : ByteArray) : Prop where
  n0 : namedB (x ++ dot0) = true
  n1 : namedB (x ++ dot1) = true
  n2 : namedB (x ++ dot2) = true
  n3 : namedB (x ++ dotP) = true
  ne : [x ++ dot0, x ++ dot1, x ++ dot2, x ++ dotP].Pairwise (· ≠ ·)
theorem fourX : FourNames exS := ⟨by kernel_rfl, by kernel_rfl, by kernel_rfl, by kernel_rfl, by decide⟩
theorem paysS_length (l : List Int) (n k : Nat) : (paysS l n k).length = n := by unfold paysS; rw [List.length_map, List.length_range]
theorem paysS_mem {l p : List Int} {n k : Nat} (h : p ∈ paysS l n k) : ∃ g, g < n ∧ p = payS l g k := by
  unfold paysS at h
  obtain ⟨g, hg, rfl⟩ := List.mem_map.1 h
  exact ⟨g, List.mem_range.1 hg, rfl⟩
structure StHas (room : Int) (x : ByteArray) (gen : Nat) (l : List Int) (B : Dk) : Prop where
  eq : storeS (Dk.new room) x gen l = (0, B)
  sorted : Sorted B.files
  fuse : B.fuse = -1
  free : B.free = room - 4 * (groupsN l.length : Int)
  held : ∀ k, k < 4 → B.at (stripeF x k) = (newCels (stripeF x k) gen 0 (paysS l (groupsN l.length) k)).map Cel.syncd
theorem storeS_new {room : Int} {x : ByteArray} {gen : Nat} {l : List Int} (N : FourNames x) (hg : (gen : Int) ≤ 4611686018427387904) (hr : 4 * (groupsN l.length : Int) ≤ room) (hm : groupsN l.length ≤ 2147483647) : ∃ B, StHas room x gen l B := by
  have hb := groupsN_bounds l.length
  have hs0 : Sorted (Dk.new room).files := List.Pairwise.nil
  have hd : dropS (Dk.new room) x = (0, Dk.new room) := rfl
  have hfs : fsS x l = [(x ++ dot0, paysS l (groupsN l.length) 0), (x ++ dot1, paysS l (groupsN l.length) 1), (x ++ dot2, paysS l (groupsN l.length) 2), (x ++ dotP, paysS l (groupsN l.length) 3)] := rfl
  have hsum : ((fsS x l).map fun y => y.2.length).sum = 4 * groupsN l.length := by
    rw [hfs]
    simp only [List.map_cons, List.map_nil, List.sum_cons, List.sum_nil, paysS_length]
    omega
  have hall : ∀ k, ∀ p ∈ paysS l (groupsN l.length) k, p.length ≤ 106 := fun k p hp => by
    obtain ⟨g, -, rfl⟩ := paysS_mem hp
    exact payS_length l g k
  obtain ⟨B, hB, F⟩ := wrT_new hg (fsS x l) (Dk.new room) hs0 rfl (fun y hy => by
    rw [hfs] at hy
    simp only [List.mem_cons, List.not_mem_nil, or_false] at hy
    rcases hy with rfl | rfl | rfl | rfl
    · exact ⟨N.n0, rfl, by simp only [paysS_length]; omega, by simp only [paysS_length]; exact hm, hall 0⟩
    · exact ⟨N.n1, rfl, by simp only [paysS_length]; omega, by simp only [paysS_length]; exact hm, hall 1⟩
    · exact ⟨N.n2, rfl, by simp only [paysS_length]; omega, by simp only [paysS_length]; exact hm, hall 2⟩
    · exact ⟨N.n3, rfl, by simp only [paysS_length]; omega, by simp only [paysS_length]; exact hm, hall 3⟩) (by
      have := N.ne
      rw [hfs]
      simpa using this) (by
      rw [hsum]
      show ((4 * groupsN l.length : Nat) : Int) ≤ room - (0 : Nat)
      omega)
  refine ⟨B, ?_, F.sorted, F.fuse, ?_, fun k hk => ?_⟩
  · unfold storeS
    rw [hd, if_pos rfl]
    exact hB
  · have h1 := F.size
    have h2 := F.room
    rw [hsum] at h1
    have h3 : sizeF (Dk.new room).files = 0 := rfl
    have h4 : (Dk.new room).room = room := rfl
    unfold Dk.free
    omega
  · have hc : k = 0 ∨ k = 1 ∨ k = 2 ∨ k = 3 := by omega
    rw [hfs] at F
    rcases hc with rfl | rfl | rfl | rfl
    · exact F.held (x ++ dot0, paysS l (groupsN l.length) 0) (by simp)
    · exact F.held (x ++ dot1, paysS l (groupsN l.length) 1) (by simp)
    · exact F.held (x ++ dot2, paysS l (groupsN l.length) 2) (by simp)
    · exact F.held (x ++ dotP, paysS l (groupsN l.length) 3) (by simp)
def partM (at_ : Nat → Nat → List Int × Bool) : Nat → Nat → Nat → List Int → Option (List Int)
  | 0, _, _, out => some out
  | c + 1, fr, en, out =>
    if fr < en then
      if (at_ (fr / 105 / 3) (fr / 105 % 3)).2 = true ∧ ((fr % 105 + min (105 - fr % 105) (en - fr) : Nat) : Int) ≤ (at_ (fr / 105 / 3) (fr / 105 % 3)).1.headD 0 then
        partM at_ c (fr + min (105 - fr % 105) (en - fr)) en (out ++ ((at_ (fr / 105 / 3) (fr / 105 % 3)).1.drop (1 + fr % 105)).take (min (105 - fr % 105) (en - fr)))
      else none
    else some out
theorem part_slot {l : List Int} {e sk nn : Nat} (h : ((sk + nn : Nat) : Int) ≤ (slotI (partI l e)).headD 0) : ((slotI (partI l e)).drop (1 + sk)).take nn = (l.drop (105 * e + sk)).take nn ∧ (0 < nn → 105 * e + sk + nn ≤ l.length) := by
  rw [slotI_head, partI_length] at h
  have hl := partI_length l e
  refine ⟨?_, fun h0 => by omega⟩
  unfold slotI
  rw [Nat.add_comm 1 sk, List.drop_succ_cons, List.drop_append_of_le_length (by omega), List.take_append_of_le_length (by rw [List.length_drop]; omega)]
  unfold partI
  rw [List.drop_take, List.take_take, List.drop_drop, Nat.min_eq_left (by omega)]
structure AtText (l : List Int) (at_ : Nat → Nat → List Int × Bool) : Prop where
  right : ∀ i k, k < 3 → (at_ i k).2 = true → (at_ i k).1 = slotI (partI l (3 * i + k))
theorem partM_sound {l : List Int} {at_ : Nat → Nat → List Int × Bool} (hA : AtText l at_) : ∀ (c fr en : Nat) (out r : List Int), fr ≤ en → en ≤ fr + c → partM at_ c fr en out = some r → r = out ++ (l.drop fr).take (en - fr) ∧ (fr < en → en ≤ l.length)
  | 0, fr, en, out, r, h1, h2, h => by
    obtain rfl : fr = en := by omega
    simp only [partM, Option.some.injEq] at h
    refine ⟨by rw [← h, Nat.sub_self, List.take_zero, List.append_nil], fun h => by omega⟩
  | c + 1, fr, en, out, r, h1, h2, h => by
    unfold partM at h
    split at h
    · rename_i hlt
      split at h
      · rename_i hok
        have hs := hA.right (fr / 105 / 3) (fr / 105 % 3) (Nat.mod_lt _ (by decide)) hok.1
        have he : 3 * (fr / 105 / 3) + fr / 105 % 3 = fr / 105 := by omega
        rw [he] at hs
        rw [hs] at h hok
        obtain ⟨hp, hb⟩ := part_slot hok.2
        have hfr : 105 * (fr / 105) + fr % 105 = fr := by omega
        rw [hfr] at hp hb
        rw [hp] at h
        obtain ⟨nn, hnn⟩ : ∃ nn, nn = min (105 - fr % 105) (en - fr) := ⟨_, rfl⟩
        rw [← hnn] at h hb
        have hn0 : 0 < nn := by omega
        obtain ⟨hr, hl⟩ := partM_sound hA c (fr + nn) en _ r (by omega) (by omega) h
        refine ⟨?_, fun _ => ?_⟩
        · rw [hr, List.append_assoc]
          congr 1
          rw [← List.drop_drop, show en - (fr + nn) = en - fr - nn by omega, show en - fr = nn + (en - fr - nn) by omega, List.take_add]
          rw [show nn + (en - fr - nn) - nn = en - fr - nn by omega]
        · have := hb hn0
          by_cases h3 : fr + nn < en
          · exact hl h3
          · omega
      · cases h
    · rename_i hlt
      obtain rfl : fr = en := by omega
      simp only [Option.some.injEq] at h
      refine ⟨by rw [← h, Nat.sub_self, List.take_zero, List.append_nil], fun h => by omega⟩
theorem partM_whole {l : List Int} {at_ : Nat → Nat → List Int × Bool} (hA : AtText l at_) (hr : ∀ i k, k < 3 → i < groupsN l.length → (at_ i k).2 = true) : ∀ (c fr en : Nat) (out : List Int), fr ≤ en → en ≤ l.length → ∃ r, partM at_ c fr en out = some r
  | 0, fr, en, out, h1, h2 => ⟨_, rfl⟩
  | c + 1, fr, en, out, h1, h2 => by
    have hg := groupsN_bounds l.length
    unfold partM
    split
    · rename_i hlt
      have hk : fr / 105 % 3 < 3 := Nat.mod_lt _ (by decide)
      have hi : fr / 105 / 3 < groupsN l.length := by omega
      have hok := hr (fr / 105 / 3) (fr / 105 % 3) hk hi
      have hs := hA.right _ _ hk hok
      have he : 3 * (fr / 105 / 3) + fr / 105 % 3 = fr / 105 := by omega
      rw [he] at hs
      have hc : ((fr % 105 + min (105 - fr % 105) (en - fr) : Nat) : Int) ≤ (at_ (fr / 105 / 3) (fr / 105 % 3)).1.headD 0 := by
        rw [hs, slotI_head, partI_length]
        omega
      rw [if_pos ⟨hok, hc⟩]
      exact partM_whole hA hr c _ en _ (by omega) h2
    · exact ⟨_, rfl⟩
theorem partM_read {l : List Int} {at_ : Nat → Nat → List Int × Bool} (hA : AtText l at_) (hr : ∀ i k, k < 3 → i < groupsN l.length → (at_ i k).2 = true) {fr en : Nat} (h1 : fr ≤ en) (h2 : en ≤ l.length) : partM at_ en fr en [] = some ((l.drop fr).take (en - fr)) := by
  obtain ⟨r, h⟩ := partM_whole hA hr en fr en [] h1 h2
  rw [h, (partM_sound hA en fr en [] r h1 (by omega) h).1, List.nil_append]
theorem paysS_get (l : List Int) (n k : Nat) {i : Nat} (h : i < n) : (paysS l n k)[i]? = some (payS l i k) := by
  unfold paysS
  rw [List.getElem?_map, List.getElem?_range h]
  rfl
def slotT (l : List Int) (i k : Nat) : List Int := if k = 3 then parI l i 3 else slotI (partI l (3 * i + k))
theorem readT_pay (l : List Int) (i k : Nat) : readT k (payS l i k) = (slotT l i k, true) := by
  unfold readT payS slotT
  by_cases h : k = 3
  · rw [if_pos h, if_pos h, if_pos h, parI_length]
    simp
  · have := partI_le l (3 * i + k)
    rw [if_neg h, if_neg h, if_neg h, List.take_of_length_le this]
    simp [this]
theorem readS_held {B : Dk} {f : ByteArray} {gen i k n : Nat} {l : List Int} (hg : gen ≤ 4611686018427387904) (hn : n ≤ 2147483647) (h : B.at f = (newCels f gen 0 (paysS l n k)).map Cel.syncd) (hi : i < n) : readS B f k gen i = (slotT l i k, true) := by
  unfold readS
  rw [held_cel h (paysS_get l n k hi)]
  dsimp only [stl]
  rw [openI_extI (by omega) hg (payS_length l i k)]
  dsimp only
  rw [if_neg (by simp), readT_pay]
theorem readS_none {B : Dk} {f : ByteArray} {gen i k n : Nat} {l : List Int} (h : B.at f = (newCels f gen 0 (paysS l n k)).map Cel.syncd) (hi : n ≤ i) : readS B f k gen i = (slotZ, false) := by
  have : B.cel f i = none := by
    unfold Dk.cel
    rw [if_pos (by omega), Int.toNat_natCast, h, List.getElem?_eq_none (by rw [List.length_map, newCels_length, paysS_length]; exact hi)]
  unfold readS
  rw [this]
structure StRead (B : Dk) (x : ByteArray) (gen : Nat) (l : List Int) : Prop where
  right : ∀ i k, k < 4 → i < groupsN l.length → slotOf B x gen i k = (slotT l i k, true)
  none : ∀ i k, k < 4 → groupsN l.length ≤ i → slotOf B x gen i k = (slotZ, false)
  bytes : ∀ k, k < 4 → ∀ (i : Int) c, B.cel (stripeF x k) i = some c → Bytes c.read
theorem stRead_of {room : Int} {B : Dk} {x : ByteArray} {gen : Nat} {l : List Int} (h : StHas room x gen l B) (hg : gen ≤ 4611686018427387904) (hn : groupsN l.length ≤ 2147483647) (hb : Bytes l) : StRead B x gen l := by
  refine ⟨fun i k hk hi => readS_held hg hn (h.held k hk) hi, fun i k hk hi => readS_none (h.held k hk) hi, fun k hk i c hc => ?_⟩
  have hc2 := hc
  unfold Dk.cel at hc
  split at hc
  · rename_i h0
    rw [h.held k hk] at hc
    have hlt : i.toNat < groupsN l.length := by
      refine Nat.lt_of_not_le fun hn => ?_
      rw [List.getElem?_eq_none (by rw [List.length_map, newCels_length, paysS_length]; omega)] at hc
      cases hc
    have := held_cel (k := i.toNat) (h.held k hk) (paysS_get l _ k hlt)
    rw [show ((i.toNat : Nat) : Int) = i by omega, hc2] at this
    cases this
    exact extI_bytes (payS_length l _ k) (payS_bytes hb _ k)
  · cases hc
theorem badN_all {A : Dk} {x : ByteArray} {gen i : Int} : ∀ k, (∀ j, j < k → (slotOf A x gen i j).2 = false) → badN A x gen i k = k
  | 0, _ => rfl
  | k + 1, h => by
    rw [badN, badN_all k (fun j hj => h j (by omega)), h k (by omega)]
    simp
def partEnd (E : Env) (q : HP) (r : Option (List Int)) (e : Ending) (w' : World) : Prop :=
  match r with
  | none => e = .returned (.tuple #[.slice none 0 0, .int .i64 50]) ∧ Sat E w' q
  | some l => ∃ v, e = .returned (.tuple #[v, .int .i64 0]) ∧ Sat E w' (HP.row 5 1 v l.length (b8s l) * q)
structure AtOk (E : Env) (A : Dk) (x : ByteArray) (gen : Int) (at_ : Nat → Nat → List Int × Bool) : Prop where
  call : ∀ (q' : HP) (b : Nat) (G : List Int) (R : List Bool) (n i k : Nat) (w : World), k < 3 → Looked A x gen (i : Int) 4 G R n → Sat E w (HP.pt b (.cells (gCells G R n).toArray 115) * q') →
    Calls Tryz.prog 71 #[.pointer (some ⟨b, 0, none⟩), .int .i64 k] w fun e w' => e = .returned (.tuple #[.agg (b8s (at_ i k).1).toArray, .bool (at_ i k).2]) ∧ Sat E w' (HP.pt b (.cells (gCells G R n).toArray 115) * q')
  len : ∀ i k, (at_ i k).1.length = 106
  bytes : ∀ i k, k < 3 → Bytes (at_ i k).1
theorem run_store_grp {E : Env} {q : HP} {w : World} {g : Nat} {G : List Int} {R : List Bool} {n : Nat} (hG : G.length = 424) (hR : R.length = 4) (h : Sat E w (HP.pt g (.cells Tryz.zeroCells115 115) * q)) :
    ∃ w', (storeVar 115 ⟨g, 0, none⟩ (.agg (gCells G R n).toArray)).run Tryz.prog w = .ok () w' ∧ Sat E w' (HP.pt g (.cells (gCells G R n).toArray 115) * q) := by
  rw [← zero_grp] at h
  have hr2 := run_storeAgg agGrp (g := g) (off := 0) (cs := gCells G R n) h.get (gCells_length n hG hR) (by rw [List.size_toArray, gCells_length 0 (List.length_replicate ..) (List.length_replicate ..)]; exact Nat.le_refl _) (gCells_one G R n)
  have h3 := h.splice (splice (gCells (List.replicate 424 0) (List.replicate 4 false) 0).toArray.toList 0 (gCells G R n))
  have e3 : splice (gCells (List.replicate 424 0) (List.replicate 4 false) 0).toArray.toList 0 (gCells G R n) = gCells G R n := by
    unfold splice
    rw [List.take_zero, List.nil_append, Nat.zero_add, List.drop_of_length_le (by rw [show (gCells (List.replicate 424 0) (List.replicate 4 false) 0).toArray.toList.length = 429 from gCells_length 0 (List.length_replicate ..) (List.length_replicate ..), gCells_length n hG hR]; exact Nat.le_refl _), List.append_nil]
  rw [e3] at h3 hr2
  exact ⟨_, hr2, h3⟩
theorem run_store_zero {E : Env} {q : HP} {w : World} {g : Nat} {S : List Int} (hS : S.length = 106) (h : Sat E w (HP.pt g (.cells Tryz.zeroCells100 100) * q)) :
    ∃ w', (storeVar 100 ⟨g, 0, none⟩ (.agg (b8s S).toArray)).run Tryz.prog w = .ok () w' ∧ Sat E w' (HP.pt g (.cells (b8s S).toArray 100) * q) := by
  rw [← zero_slot] at h
  exact run_store_slot (List.length_replicate ..) hS h
set_option maxHeartbeats 4000000 in
set_option maxRecDepth 100000 in
theorem stripe_part (E : Env) (q : HP) (d : Nat) (A : Dk) (name : ByteArray) (gen : Int) (fr0 size : Nat) (at_ : Nat → Nat → List Int × Bool) (w : World) (hname : name.size + 2 ≤ maxLen) (hf0 : fr0 ≤ 2147483647) (hsz : size ≤ 2147483647) (hby : ∀ k, k < 4 → ∀ (i : Int) c, A.cel (stripeF name k) i = some c → Bytes c.read)
    (hat : AtOk E A name gen at_) (hq : ∀ w, Sat E w q → Quarter w) (hw : Sat E w (HP.disk d A * q)) :
    Calls Tryz.prog 23 #[.pointer (some ⟨d, 0, none⟩), .string name, .int .i64 gen, .int .i64 fr0, .int .i64 size] w (partEnd E (HP.disk d A * q) (partM at_ (fr0 + size) fr0 (fr0 + size) [])) := by
  have HQ := Aside.mk (And.intro hq (And.intro hby (And.intro hat hw)))
  obtain ⟨en, hen⟩ : ∃ en, en = fr0 + size := ⟨_, rfl⟩
  have hsum : (fr0 : Int) + (size : Int) = (en : Int) := by omega
  have hen2 : en ≤ 4294967294 := by omega
  have hfe : fr0 ≤ en := by omega
  rw [← hen]
  clear hq hby hat hw hen
  go_enter Tryz.func23, Tryz.ntmps23
  go_wp2_with fail
  refine (stripe_none E q d A _ HQ.out.2.2.2).mono ?_
  rintro e w1 ⟨rfl, h1⟩
  have H1 := Aside.mk (h1.row_nil 5 1 none)
  clear h1
  go_wp2
  go_loopw [3, 12] (fun v3 v12 wr => ∃ (fr c : Nat) (out : List Int), v3 = .int .i64 fr ∧ fr ≤ en ∧ en ≤ fr + c ∧ out.length ≤ fr ∧ Aside (partM at_ c fr en out = partM at_ en fr0 en []) ∧ Aside (Sat E wr (HP.row 5 1 v12 out.length (b8s out) * (HP.disk d A * q)))) (fun i _ _ => en - (intOf i).toNat)
  case atStart => exact ⟨fr0, en, [], rfl, hfe, by omega, by simp, ⟨rfl⟩, H1⟩
  case round =>
    clear H1
    obtain ⟨fr, c, out, rfl, hfr, hc, hol, HM, HS⟩ := hrel
    by_cases hlt : fr < en
    · have hlt2 : (fr : Int) < (en : Int) := by omega
      obtain ⟨c, rfl⟩ : ∃ c2, c = c2 + 1 := ⟨c - 1, by omega⟩
      obtain ⟨e0, he0⟩ : ∃ e0, e0 = fr / 105 := ⟨_, rfl⟩
      obtain ⟨sk, hsk⟩ : ∃ sk, sk = fr % 105 := ⟨_, rfl⟩
      obtain ⟨gi, hgi⟩ : ∃ gi, gi = e0 / 3 := ⟨_, rfl⟩
      obtain ⟨kk, hkk⟩ : ∃ kk, kk = e0 % 3 := ⟨_, rfl⟩
      obtain ⟨nn, hnn⟩ : ∃ nn, nn = min (105 - sk) (en - fr) := ⟨_, rfl⟩
      have x1 : (fr : Int).tdiv 105 = (e0 : Int) := by rw [Int.tdiv_eq_ediv_of_nonneg (by omega)]; omega
      have x2 : (fr : Int).tmod 105 = (sk : Int) := by rw [Int.tmod_eq_emod_of_nonneg (by omega)]; omega
      have x3 : (e0 : Int).tdiv 3 = (gi : Int) := by rw [Int.tdiv_eq_ediv_of_nonneg (by omega)]; omega
      have x4 : (e0 : Int).tmod 3 = (kk : Int) := by rw [Int.tmod_eq_emod_of_nonneg (by omega)]; omega
      have y1 : (if (en : Int) - (fr : Int) < 105 - (sk : Int) then (en : Int) - (fr : Int) else 105 - (sk : Int)) = (nn : Int) := by split <;> omega
      have hk3 : kk < 3 := by omega
      have hsk5 : sk < 105 := by omega
      have hnn5 : sk + nn ≤ 105 := by omega
      have hnn0 : 0 < nn := by omega
      have hnne : fr + nn ≤ en := by omega
      have he00 : (e0 : Int) ≤ 4294967294 := by omega
      have hgi0 : (gi : Int) ≤ 4294967294 := by omega
      have HP1 : Aside (partM at_ (c + 1) fr en out = if (at_ gi kk).2 = true ∧ ((sk + nn : Nat) : Int) ≤ (at_ gi kk).1.headD 0 then partM at_ c (fr + nn) en (out ++ ((at_ gi kk).1.drop (1 + sk)).take nn) else none) := ⟨by
        conv => lhs; unfold partM
        rw [if_pos hlt, hnn, hkk, hgi, hsk, he0]⟩
      rw [HM.out] at HP1
      obtain ⟨AV, cV, rfl, hcV, hmV⟩ := HS.out.row_slice
      obtain ⟨no, hno⟩ : ∃ no, no = out.length := ⟨_, rfl⟩
      rw [← hno] at HS hol hcV ⊢
      have HNO := Aside.mk hno
      have hnom : (no : Int) ≤ 4294967294 := by omega
      clear HM he0 hsk hgi hkk hnn hno
      go_wp2_with fail
      refine (stripe_look E (HP.row 5 1 (.slice AV no cV) no (b8s out) * q) d A name gen gi _ hname (fun k hk c => HQ.out.2.1 k hk _ c) (fun w h => HQ.out.1 w h.right) HS.out.s2).mono ?_
      intro e w3 h3
      obtain ⟨G, R, n, rfl, hG, h3⟩ := h3
      have h4 := h3.alloc (.cells Tryz.zeroCells115 115)
      obtain ⟨w5, hr5, h5⟩ := run_store_grp (n := n) hG.len hG.rlen h4
      have HC := Aside.mk (HQ.out.2.2.1.call _ _ _ _ _ _ _ w5 hk3 hG h5)
      obtain ⟨C, hC⟩ : ∃ C, C = (gCells G R n).toArray := ⟨_, rfl⟩
      rw [← hC] at hr5 HC ⊢
      clear h3 h4 h5 hG hC HS x1 x2
      go_wp2_with (first | (refine wpList_store_run rfl rfl rfl rfl rfl hr5 ?_))
      refine HC.out.mono ?_
      rintro e w6 ⟨rfl, h6⟩
      have hSl := HQ.out.2.2.1.len gi kk
      have hSb := HQ.out.2.2.1.bytes gi kk hk3
      generalize at_ gi kk = so at *
      obtain ⟨S, ok⟩ := so
      dsimp only at *
      obtain ⟨w8, hr8, h8⟩ := run_store_zero hSl (h6.right.alloc (.cells Tryz.zeroCells100 100))
      have hx0 := getD_byte hSb 0
      have g8 : w8.cell? ⟨w6.heap.size, 0, none⟩ = some (.int .u8 (S.getD 0 0)) := by rw [h8.cell 0]; exact b8s_getD (by omega)
      have hhd : S.headD 0 = S.getD 0 0 := by cases S <;> rfl
      rw [hhd] at HP1
      have H8 := Aside.mk (And.intro h8 hSl)
      obtain ⟨x0, hx0e⟩ : ∃ x0, x0 = S.getD 0 0 := ⟨_, rfl⟩
      rw [← hx0e] at hx0 g8 HP1
      obtain ⟨C8, hC8⟩ : ∃ C8, C8 = (b8s S).toArray := ⟨_, rfl⟩
      rw [← hC8] at hr8 ⊢
      clear h6 h8 hSl hSb hhd hx0e hC8 HC hr5
      by_cases hc : ok = true ∧ ((sk + nn : Nat) : Int) ≤ x0
      · rw [if_pos hc] at HP1
        obtain ⟨rfl, hc2⟩ := hc
        have hc3 : (sk : Int) + nn ≤ x0 := by omega
        have hc4 : ¬ x0 < (sk : Int) + nn := by omega
        have sl := run_slot_slice w8 w6.heap.size (1 + (sk : Int)) (1 + (sk : Int) + (nn : Int)) (by omega) (by omega) (by omega) (by omega)
        rw [show (1 + (sk : Int) + (nn : Int) - (1 + (sk : Int))).toNat = nn by omega, show (106 : Nat) - (1 + (sk : Int)).toNat = 105 - sk by omega, show (1 + (sk : Int)).toNat = 1 + sk by omega] at sl
        have hlS : ((S.drop (1 + sk)).take nn).length = nn := by rw [List.length_take, List.length_drop, H8.out.2]; omega
        have h9 : Sat E w8 (HP.row 5 1 (.slice AV no cV) no (b8s out) * (HP.disk d A * (HP.pt w6.heap.size (.cells (b8s S).toArray 100) * q))) := H8.out.1.perm (by ac_rfl)
        have H9 := Aside.mk (And.intro h9 (And.intro (Sat.ptCells (off := 1 + sk) (l := b8s ((S.drop (1 + sk)).take nn)) H8.out.1 (by unfold b8s; rw [List.length_map, hlS, ← List.map_drop, ← List.map_take])) (show (b8s ((S.drop (1 + sk)).take nn)).length = nn * 1 by rw [b8s_length, hlS, Nat.mul_one])))
        generalize (S.drop (1 + sk)).take nn = T at *
        clear h9 H8 hc2
        go_wp2_with (first | (refine wpList_store_run rfl rfl rfl rfl rfl hr8 ?_) | (at_builtin; refine wpList_append_row slB8 rfl rfl (by rfl) (by rfl) H9.out.1 H9.out.2.1 H9.out.2.2 (b8s_one _) (by unfold maxLen; omega) (by omega) (fun v5 w5 hw5 => ?_); obtain ⟨A5, c5, rfl, -, -⟩ := hw5.row_slice; have HW5 := Aside.mk hw5; clear hw5))
        have HF : Aside (Sat E w5 (HP.row 5 1 (.slice A5 (no + nn) c5) (out ++ T).length (b8s (out ++ T)) * (HP.disk d A * q))) := ⟨by
          rw [List.length_append, b8s_append, hlS, ← HNO.out]
          exact (HW5.out.perm (by ac_rfl : _ = HP.pt w6.heap.size (.cells (b8s S).toArray 100) * (HP.row 5 1 (.slice A5 (no + nn) c5) (no + nn) (b8s out ++ b8s T) * (HP.disk d A * q)))).right⟩
        refine ⟨⟨fr + nn, c, out ++ T, by push_cast; rfl, hnne, by omega, by rw [List.length_append, hlS, ← HNO.out]; omega, ⟨HP1.out.symm⟩, HF⟩, ?_⟩
        simp only [intOf]
        omega
      · rw [if_neg hc] at HP1
        have HX : Aside (partM at_ en fr0 en [] = none) := ⟨HP1.out⟩
        have HF : Aside (Sat E w8 (HP.disk d A * q)) := ⟨(H8.out.1.perm (by ac_rfl : _ = HP.pt w6.heap.size (.cells (b8s S).toArray 100) * (HP.row 5 1 (.slice AV no cV) no (b8s out) * (HP.disk d A * q)))).right.right⟩
        clear H8 HP1
        cases ok with
        | false =>
          clear hc
          go_wp2_with (first | (refine wpList_store_run rfl rfl rfl rfl rfl hr8 ?_))
          go_ret2
          rw [HX.out]
          exact ⟨rfl, HF.out⟩
        | true =>
          have hc4 : x0 < (sk : Int) + nn := by
            have : ¬ ((sk + nn : Nat) : Int) ≤ x0 := fun h => hc ⟨rfl, h⟩
            omega
          clear hc
          go_wp2_with (first | (refine wpList_store_run rfl rfl rfl rfl rfl hr8 ?_))
          go_ret2
          rw [HX.out]
          exact ⟨rfl, HF.out⟩
    · obtain rfl : fr = en := by omega
      have HX : Aside (partM at_ fr fr0 fr [] = some out) := ⟨by
        rw [← HM.out]
        cases c with
        | zero => rfl
        | succ c => unfold partM; rw [if_neg (Nat.lt_irrefl _)]⟩
      have hnl : ¬ (fr : Int) < (fr : Int) := by omega
      clear HM
      go_wp2
      go_ret2
      rw [HX.out]
      exact ⟨_, rfl, HS.out⟩
def xorO (f : Nat → List Int) (k : Nat) : Nat → List Int
  | 0 => List.replicate 106 0
  | j + 1 => if j = k then xorO f k j else zipX (xorO f k j) (f j)
theorem xorO_length {f : Nat → List Int} (h : ∀ j, (f j).length = 106) (k : Nat) : ∀ j, (xorO f k j).length = 106
  | 0 => List.length_replicate ..
  | j + 1 => by
    unfold xorO
    split
    · exact xorO_length h k j
    · rw [zipX_length, xorO_length h k j, h]; omega
theorem xorO_bytes {f : Nat → List Int} (h : ∀ j, Bytes (f j)) (k : Nat) : ∀ j, Bytes (xorO f k j)
  | 0 => fun x hx => by rw [List.eq_of_mem_replicate hx]; omega
  | j + 1 => by
    unfold xorO
    split
    · exact xorO_bytes h k j
    · exact zipX_bytes (xorO_bytes h k j) (h j)
theorem xorO_ext {f g : Nat → List Int} (k : Nat) : ∀ j, (∀ i, i < j → i ≠ k → f i = g i) → xorO f k j = xorO g k j
  | 0, _ => rfl
  | j + 1, h => by
    unfold xorO
    rw [xorO_ext k j fun i hi => h i (by omega)]
    split
    · rfl
    · rename_i hne
      rw [h j (by omega) hne]
def fineS (S : List Int) : Bool := decide (S.headD 0 ≤ 105) && (S.drop (1 + (S.headD 0).toNat)).all fun x => decide (x = 0)
def slotsL (A : Dk) (x : ByteArray) (gen i : Int) (j : Nat) : List Int := (slotOf A x gen i j).1
theorem slotsL_length (A : Dk) (x : ByteArray) (gen i : Int) (j : Nat) : (slotsL A x gen i j).length = 106 := readS_length _ _ _ _ _
def missP (A : Dk) (x : ByteArray) (gen i : Int) (k : Nat) : List Int := xorO (slotsL A x gen i) k 4
def atF (A : Dk) (x : ByteArray) (gen i : Int) (k : Nat) : List Int × Bool :=
  if (slotOf A x gen i k).2 = true then ((slotOf A x gen i k).1, true)
  else if 1 < badN A x gen i 4 then (slotZ, false)
  else (missP A x gen i k, decide (k = 3) || fineS (missP A x gen i k))
theorem mix_zip {L O : List Int} (hL : L.length = 106) (hO : O.length = 106) : mixN L 0 O 106 = zipX L O := by
  have h := sec_mix (G := L) (O := O) (s := 0) (s' := 0) hO (by omega) (by omega)
  rw [if_pos rfl] at h
  have e : ∀ X : List Int, X.length = 106 → sec X 0 = X := fun X hX => by
    unfold sec
    rw [Nat.mul_zero, List.drop_zero, List.take_of_length_le (by omega)]
  rw [Nat.mul_zero] at h
  rw [e _ (by rw [mixN_length]; exact hL), e _ hL] at h
  exact h
def sliceLenT : Value → Nat
  | .slice _ n _ => n
  | _ => 0
set_option maxHeartbeats 1000000 in
set_option maxRecDepth 100000 in
theorem trimR_ok (E : Env) (q : HP) (g o : Nat) (l : List Int) (n c : Nat) (w : World) (hl : l.length = n) (hnc : n ≤ c) (hcm : c ≤ 1000000) (hq : ∀ w, Sat E w q → Cells w (some ⟨g, o, none⟩) (b8s l)) (hw : Sat E w q) :
    Calls Tryz.prog 146 #[.slice (some ⟨g, o, none⟩) n c, .int .u8 0] w fun e w' => (∃ m, e = .returned (.slice (some ⟨g, o, none⟩) m c) ∧ m ≤ n ∧ (∀ j, m ≤ j → j < n → l[j]? = some 0) ∧ (0 < m → l[m - 1]? ≠ some 0)) ∧ Sat E w' q := by
  have HQ := Aside.mk (And.intro hq (And.intro hw hl))
  clear hq hw hl
  go_enter Tryz.func146, Tryz.ntmps146
  go_wp2
  go_loopw [0] (fun v0 wr => ∃ m : Nat, v0 = .slice (some ⟨g, o, none⟩) m c ∧ m ≤ n ∧ Aside (∀ j, m ≤ j → j < n → l[j]? = some 0) ∧ Aside (Sat E wr q)) (fun v _ => sliceLenT v)
  case atStart => exact ⟨n, rfl, Nat.le_refl _, ⟨fun j h1 h2 => by omega⟩, ⟨HQ.out.2.1⟩⟩
  case round =>
    obtain ⟨m, rfl, hm, HZ, HS⟩ := hrel
    rcases Nat.eq_zero_or_pos m with h0 | h0
    · subst h0
      go_wp2
      go_ret
      exact ⟨⟨0, rfl, Nat.zero_le _, HZ.out, fun h => absurd h (Nat.lt_irrefl _)⟩, HS.out⟩
    · obtain ⟨k, rfl⟩ : ∃ k, m = k + 1 := ⟨m - 1, by omega⟩
      have hkl : k < l.length := by rw [HQ.out.2.2]; omega
      have hx := List.getElem?_eq_getElem hkl
      obtain ⟨x, hxe⟩ : ∃ x, x = l[k] := ⟨_, rfl⟩
      rw [← hxe] at hx
      clear hxe hkl
      have hc : wr.cell? ⟨g, o + k, none⟩ = some (.int .u8 x) := by
        have := (HQ.out.1 _ HS.out).some_ k (.int .u8 x) (by unfold b8s; rw [List.getElem?_map, hx]; rfl)
        rwa [addr_add] at this
      have HX := Aside.mk hx
      have hk1 : k + 1 ≤ c := by omega
      have hk2 : (0 : Int) ≤ (k : Int) := by omega
      have hk3 : (k : Int) < (k : Int) + 1 := by omega
      clear hx
      by_cases hz : x = 0
      · subst hz
        have HZ2 : Aside (∀ j, k ≤ j → j < n → l[j]? = some 0) := ⟨fun j h1 h2 => by
          rcases Nat.eq_or_lt_of_le h1 with e | e
          · subst e; exact HX.out
          · exact HZ.out j e h2⟩
        clear HZ
        go_wp2
        go_roundw
        case rel => exact ⟨k, rfl, by omega, HZ2, HS⟩
        case measure => simp [sliceLenT]
      · go_wp2
        go_ret
        exact ⟨⟨k + 1, rfl, hm, HZ.out, fun _ h => hz (by have := HX.out.symm.trans h; simpa using this)⟩, HS.out⟩
set_option maxHeartbeats 1000000 in
set_option maxRecDepth 100000 in
theorem trimL_ok (E : Env) (q : HP) (g o : Nat) (l : List Int) (n m c : Nat) (w : World) (hl : l.length = n) (hmn : m ≤ n) (hmc : m ≤ c) (hcm : c ≤ 1000000) (hlast : 0 < m → l[m - 1]? ≠ some 0) (hq : ∀ w, Sat E w q → Cells w (some ⟨g, o, none⟩) (b8s l)) (hw : Sat E w q) :
    Calls Tryz.prog 145 #[.slice (some ⟨g, o, none⟩) m c, .int .u8 0] w fun e w' => (∃ A r d, e = .returned (.slice A r d) ∧ (r = 0 ↔ m = 0)) ∧ Sat E w' q := by
  have HQ := Aside.mk (And.intro hq (And.intro hw (And.intro hl hlast)))
  clear hq hw hl hlast
  go_enter Tryz.func145, Tryz.ntmps145
  rcases Nat.eq_zero_or_pos m with h0 | h0
  · subst h0
    go_wp2
    go_loopw [0] (fun v0 wr => v0 = .slice (some ⟨g, o, none⟩) 0 c ∧ Aside (Sat E wr q)) (fun v _ => 0)
    case atStart => exact ⟨rfl, ⟨HQ.out.2.1⟩⟩
    case round =>
      obtain ⟨rfl, HS⟩ := hrel
      go_wp2
      go_ret
      first | exact ⟨⟨none, 0, rfl⟩, HS.out⟩ | exact ⟨⟨none, 0, 0, rfl, Iff.rfl⟩, HS.out⟩
  · go_wp2
    go_loopw [0] (fun v0 wr => ∃ i r d : Nat, v0 = .slice (some ⟨g, o + i, none⟩) r d ∧ r ≤ d ∧ d ≤ c ∧ 0 < r ∧ Aside (r + i = m) ∧ Aside (Sat E wr q)) (fun v _ => sliceLenT v)
    case atStart => exact ⟨0, m, c, rfl, hmc, Nat.le_refl _, h0, ⟨rfl⟩, ⟨HQ.out.2.1⟩⟩
    case round =>
      obtain ⟨i, r, d, rfl, hrd, hdc, hr0, HI, HS⟩ := hrel
      have hil : i < l.length := by rw [HQ.out.2.2.1]; have := HI.out; omega
      have hx := List.getElem?_eq_getElem hil
      obtain ⟨x, hxe⟩ : ∃ x, x = l[i] := ⟨_, rfl⟩
      rw [← hxe] at hx
      clear hxe hil
      have hc : wr.cell? ⟨g, o + i, none⟩ = some (.int .u8 x) := by
        have := (HQ.out.1 _ HS.out).some_ i (.int .u8 x) (by unfold b8s; rw [List.getElem?_map, hx]; rfl)
        rwa [addr_add] at this
      have HX := Aside.mk hx
      have hr1 : (0 : Int) < (r : Int) := by omega
      clear hx
      by_cases hz : x = 0
      · subst hz
        have hr2 : 2 ≤ r := by
          rcases Nat.lt_or_ge r 2 with h | h
          · have hm1 : m - 1 = i := by have := HI.out; omega
            exact absurd (by rw [hm1]; exact HX.out) (HQ.out.2.2.2 h0)
          · exact h
        obtain ⟨s, rfl⟩ : ∃ s, r = s + 1 := ⟨r - 1, by omega⟩
        obtain ⟨e, rfl⟩ : ∃ e, d = e + 1 := ⟨d - 1, by omega⟩
        have he0 : ¬ e = 0 := by omega
        have he1 : ¬ e + 1 = 1 := by omega
        have hI2 : Aside (s + (i + 1) = m) := ⟨by have := HI.out; omega⟩
        clear HI
        go_wp2
        go_roundw
        case rel => exact ⟨i + 1, s, e, by congr 1, by omega, by omega, by omega, hI2, HS⟩
        case measure => simp [sliceLenT]
      · have hr3 : ¬ (r : Int) = 0 := by omega
        go_wp2
        go_ret
        exact ⟨⟨_, _, _, rfl, by omega⟩, HS.out⟩
set_option maxHeartbeats 1000000 in
set_option maxRecDepth 100000 in
theorem trim0_ok (E : Env) (q : HP) (g o : Nat) (l : List Int) (n c : Nat) (w : World) (hl : l.length = n) (hnc : n ≤ c) (hcm : c ≤ 1000000) (hq : ∀ w, Sat E w q → Cells w (some ⟨g, o, none⟩) (b8s l)) (hw : Sat E w q) :
    Calls Tryz.prog 121 #[.slice (some ⟨g, o, none⟩) n c, .string ⟨#[0]⟩] w fun e w' => (∃ A r d, e = .returned (.slice A r d) ∧ (r = 0 ↔ ∀ x ∈ l, x = 0)) ∧ Sat E w' q := by
  have HQ := Aside.mk (And.intro hq (And.intro hw hl))
  clear hq hw hl
  go_enter Tryz.func121, Tryz.ntmps121
  rcases Nat.eq_zero_or_pos n with h0 | h0
  · subst h0
    go_wp2
    go_ret
    refine ⟨⟨_, _, _, rfl, ?_⟩, HQ.out.2.1⟩
    have : l = [] := List.eq_nil_of_length_eq_zero HQ.out.2.2
    simp [this]
  · have hn0 : ¬ (n : Int) = 0 := by omega
    have hneq : ¬ (⟨#[0]⟩ : ByteArray) = ⟨#[]⟩ := by decide
    go_wp2
    refine region_R [3, 6] [] (fun _ => True) #[false, false, false, false, false, false, false, false] (by kernel_rfl) rfl rfl ?_
    refine wpR_rd 0 #[true, false, false, false, false, false, false, false] rfl onlyN_noPanic (by kernel_rfl) (fun K hK => ?_); (go_simp; try go_bits); refine hK _ ?_; clear hK K
    refine wpR_rd 1 #[true, true, false, false, false, false, false, false] rfl onlyN_noPanic (by kernel_rfl) (fun K hK => ?_); (go_simp; try go_bits); refine hK _ ?_; clear hK K
    refine wpR_rd 2 #[true, true, true, false, false, false, false, false] rfl onlyN_noPanic (by kernel_rfl) (fun K hK => ?_); (go_simp; try go_bits); refine hK _ ?_; clear hK K
    refine wpR_pu 4 #[true, true, true, false, true, false, false, false] rfl onlyN_noPanic (by kernel_rfl) (fun K hK => ?_); (go_simp; try go_bits); refine hK _ ?_; clear hK K
    refine wpR_pu 5 #[true, true, true, false, true, true, false, false] rfl onlyN_noPanic (by kernel_rfl) (fun K hK => ?_); (go_simp; try go_bits); refine hK _ ?_; clear hK K
    refine wpR_eff #[true, true, true, true, true, true, false, false] (i := 3) rfl (by kernel_rfl) (fun K hK => ?_)
    go_simp
    refine (trimR_ok E q g o l n c _ HQ.out.2.2 hnc hcm HQ.out.1 HQ.out.2.1.drew).mono ?_
    rintro e w1 ⟨⟨m, rfl, hmn, hz, hlast⟩, h1⟩
    refine hK _ _ ?_
    clear hK K
    refine wpR_eff #[true, true, true, true, true, true, true, false] (i := 6) rfl (by kernel_rfl) (fun K hK => ?_)
    go_simp
    refine (trimL_ok E q g o l n m c _ HQ.out.2.2 hmn (by omega) hcm hlast HQ.out.1 h1).mono ?_
    rintro e w2 ⟨⟨A, r, d, rfl, hrm⟩, h2⟩
    have HR : Aside (r = 0 ↔ ∀ x ∈ l, x = 0) := ⟨by
      rw [hrm]
      constructor
      · intro h x hx
        obtain ⟨j, hj⟩ := List.getElem?_of_mem hx
        have hjl := (List.getElem?_eq_some_iff.1 hj).1
        have := hz j (by omega) (by rw [← HQ.out.2.2]; exact hjl)
        rw [this] at hj
        exact (Option.some.inj hj).symm
      · intro h
        rcases Nat.eq_zero_or_pos m with e | e
        · exact e
        · have hml : m - 1 < l.length := by rw [HQ.out.2.2]; omega
          have h3 := List.getElem?_eq_getElem hml
          rw [h _ (List.getElem_mem hml)] at h3
          exact absurd h3 (hlast e)⟩
    have H2 := Aside.mk h2
    refine hK _ _ ?_
    clear hK K h1 h2 hrm hz hlast
    refine wpR_rd 7 #[true, true, true, true, true, true, true, true] rfl onlyN_noPanic (by kernel_rfl) (fun K hK => ?_); (go_simp; try go_bits); refine hK _ ?_; clear hK K
    refine wpR_done (by kernel_rfl) ?_ _
    simp only [OnlyN]
    go_wp2
    go_ret
    exact ⟨⟨A, r, d, rfl, HR.out⟩, H2.out⟩
theorem run_index_four (w : World) (G : List Int) (k : Nat) (h : G.length = 424) (hk : k < 4) : (Instr.index 102 (.agg (b8s G).toArray) (.int .i64 (k : Int))).run Tryz.prog w = .ok (.agg (b8s (sec G k)).toArray) w := by
  have e0 : (0 : Int) ≤ (k : Int) ∧ (k : Int) < 4 := by omega
  have e6 : (sizeOf 100).run Tryz.prog w = .ok 106 w := by kernel_rfl
  have e7 : (isAgg 100).run Tryz.prog w = .ok true w := by kernel_rfl
  have e8 : List.take 106 (List.drop (k * 106) (b8s G)) = b8s (sec G k) := by
    unfold sec b8s
    rw [List.map_take, List.map_drop, Nat.mul_comm]
  simp [Instr.index, run_underlying Tryz.underlying102, asIntOf, e0, e6, e7, e8, hk, part]
theorem agFourS : AgTy Tryz.prog 102 424 := ⟨⟨_, Tryz.underlying102, rfl⟩, by kernel_rfl⟩
theorem run_slot_from (w : World) (b s0 : Nat) (h : s0 ≤ 105) : (Instr.sliceAt 100 (.pointer (some ⟨b, 0, none⟩)) (some (.int .i64 (1 + (s0 : Int)))) none none).run Tryz.prog w = .ok (.slice (some ⟨b, (if s0 = 105 then 0 else 1 + s0), none⟩) (105 - s0) (105 - s0)) w := by
  have f2 : 0 ≤ 1 + (s0 : Int) ∧ 1 + (s0 : Int) ≤ 106 := by omega
  have e6 : (sizeOf 5).run Tryz.prog w = .ok 1 w := by kernel_rfl
  have e10 : max (1 + (s0 : Int)) 0 = 1 + (s0 : Int) := by omega
  have e11 : (1 + (s0 : Int)).toNat = 1 + s0 := by omega
  have e12 : 106 - (1 + s0) = 105 - s0 := by omega
  by_cases h5 : s0 = 105
  · subst h5
    simp [Instr.sliceAt, run_underlying Tryz.underlying100, Instr.sureAddr, Instr.sliceBounds, Instr.sliceBound, asIntOf, e6]
  · have e5 : ¬ 106 = 1 + s0 := by omega
    simp [Instr.sliceAt, run_underlying Tryz.underlying100, Instr.sureAddr, Instr.sliceBounds, Instr.sliceBound, asIntOf, f2, e5, e6, e10, e11, e12, h5, Addr.add_lit]
theorem run_slotC {E : Env} {q : HP} {w : World} {g : Nat} {S : List Int} {C : Array Value} (hC : C = (b8s S).toArray) (hS : S.length = 106) (h : Sat E w (HP.pt g (.cells C 100) * q)) : (loadVar 100 ⟨g, 0, none⟩).run Tryz.prog w = .ok (.agg C) w := by
  subst hC
  exact run_load_slot hS h
theorem run_storeC {E : Env} {q : HP} {w : World} {g : Nat} {Z S : List Int} {C : Array Value} (hC : C = (b8s S).toArray) (hS : S.length = 106) (hZ : Z.length = 106) (h : Sat E w (HP.pt g (.cells (b8s Z).toArray 100) * q)) :
    ∃ w', (storeVar 100 ⟨g, 0, none⟩ (.agg C)).run Tryz.prog w = .ok () w' ∧ Sat E w' (HP.pt g (.cells C 100) * q) := by
  subst hC
  exact run_store_slot hZ hS h
set_option maxHeartbeats 8000000 in
set_option maxRecDepth 100000 in
theorem stripe_at (E : Env) (q : HP) (b : Nat) (A : Dk) (x : ByteArray) (gen i : Int) (G : List Int) (R : List Bool) (n k : Nat) (w : World) (hk : k < 4) (hG : Looked A x gen i 4 G R n) (hby : ∀ j, j < 4 → Bytes (slotsL A x gen i j)) (hw : Sat E w (HP.pt b (.cells (gCells G R n).toArray 115) * q)) :
    Calls Tryz.prog 71 #[.pointer (some ⟨b, 0, none⟩), .int .i64 k] w fun e w' => e = .returned (.tuple #[.agg (b8s (atF A x gen i k).1).toArray, .bool (atF A x gen i k).2]) ∧ Sat E w' (HP.pt b (.cells (gCells G R n).toArray 115) * q) := by
  by_cases hp : (slotOf A x gen i k).2 = true ∨ 1 < n
  · have e : atF A x gen i k = atP A x gen i k := by
      unfold atF atP
      by_cases h : (slotOf A x gen i k).2 = true
      · rw [if_pos h, if_pos h]
      · rw [if_neg h, if_neg h, if_pos (by rw [← hG.bad]; exact hp.resolve_left h)]
    rw [e]
    exact stripe_at_plain E q b A x gen i G R n k w hk hG hp hw
  have hr : (slotOf A x gen i k).2 = false := by rw [← Bool.not_eq_true]; exact fun h => hp (.inl h)
  have hn : ¬ 1 < n := fun h => hp (.inr h)
  clear hp
  have HAT : Aside (atF A x gen i k = (missP A x gen i k, decide (k = 3) || fineS (missP A x gen i k))) := ⟨by
    unfold atF
    rw [if_neg (by rw [hr]; decide), if_neg (by rw [← hG.bad]; exact hn)]⟩
  have h0 := hw.alloc (.cells Tryz.zeroCells100 100)
  have g1 : (w.alloc (.cells Tryz.zeroCells100 100)).cell? ⟨b, 424 + k, none⟩ = some (.bool false) := by
    rw [h0.s2.cell (424 + k), ← hr]
    exact gCells_right hG.len (hG.right k hk)
  have g2 : (w.alloc (.cells Tryz.zeroCells100 100)).cell? ⟨b, 428, none⟩ = some (.int .i64 n) := by
    rw [h0.s2.cell 428]
    exact gCells_bad n hG.len hG.rlen
  have hk2 : (k : Int) < 4 := by omega
  have hn2 : ¬ (1 : Int) < (n : Int) := by omega
  have h1 := h0.alloc (.cells Tryz.zeroCells100 100)
  rw [show (w.alloc (.cells Tryz.zeroCells100 100)).heap.size = w.heap.size + 1 by simp] at h1
  have ld4 : (loadVar 102 ⟨b, 0, none⟩).run Tryz.prog ((w.alloc (.cells Tryz.zeroCells100 100)).alloc (.cells Tryz.zeroCells100 100)) = .ok (.agg (b8s G).toArray) ((w.alloc (.cells Tryz.zeroCells100 100)).alloc (.cells Tryz.zeroCells100 100)) :=
    run_loadAgg (P := Tryz.prog) agFourS (by rw [b8s_length]; exact hG.len) (Sat.ptCells (off := 0) (l := b8s G) h1.s3 (by unfold gCells; rw [List.drop_zero, List.take_left]))
  obtain ⟨CG, hCG⟩ : ∃ CG, CG = (gCells G R n).toArray := ⟨_, rfl⟩
  rw [← hCG] at h1 ⊢
  obtain ⟨C4, hC4⟩ : ∃ C4, C4 = (b8s G).toArray := ⟨_, rfl⟩
  have HIX : Aside (∀ (w : World) (j : Nat), j < 4 → (Instr.index 102 (.agg C4) (.int .i64 (j : Int))).run Tryz.prog w = .ok (.agg (b8s (slotsL A x gen i j)).toArray) w) := ⟨fun w j hj => by rw [hC4, run_index_four w G j hG.len hj, hG.slot j hj]; rfl⟩
  rw [← hC4] at ld4
  obtain ⟨Z, hZ⟩ : ∃ Z, Z = Tryz.zeroCells100 := ⟨_, rfl⟩
  have HZ : Aside (Z = (b8s slotZ).toArray) := ⟨by rw [hZ]; exact zero_slot.symm⟩
  have HZ9 := Aside.mk hZ
  rw [← hZ] at h1
  have H1 : Aside (Sat E ((w.alloc (.cells Z 100)).alloc (.cells Z 100)) (HP.pt (w.heap.size + 1) (.cells (b8s (xorO (slotsL A x gen i) k 0)).toArray 100) * (HP.pt w.heap.size (.cells Z 100) * (HP.pt b (.cells CG 115) * q)))) := ⟨by
    show Sat E _ (HP.pt (w.heap.size + 1) (.cells (b8s slotZ).toArray 100) * _)
    rw [← HZ.out]
    exact h1⟩
  have HSLen : Aside (∀ j, (slotsL A x gen i j).length = 106) := ⟨slotsL_length A x gen i⟩
  have HBY := Aside.mk hby
  have HMS : Aside (missP A x gen i k = xorO (slotsL A x gen i) k 4) := ⟨rfl⟩
  generalize missP A x gen i k = M at *
  generalize slotsL A x gen i = SL at *
  clear hG hw h0 h1 hC4 hCG hr hn hby hZ
  rw [HZ9.out] at H1
  go_enter Tryz.func71, Tryz.ntmps71
  go_wp2_with (first | (refine wpList_load_run rfl rfl rfl ld4 ?_))
  rw [← HZ9.out] at H1
  clear g1 g2 ld4
  go_loopw [31] (fun v31 wr => ∃ j : Nat, j ≤ 4 ∧ v31 = .int .i64 j ∧ Aside (Sat E wr (HP.pt (w.heap.size + 1) (.cells (b8s (xorO SL k j)).toArray 100) * (HP.pt w.heap.size (.cells Z 100) * (HP.pt b (.cells CG 115) * q))))) (fun i _ => 4 - (intOf i).toNat)
  case atStart => exact ⟨0, by omega, rfl, ⟨by rw [← HZ9.out]; exact H1.out⟩⟩
  case round =>
    clear H1
    obtain ⟨j, hj, rfl, HS⟩ := hrel
    by_cases hlt : j < 4
    · have hlt2 : (j : Int) < 4 := by omega
      have ix := HIX.out wr j hlt
      have hL := HSLen.out j
      obtain ⟨w3, hr3, h3⟩ := run_store_slot (Z := slotZ) (S := SL j) (List.length_replicate ..) hL (by have h := HS.out.alloc (.cells (b8s slotZ).toArray 100); exact h)
      rw [← HZ.out] at hr3
      have ld3 := run_load_slot hL h3
      have hX := xorO_length HSLen.out k j
      have H3 := Aside.mk (And.intro h3 (And.intro hL hX))
      have HXS : Aside (xorO SL k (j + 1) = if j = k then xorO SL k j else zipX (xorO SL k j) (SL j)) := ⟨rfl⟩
      obtain ⟨X1, hX1⟩ : ∃ X1, X1 = xorO SL k (j + 1) := ⟨_, rfl⟩
      have HX1 := Aside.mk hX1
      rw [← hX1] at HXS
      clear hX1
      generalize xorO SL k j = X0 at *
      obtain ⟨CJ, hCJ⟩ : ∃ CJ, CJ = (b8s (SL j)).toArray := ⟨_, rfl⟩
      have HCJ := Aside.mk hCJ
      rw [← hCJ] at ix hr3 ld3
      rw [HZ9.out] at hr3
      clear h3 hL hX hCJ HS
      by_cases hjk : j = k
      · subst hjk
        rw [if_pos rfl] at HXS
        go_wp2_with (first | (refine wpList_store_run rfl rfl rfl rfl rfl hr3 ?_))
        go_roundw
        case rel => exact ⟨j + 1, by omega, by push_cast; rfl, ⟨by rw [← HX1.out, HXS.out]; exact H3.out.1.right⟩⟩
        case measure => simp [intOf]; omega
      · have hjk2 : ¬ (j : Int) = (k : Int) := by omega
        have hjk3 : ((j : Int) == (k : Int)) = false := by rw [beq_eq_false_iff_ne]; exact hjk2
        rw [if_neg hjk] at HXS
        go_wp2_with (first | (refine wpList_store_run rfl rfl rfl rfl rfl hr3 ?_) | (refine wpList_load_run rfl rfl rfl ld3 ?_))
        rw [HCJ.out]
        refine (stripe_mix E _ (w.heap.size + 1) 0 100 X0 (SL j) _ H3.out.2.1 (by rw [H3.out.2.2]; omega) H3.out.1.s2).mono ?_
        rintro e w5 ⟨rfl, h5⟩
        rw [mix_zip H3.out.2.2 H3.out.2.1, ← HXS.out, HX1.out] at h5
        have H5 := Aside.mk h5.drop2
        clear h5 hr3 ld3
        go_wp2
        go_roundw
        case rel => exact ⟨j + 1, by omega, by push_cast; rfl, H5⟩
        case measure => simp [intOf]; omega
    · obtain rfl : j = 4 := by omega
      have hML : (xorO SL k 4).length = 106 := xorO_length HSLen.out k 4
      have hMB : Bytes (xorO SL k 4) := by
        have h4 : xorO SL k 4 = xorO (fun j => if j < 4 then SL j else List.replicate 106 0) k 4 := xorO_ext k 4 fun j hj _ => by rw [if_pos hj]
        rw [h4]
        refine xorO_bytes (fun j => ?_) k 4
        split
        · rename_i h; exact HBY.out j h
        · exact fun x hx => by rw [List.eq_of_mem_replicate hx]; omega
      rw [← HMS.out] at HS hML hMB
      obtain ⟨S, hSe⟩ : ∃ S, S = M := ⟨_, rfl⟩
      rw [← hSe] at HS hML hMB HAT
      clear hSe HMS HBY HIX HSLen
      have HSL := Aside.mk hML
      obtain ⟨CS, hCS⟩ : ∃ CS, CS = (b8s S).toArray := ⟨_, rfl⟩
      have HCS := Aside.mk hCS
      rw [← hCS, HZ.out] at HS
      by_cases hk3 : k = 3
      · subst hk3
        have ld6 := run_slotC HCS.out HSL.out HS.out
        obtain ⟨w9, hr9, h9⟩ := run_storeC HCS.out HSL.out (List.length_replicate ..) (HS.out.perm (by ac_rfl : _ = HP.pt w.heap.size (.cells (b8s slotZ).toArray 100) * (HP.pt (w.heap.size + 1) (.cells CS 100) * (HP.pt b (.cells CG 115) * q))))
        have rl9 := run_slotC HCS.out HSL.out h9
        have H9 := Aside.mk h9.right.right
        clear h9 hML hMB hCS
        go_wp2_with (first | (refine wpList_load_run rfl rfl rfl ld6 ?_) | (refine wpList_store_run rfl rfl rfl rfl rfl hr9 ?_))
        refine bodyPost_ret (results_ct rfl rfl rl9) rfl ?_
        rw [HAT.out, HCS.out]
        exact ⟨rfl, H9.out⟩
      · have hk32 : ¬ (k : Int) = 3 := by omega
        have hk33 : ((k : Int) == 3) = false := by rw [beq_eq_false_iff_ne]; exact hk32
        have hx0 := getD_byte hMB 0
        have hhd : S.headD 0 = S.getD 0 0 := by cases S <;> rfl
        obtain ⟨s0, hs0⟩ : ∃ s0 : Nat, (s0 : Int) = S.getD 0 0 := ⟨(S.getD 0 0).toNat, by omega⟩
        have hs255 : s0 ≤ 255 := by omega
        have g8 : wr.drew.cell? ⟨(w.heap.size + 1), 0, none⟩ = some (.int .u8 (s0 : Int)) := by rw [HS.out.drew.cell 0, hCS, hs0]; exact b8s_getD (by omega)
        have HSD := Aside.mk HS.out.drew
        have HLD := Aside.mk (run_slotC HCS.out HSL.out HS.out.drew)
        have HFI : Aside (fineS S = (decide (s0 ≤ 105) && (S.drop (1 + s0)).all fun x => decide (x = 0))) := ⟨by
          unfold fineS
          rw [hhd, ← hs0, Int.toNat_natCast]
          congr 1
          exact decide_eq_decide.2 (by omega)⟩
        rw [decide_eq_false hk3, Bool.false_or] at HAT
        clear HS hML hMB hCS hx0 hhd hs0
        by_cases h105 : s0 ≤ 105
        · have h105b : (s0 : Int) ≤ 105 := by omega
          have hmin : (if (105 : Int) < (s0 : Int) then 105 else (s0 : Int)) = (s0 : Int) := by rw [if_neg (by omega)]
          obtain ⟨o2, ho2⟩ : ∃ o2, o2 = (if s0 = 105 then 0 else 1 + s0) := ⟨_, rfl⟩
          have sl := run_slot_from wr.drew (w.heap.size + 1) s0 h105
          rw [← ho2] at sl
          have HTL : Aside ((S.drop (1 + s0)).length = 105 - s0) := ⟨by rw [List.length_drop, HSL.out]; omega⟩
          have HTC : Aside (∀ W', Sat E W' (HP.pt (w.heap.size + 1) (.cells CS 100) * (HP.pt w.heap.size (.cells (b8s slotZ).toArray 100) * (HP.pt b (.cells CG 115) * q))) → Cells W' (some ⟨w.heap.size + 1, o2, none⟩) (b8s (S.drop (1 + s0)))) := ⟨fun W' h => by
            by_cases h5 : s0 = 105
            · rw [List.drop_of_length_le (by rw [HSL.out]; omega)]
              exact Cells.nil _ _
            · rw [ho2, if_neg h5]
              rw [HCS.out] at h
              exact Sat.ptCells (off := 1 + s0) (l := b8s (S.drop (1 + s0))) h (by unfold b8s; rw [List.length_map, ← List.map_drop, List.take_of_length_le (by rw [List.length_map]; exact Nat.le_refl _)])⟩
          clear ho2
          go_wp2
          refine region_R [12, 16] [12] (fun W => (loadVar 100 ⟨w.heap.size + 1, 0, none⟩).run Tryz.prog W = .ok (.agg CS) W) #[false, false, false, false, false, false, false, false, false, false, false, false, false, false, false, false, false, false] (by kernel_rfl) rfl rfl ?_
          refine wpR_held (i := 0) (v := .agg CS) #[true, false, false, false, false, false, false, false, false, false, false, false, false, false, false, false, false, false] rfl onlyN_noPanic (by kernel_rfl) HLD.out (.inl ⟨rfl, fun w' hT => exec_load rfl rfl hT⟩) ?_
          simp only [Act.put, List.setIfInBounds_toArray, List.set_cons_zero, List.set_cons_succ]
          refine wpR_rd 1 #[true, true, false, false, false, false, false, false, false, false, false, false, false, false, false, false, false, false] rfl onlyN_noPanic (by kernel_rfl) (fun K hK => ?_); (go_simp; try go_bits); refine hK _ ?_; clear hK K
          refine wpR_rd 2 #[true, true, true, false, false, false, false, false, false, false, false, false, false, false, false, false, false, false] rfl onlyN_noPanic (by kernel_rfl) (fun K hK => ?_); (go_simp; try go_bits); refine hK _ ?_; clear hK K
          refine wpR_rd 3 #[true, true, true, true, false, false, false, false, false, false, false, false, false, false, false, false, false, false] rfl onlyN_noPanic (by kernel_rfl) (fun K hK => ?_); (go_simp; try go_bits); refine hK _ ?_; clear hK K
          refine wpR_rd 4 #[true, true, true, true, true, false, false, false, false, false, false, false, false, false, false, false, false, false] rfl onlyN_noPanic (by kernel_rfl) (fun K hK => ?_); (go_simp; try go_bits); refine hK _ ?_; clear hK K
          refine wpR_rd 5 #[true, true, true, true, true, true, false, false, false, false, false, false, false, false, false, false, false, false] rfl onlyN_noPanic (by kernel_rfl) (fun K hK => ?_); (go_simp; try go_bits); refine hK _ ?_; clear hK K
          refine wpR_rd 6 #[true, true, true, true, true, true, true, false, false, false, false, false, false, false, false, false, false, false] rfl onlyN_noPanic (by kernel_rfl) (fun K hK => ?_); (go_simp; try go_bits); refine hK _ ?_; clear hK K
          refine wpR_rd 7 #[true, true, true, true, true, true, true, true, false, false, false, false, false, false, false, false, false, false] rfl onlyN_noPanic (by kernel_rfl) (fun K hK => ?_); (go_simp; try go_bits); refine hK _ ?_; clear hK K
          refine wpR_rd 8 #[true, true, true, true, true, true, true, true, true, false, false, false, false, false, false, false, false, false] rfl onlyN_noPanic (by kernel_rfl) (fun K hK => ?_); (go_simp; try go_bits); refine hK _ ?_; clear hK K
          refine wpR_rd 9 #[true, true, true, true, true, true, true, true, true, true, false, false, false, false, false, false, false, false] rfl onlyN_noPanic (by kernel_rfl) (fun K hK => ?_); (go_simp; try go_bits); refine hK _ ?_; clear hK K
          refine wpR_rd 10 #[true, true, true, true, true, true, true, true, true, true, true, false, false, false, false, false, false, false] rfl onlyN_noPanic (by kernel_rfl) (fun K hK => ?_); (go_simp; try go_bits); refine hK _ ?_; clear hK K
          refine wpR_rd 11 #[true, true, true, true, true, true, true, true, true, true, true, true, false, false, false, false, false, false] rfl onlyN_noPanic (by kernel_rfl) (fun K hK => ?_); (go_simp; try go_bits); refine hK _ ?_; clear hK K
          refine wpR_keep #[true, true, true, true, true, true, true, true, true, true, true, true, true, false, false, false, false, false] (i := 12) rfl (by kernel_rfl) (fun K hK => ?_)
          go_simp
          refine (trim0_ok E _ (w.heap.size + 1) o2 (S.drop (1 + s0)) (105 - s0) (105 - s0) _ HTL.out (Nat.le_refl _) (by omega) HTC.out HSD.out).mono ?_
          rintro e wt ⟨⟨At, rt, dt, rfl, hrt⟩, ht⟩
          have HRT := Aside.mk hrt
          have HT0 := Aside.mk ht
          refine hK _ _ (run_slotC HCS.out HSL.out ht) ?_
          clear hK K ht hrt g8 sl HSD
          rcases Nat.eq_zero_or_pos rt with hz | hz
          · subst hz
            refine wpR_pu 13 #[true, true, true, true, true, true, true, true, true, true, true, true, true, true, false, false, false, false] rfl onlyN_noPanic (by kernel_rfl) (fun K hK => ?_); (go_simp; try go_bits); refine hK _ ?_; clear hK K
            refine wpR_pu 14 #[true, true, true, true, true, true, true, true, true, true, true, true, true, true, true, false, false, false] rfl onlyN_noPanic (by kernel_rfl) (fun K hK => ?_); (go_simp; try go_bits); refine hK _ ?_; clear hK K
            refine wpR_pu 15 #[true, true, true, true, true, true, true, true, true, true, true, true, true, true, true, true, false, false] rfl onlyN_noPanic (by kernel_rfl) (fun K hK => ?_); (go_simp; try go_bits); refine hK _ ?_; clear hK K
            refine wpR_eff #[true, true, true, true, true, true, true, true, true, true, true, true, true, true, true, true, true, false] (i := 16) rfl (by kernel_rfl) (fun K hK => ?_)
            obtain ⟨w9, hr9, h9⟩ := run_storeC HCS.out HSL.out (List.length_replicate ..) (HT0.out.perm (by ac_rfl : _ = HP.pt w.heap.size (.cells (b8s slotZ).toArray 100) * (HP.pt (w.heap.size + 1) (.cells CS 100) * (HP.pt b (.cells CG 115) * q))))
            have HR9 := Aside.mk h9.drop2
            have rl9 := run_slotC HCS.out HSL.out h9
            clear h9
            refine Eq.mpr (if_pos (by rfl)) ?_; refine wp_store_run rfl rfl rfl rfl hr9 ?_; refine hK _ _ ?_; clear hK K hr9
            refine wpR_rd 17 #[true, true, true, true, true, true, true, true, true, true, true, true, true, true, true, true, true, true] rfl onlyN_noPanic (by kernel_rfl) (fun K hK => ?_); (go_simp; try go_bits); refine hK _ ?_; clear hK K
            refine wpR_done (by kernel_rfl) ?_ _
            simp only [OnlyN]
            have hall : ((S.drop (1 + s0)).all fun x => decide (x = 0)) = true := by rw [List.all_eq_true]; exact fun x hx => decide_eq_true (HRT.out.1 rfl x hx)
            go_wp2
            refine bodyPost_ret (results_ct rfl rfl rl9) rfl ?_
            rw [HAT.out, HFI.out, decide_eq_true h105, hall, HCS.out]
            exact ⟨rfl, HR9.out.right⟩
          · have hz2 : ¬ (rt : Int) = 0 := by omega
            have hz3 : ((rt : Int) == 0) = false := by rw [beq_eq_false_iff_ne]; exact hz2
            refine wpR_pu 13 #[true, true, true, true, true, true, true, true, true, true, true, true, true, true, false, false, false, false] rfl onlyN_noPanic (by kernel_rfl) (fun K hK => ?_); (go_simp; try go_bits); refine hK _ ?_; clear hK K
            refine wpR_pu 14 #[true, true, true, true, true, true, true, true, true, true, true, true, true, true, true, false, false, false] rfl onlyN_noPanic (by kernel_rfl) (fun K hK => ?_); (go_simp; try go_bits); refine hK _ ?_; clear hK K
            refine wpR_pu 15 #[true, true, true, true, true, true, true, true, true, true, true, true, true, true, true, true, false, false] rfl onlyN_noPanic (by kernel_rfl) (fun K hK => ?_); (go_simp; try go_bits); refine hK _ ?_; clear hK K
            refine wpR_eff #[true, true, true, true, true, true, true, true, true, true, true, true, true, true, true, true, true, false] (i := 16) rfl (by kernel_rfl) (fun K hK => ?_)
            obtain ⟨w9, hr9, h9⟩ := run_storeC HCS.out HSL.out (List.length_replicate ..) (HT0.out.perm (by ac_rfl : _ = HP.pt w.heap.size (.cells (b8s slotZ).toArray 100) * (HP.pt (w.heap.size + 1) (.cells CS 100) * (HP.pt b (.cells CG 115) * q))))
            have HR9 := Aside.mk h9.drop2
            have rl9 := run_slotC HCS.out HSL.out h9
            clear h9
            refine Eq.mpr (if_pos (by rfl)) ?_; refine wp_store_run rfl rfl rfl rfl hr9 ?_; refine hK _ _ ?_; clear hK K hr9
            refine wpR_rd 17 #[true, true, true, true, true, true, true, true, true, true, true, true, true, true, true, true, true, true] rfl onlyN_noPanic (by kernel_rfl) (fun K hK => ?_); (go_simp; try go_bits); refine hK _ ?_; clear hK K
            refine wpR_done (by kernel_rfl) ?_ _
            simp only [OnlyN]
            have hall : ((S.drop (1 + s0)).all fun x => decide (x = 0)) = false := by rw [← Bool.not_eq_true, List.all_eq_true]; exact fun h => absurd (HRT.out.2 fun x hx => of_decide_eq_true (h x hx)) (by omega)
            go_wp2
            refine bodyPost_ret (results_ct rfl rfl rl9) rfl ?_
            rw [HAT.out, HFI.out, decide_eq_true h105, hall, HCS.out]
            exact ⟨rfl, HR9.out.right⟩
        · have h105b : ¬ (s0 : Int) ≤ 105 := by omega
          have h105c : ((s0 : Int) ≤ 105) = False := eq_false h105b
          have h105d : decide ((s0 : Int) ≤ 105) = false := decide_eq_false h105b
          go_wp2
          refine region_R [12, 16] [12] (fun W => (loadVar 100 ⟨w.heap.size + 1, 0, none⟩).run Tryz.prog W = .ok (.agg CS) W) #[false, false, false, false, false, false, false, false, false, false, false, false, false, false, false, false, false, false] (by kernel_rfl) rfl rfl ?_
          refine wpR_held (i := 0) (v := .agg CS) #[true, false, false, false, false, false, false, false, false, false, false, false, false, false, false, false, false, false] rfl onlyN_noPanic (by kernel_rfl) HLD.out (.inl ⟨rfl, fun w' hT => exec_load rfl rfl hT⟩) ?_
          simp only [Act.put, List.setIfInBounds_toArray, List.set_cons_zero, List.set_cons_succ]
          refine wpR_rd 1 #[true, true, false, false, false, false, false, false, false, false, false, false, false, false, false, false, false, false] rfl onlyN_noPanic (by kernel_rfl) (fun K hK => ?_); (go_simp; try go_bits); refine hK _ ?_; clear hK K
          refine wpR_rd 2 #[true, true, true, false, false, false, false, false, false, false, false, false, false, false, false, false, false, false] rfl onlyN_noPanic (by kernel_rfl) (fun K hK => ?_); (go_simp; try go_bits); refine hK _ ?_; clear hK K
          refine wpR_rd 3 #[true, true, true, true, false, false, false, false, false, false, false, false, false, false, false, false, false, false] rfl onlyN_noPanic (by kernel_rfl) (fun K hK => ?_); (go_simp; try go_bits); refine hK _ ?_; clear hK K
          refine wpR_rd 4 #[true, true, true, true, true, false, false, false, false, false, false, false, false, false, false, false, false, false] rfl onlyN_noPanic (by kernel_rfl) (fun K hK => ?_); (go_simp; try go_bits); refine hK _ ?_; clear hK K
          refine wpR_rd 5 #[true, true, true, true, true, true, false, false, false, false, false, false, false, false, false, false, false, false] rfl onlyN_noPanic (by kernel_rfl) (fun K hK => ?_); (go_simp; try go_bits); refine hK _ ?_; clear hK K
          refine wpR_rd 6 #[true, true, true, true, true, true, true, false, false, false, false, false, false, false, false, false, false, false] rfl onlyN_noPanic (by kernel_rfl) (fun K hK => ?_); (go_simp; try go_bits); refine hK _ ?_; clear hK K
          refine wpR_rd 7 #[true, true, true, true, true, true, true, true, false, false, false, false, false, false, false, false, false, false] rfl onlyN_noPanic (by kernel_rfl) (fun K hK => ?_); (go_simp; try go_bits); refine hK _ ?_; clear hK K
          refine wpR_rd 8 #[true, true, true, true, true, true, true, true, true, false, false, false, false, false, false, false, false, false] rfl onlyN_noPanic (by kernel_rfl) (fun K hK => ?_); (go_simp; try go_bits); refine hK _ ?_; clear hK K
          refine wpR_rd 9 #[true, true, true, true, true, true, true, true, true, true, false, false, false, false, false, false, false, false] rfl onlyN_noPanic (by kernel_rfl) (fun K hK => ?_); (go_simp; try go_bits); refine hK _ ?_; clear hK K
          refine wpR_rd 10 #[true, true, true, true, true, true, true, true, true, true, true, false, false, false, false, false, false, false] rfl onlyN_noPanic (by kernel_rfl) (fun K hK => ?_); (go_simp; try go_bits); refine hK _ ?_; clear hK K
          refine wpR_rd 11 #[true, true, true, true, true, true, true, true, true, true, true, true, false, false, false, false, false, false] rfl onlyN_noPanic (by kernel_rfl) (fun K hK => ?_); (go_simp; try go_bits); refine hK _ ?_; clear hK K
          refine wpR_keep #[true, true, true, true, true, true, true, true, true, true, true, true, true, false, false, false, false, false] (i := 12) rfl (by kernel_rfl) (fun K hK => ?_)
          go_simp
          refine hK _ _ HLD.out ?_
          clear hK K
          refine wpR_pu 13 #[true, true, true, true, true, true, true, true, true, true, true, true, true, true, false, false, false, false] rfl onlyN_noPanic (by kernel_rfl) (fun K hK => ?_); (go_simp; try go_bits); refine hK _ ?_; clear hK K
          refine wpR_pu 14 #[true, true, true, true, true, true, true, true, true, true, true, true, true, true, true, false, false, false] rfl onlyN_noPanic (by kernel_rfl) (fun K hK => ?_); (go_simp; try go_bits); refine hK _ ?_; clear hK K
          refine wpR_pu 15 #[true, true, true, true, true, true, true, true, true, true, true, true, true, true, true, true, false, false] rfl onlyN_noPanic (by kernel_rfl) (fun K hK => ?_); (go_simp; try go_bits); refine hK _ ?_; clear hK K
          refine wpR_eff #[true, true, true, true, true, true, true, true, true, true, true, true, true, true, true, true, true, false] (i := 16) rfl (by kernel_rfl) (fun K hK => ?_)
          obtain ⟨w9, hr9, h9⟩ := run_storeC HCS.out HSL.out (List.length_replicate ..) (HSD.out.perm (by ac_rfl : _ = HP.pt w.heap.size (.cells (b8s slotZ).toArray 100) * (HP.pt (w.heap.size + 1) (.cells CS 100) * (HP.pt b (.cells CG 115) * q))))
          have HR9 := Aside.mk h9.drop2
          have rl9 := run_slotC HCS.out HSL.out h9
          clear h9
          refine Eq.mpr (if_pos (by rfl)) ?_; refine wp_store_run rfl rfl rfl rfl hr9 ?_; refine hK _ _ ?_; clear hK K hr9
          refine wpR_rd 17 #[true, true, true, true, true, true, true, true, true, true, true, true, true, true, true, true, true, true] rfl onlyN_noPanic (by kernel_rfl) (fun K hK => ?_); (go_simp; try go_bits); refine hK _ ?_; clear hK K
          refine wpR_done (by kernel_rfl) ?_ _
          simp only [OnlyN]
          go_wp2
          refine bodyPost_ret (results_ct rfl rfl rl9) rfl ?_
          rw [HAT.out, HFI.out, decide_eq_false h105, HCS.out]
          exact ⟨rfl, HR9.out.right⟩
def mend1 (A : Dk) (f : ByteArray) (i gen : Nat) (p : List Int) : (Bool × Int) × Dk :=
  if (A.write f i (extI f i gen p)).1 = 0 then
    ((decide (((A.write f i (extI f i gen p)).2.sync f).1 = 0), ((A.write f i (extI f i gen p)).2.sync f).1), ((A.write f i (extI f i gen p)).2.sync f).2)
  else ((false, (A.write f i (extI f i gen p)).1), (A.write f i (extI f i gen p)).2)
def firstBad (A : Dk) (x : ByteArray) (gen i : Int) : Option Nat := [0, 1, 2, 3].find? fun k => !(slotOf A x gen i k).2
theorem firstBad_at {A : Dk} {x : ByteArray} {gen i : Int} {k : Nat} (hk : k < 4) (hb : ∀ j, j < k → (slotOf A x gen i j).2 = true) (hr : (slotOf A x gen i k).2 = false) : firstBad A x gen i = some k := by
  unfold firstBad
  have hc : k = 0 ∨ k = 1 ∨ k = 2 ∨ k = 3 := by omega
  rcases hc with h0 | h0 | h0 | h0 <;> subst h0
  · simp [List.find?, hr]
  · simp [List.find?, hr, hb 0 (by omega)]
  · simp [List.find?, hr, hb 0 (by omega), hb 1 (by omega)]
  · simp [List.find?, hr, hb 0 (by omega), hb 1 (by omega), hb 2 (by omega)]
theorem firstBad_none {A : Dk} {x : ByteArray} {gen i : Int} (hb : ∀ j, j < 4 → (slotOf A x gen i j).2 = true) : firstBad A x gen i = none := by
  unfold firstBad
  simp [List.find?, hb 0 (by omega), hb 1 (by omega), hb 2 (by omega), hb 3 (by omega)]
def mendK (A : Dk) (x : ByteArray) (gen i : Int) : Option Nat → (Bool × Int) × Dk
  | none => ((false, 0), A)
  | some k => if (atF A x gen i k).2 = true then mend1 A (stripeF x k) i.toNat gen.toNat (payI k (atF A x gen i k).1) else ((false, 50), A)
def mendS (A : Dk) (x : ByteArray) (gen i : Int) : (Bool × Int) × Dk := if i < 0 ∨ 2147483647 < i then ((false, 1), A) else mendK A x gen i (firstBad A x gen i)
theorem openI_byt {b : List Int} {f : ByteArray} {i : Int} {x : List Int × Nat} (h : openI b f i = some x) (hb : Bytes b) : Bytes x.1 := by
  unfold openI at h
  split at h
  · cases h
  · split at h
    · cases h
    · split at h
      · cases h
      · simp only [Option.some.injEq] at h
        rw [← h]
        exact fun x hx => hb x (List.mem_of_mem_drop (List.mem_of_mem_take hx))
theorem readT_byt {file : Nat} {p : List Int} (h : p.length ≤ 106) (hb : Bytes p) : Bytes (readT file p).1 := by
  unfold readT
  split
  · refine hb.append fun x hx => ?_
    rw [List.eq_of_mem_replicate hx]; omega
  · exact slotI_bytes (by rw [List.length_take]; omega) fun x hx => hb x (List.mem_of_mem_take hx)
theorem readS_byt {A : Dk} {f : ByteArray} {file : Nat} {gen i : Int} (hb : ∀ c, A.cel f i = some c → Bytes c.read) : Bytes (readS A f file gen i).1 := by
  have hz : Bytes slotZ := fun x hx => by rw [List.eq_of_mem_replicate hx]; omega
  unfold readS
  cases hc : A.cel f i with
  | none => exact hz
  | some c =>
    dsimp only
    cases ho : openI c.read f i with
    | none => exact hz
    | some x =>
      dsimp only
      split
      · exact hz
      · exact readT_byt (openI_gen (p := x.1) (g := x.2) ho).2 (openI_byt ho (hb c hc))
theorem readS_gen {A : Dk} {f : ByteArray} {file : Nat} {gen i : Int} (h : (readS A f file gen i).2 = true) : 0 ≤ gen ∧ gen ≤ 4611686018427387904 := by
  unfold readS at h
  cases hc : A.cel f i with
  | none => rw [hc] at h; cases h
  | some c =>
    rw [hc] at h
    dsimp only at h
    cases ho : openI c.read f i with
    | none => rw [ho] at h; cases h
    | some x =>
      rw [ho] at h
      dsimp only at h
      by_cases hg : (x.2 : Int) ≠ gen
      · rw [if_pos hg] at h; cases h
      · have hg2 : (x.2 : Int) = gen := by omega
        have := (openI_gen (p := x.1) (g := x.2) ho).1
        omega
theorem atF_length (A : Dk) (x : ByteArray) (gen i : Int) (k : Nat) : (atF A x gen i k).1.length = 106 := by
  unfold atF
  split
  · exact readS_length _ _ _ _ _
  · split
    · exact List.length_replicate ..
    · exact xorO_length (slotsL_length A x gen i) k 4
theorem atF_byt {A : Dk} {x : ByteArray} {gen i : Int} {k : Nat} (hk : k < 4) (hb : ∀ j, j < 4 → Bytes (slotsL A x gen i j)) : Bytes (atF A x gen i k).1 := by
  unfold atF
  split
  · exact hb k hk
  · split
    · exact fun y hy => by rw [List.eq_of_mem_replicate hy]; omega
    · unfold missP
      have h4 : xorO (slotsL A x gen i) k 4 = xorO (fun j => if j < 4 then slotsL A x gen i j else List.replicate 106 0) k 4 := xorO_ext k 4 fun j hj _ => by rw [if_pos hj]
      rw [h4]
      refine xorO_bytes (fun j => ?_) k 4
      split
      · rename_i h; exact hb j h
      · exact fun y hy => by rw [List.eq_of_mem_replicate hy]; omega
theorem atF_miss {A : Dk} {x : ByteArray} {gen i : Int} {k : Nat} (hk : k < 4) (hr : (slotOf A x gen i k).2 = false) (h : (atF A x gen i k).2 = true) : (0 ≤ gen ∧ gen ≤ 4611686018427387904) ∧ (k ≠ 3 → (atF A x gen i k).1.headD 0 ≤ 105) := by
  have e : atF A x gen i k = if 1 < badN A x gen i 4 then (slotZ, false) else (missP A x gen i k, decide (k = 3) || fineS (missP A x gen i k)) := by
    unfold atF
    rw [if_neg (by rw [hr]; decide)]
  by_cases hb : 1 < badN A x gen i 4
  · rw [e, if_pos hb] at h; cases h
  rw [e, if_neg hb] at h ⊢
  constructor
  · obtain ⟨j, hj, hjr⟩ : ∃ j, j < 4 ∧ (slotOf A x gen i j).2 = true := by
      have h0 : badN A x gen i 4 = (if (slotOf A x gen i 0).2 = true then 0 else 1) + (if (slotOf A x gen i 1).2 = true then 0 else 1) + (if (slotOf A x gen i 2).2 = true then 0 else 1) + (if (slotOf A x gen i 3).2 = true then 0 else 1) := by
        simp only [badN]; omega
      by_cases a0 : (slotOf A x gen i 0).2 = true
      · exact ⟨0, by omega, a0⟩
      by_cases a1 : (slotOf A x gen i 1).2 = true
      · exact ⟨1, by omega, a1⟩
      rw [if_neg a0, if_neg a1] at h0
      omega
    exact readS_gen hjr
  · intro hk3
    rw [decide_eq_false hk3, Bool.false_or] at h
    unfold fineS at h
    simp only [Bool.and_eq_true, decide_eq_true_eq] at h
    exact h.1
set_option maxHeartbeats 4000000 in
set_option maxRecDepth 100000 in
theorem stripe_mend_arg (E : Env) (q : HP) (d : Nat) (A : Dk) (name : ByteArray) (gen i : Int) (w : World) (hi64 : wf64 i) (hi : i < 0 ∨ 2147483647 < i) (hw : Sat E w (HP.disk d A * q)) :
    Calls Tryz.prog 16 #[.pointer (some ⟨d, 0, none⟩), .string name, .int .i64 gen, .int .i64 i] w fun e w' => e = .returned (.tuple #[.bool false, .int .i64 1]) ∧ Sat E w' (HP.disk d A * q) := by
  have H := Aside.mk hw
  have hd : i < 0 ∨ (¬ i < 0 ∧ 2147483647 < i) := by omega
  clear hw hi
  rcases hd with h0 | ⟨h0, h1⟩
  all_goals
    go_enter Tryz.func16, Tryz.ntmps16
    go_wp2_with fail
    refine (stripe_none E q d A _ H.out).mono ?_
    rintro e w1 ⟨rfl, h1⟩
    have H1 := Aside.mk h1
    clear h1
    go_wp2
    go_ret2
    exact ⟨rfl, H1.out⟩
set_option maxHeartbeats 8000000 in
set_option maxRecDepth 100000 in
theorem stripe_mend (E : Env) (q : HP) (d : Nat) (A : Dk) (name : ByteArray) (gen i : Int) (w : World) (hname : name.size + 2 ≤ maxLen) (hi64 : wf64 i) (hby : ∀ k, k < 4 → ∀ (i : Int) c, A.cel (stripeF name k) i = some c → Bytes c.read)
    (hq : ∀ w, Sat E w q → Quarter w) (hw : Sat E w (HP.disk d A * q)) :
    Calls Tryz.prog 16 #[.pointer (some ⟨d, 0, none⟩), .string name, .int .i64 gen, .int .i64 i] w fun e w' => e = .returned (.tuple #[.bool (mendS A name gen i).1.1, .int .i64 (mendS A name gen i).1.2]) ∧ Sat E w' (HP.disk d (mendS A name gen i).2 * q) := by
  by_cases hi : i < 0 ∨ 2147483647 < i
  · have e : mendS A name gen i = ((false, 1), A) := by unfold mendS; rw [if_pos hi]
    rw [e]
    exact stripe_mend_arg E q d A name gen i w hi64 hi hw
  have HM : Aside (mendS A name gen i = mendK A name gen i (firstBad A name gen i)) := ⟨by unfold mendS; rw [if_neg hi]⟩
  generalize mendS A name gen i = RES at *
  have hbs : ∀ j, j < 4 → Bytes (slotsL A name gen i j) := fun j hj => readS_byt (hby j hj i)
  have HQ := Aside.mk (And.intro hq (And.intro hby (And.intro hbs (And.intro hw hname))))
  have i0 : ¬ i < 0 := fun h => hi (.inl h)
  have i1 : ¬ 2147483647 < i := fun h => hi (.inr h)
  clear hq hby hbs hw hname hi
  go_enter Tryz.func16, Tryz.ntmps16
  go_wp2_with fail
  refine (stripe_none E q d A _ HQ.out.2.2.2.1).mono ?_
  rintro e w1 ⟨rfl, h1⟩
  have H1 := Aside.mk h1
  clear h1
  go_wp2_with fail
  refine (stripe_look E q d A name gen i _ HQ.out.2.2.2.2 (fun k hk c => HQ.out.2.1 k hk _ c) HQ.out.1 H1.out).mono ?_
  intro e w3 h3
  obtain ⟨G, R, n, rfl, hG, h3⟩ := h3
  have h4 := h3.alloc (.cells Tryz.zeroCells115 115)
  obtain ⟨w5, hr5, h5⟩ := run_store_grp (n := n) hG.len hG.rlen h4
  have H5 := Aside.mk (And.intro h5 hG)
  obtain ⟨C, hC⟩ : ∃ C, C = (gCells G R n).toArray := ⟨_, rfl⟩
  rw [← hC] at hr5 ⊢
  clear h3 h4 h5 hG hC H1
  go_wp2_with (first | (refine wpList_store_run rfl rfl rfl rfl rfl hr5 ?_))
  refine (stripe_names E _ name _ HQ.out.2.2.2.2 H5.out.1).mono ?_
  rintro e w6 ⟨rfl, h6⟩
  obtain ⟨fa, hfae⟩ : ∃ fa, fa = name ++ dot0 := ⟨_, rfl⟩
  obtain ⟨fb, hfbe⟩ : ∃ fb, fb = name ++ dot1 := ⟨_, rfl⟩
  obtain ⟨fc, hfce⟩ : ∃ fc, fc = name ++ dot2 := ⟨_, rfl⟩
  obtain ⟨fd, hfde⟩ : ∃ fd, fd = name ++ dotP := ⟨_, rfl⟩
  have HF : Aside ((fa.size ≤ maxLen ∧ fb.size ≤ maxLen ∧ fc.size ≤ maxLen ∧ fd.size ≤ maxLen) ∧ stripeF name 0 = fa ∧ stripeF name 1 = fb ∧ stripeF name 2 = fc ∧ stripeF name 3 = fd) := ⟨by
    have h := dot_size name
    have hn := HQ.out.2.2.2.2
    rw [hfae, hfbe, hfce, hfde]
    exact ⟨⟨by rw [h.1]; exact hn, by rw [h.2.1]; exact hn, by rw [h.2.2.1]; exact hn, by rw [h.2.2.2]; exact hn⟩, rfl, rfl, rfl, rfl⟩⟩
  rw [← hfae, ← hfbe, ← hfce, ← hfde]
  have i0 : ∀ w, (Instr.index 104 (.agg #[.string fa, .string fb, .string fc, .string fd]) (.int .i64 0)).run Tryz.prog w = .ok (.string fa) w := fun w => by kernel_rfl
  have i1 : ∀ w, (Instr.index 104 (.agg #[.string fa, .string fb, .string fc, .string fd]) (.int .i64 1)).run Tryz.prog w = .ok (.string fb) w := fun w => by kernel_rfl
  have i2 : ∀ w, (Instr.index 104 (.agg #[.string fa, .string fb, .string fc, .string fd]) (.int .i64 2)).run Tryz.prog w = .ok (.string fc) w := fun w => by kernel_rfl
  have i3 : ∀ w, (Instr.index 104 (.agg #[.string fa, .string fb, .string fc, .string fd]) (.int .i64 3)).run Tryz.prog w = .ok (.string fd) w := fun w => by kernel_rfl
  clear hfae hfbe hfce hfde
  have H6 := Aside.mk (And.intro h6 H5.out.2)
  clear h6 H5 hr5
  obtain ⟨bG, hbG⟩ : ∃ bG, bG = w3.heap.size := ⟨_, rfl⟩
  rw [← hbG] at H6 ⊢
  clear hbG
  go_wp2
  go_loopw [34] (fun v34 wr => ∃ k : Nat, k ≤ 4 ∧ v34 = .int .i64 k ∧ Aside (∀ j, j < k → (slotOf A name gen i j).2 = true) ∧ Aside (Sat E wr (HP.pt bG (.cells (gCells G R n).toArray 115) * (HP.disk d A * q)))) (fun i _ => 4 - (intOf i).toNat)
  case atStart => exact ⟨0, by omega, rfl, ⟨fun j h => by omega⟩, ⟨H6.out.1⟩⟩
  case round =>
    obtain ⟨k, hk, rfl, HR, HS⟩ := hrel
    by_cases hlt : k < 4
    · obtain ⟨f, hf, hff, hix⟩ : ∃ f : ByteArray, f.size ≤ maxLen ∧ stripeF name k = f ∧ ∀ w, (Instr.index 104 (.agg #[.string fa, .string fb, .string fc, .string fd]) (.int .i64 (k : Int))).run Tryz.prog w = .ok (.string f) w := by
        have hc : k = 0 ∨ k = 1 ∨ k = 2 ∨ k = 3 := by omega
        rcases hc with h0 | h0 | h0 | h0 <;> subst h0
        · exact ⟨fa, HF.out.1.1, HF.out.2.1, i0⟩
        · exact ⟨fb, HF.out.1.2.1, HF.out.2.2.1, i1⟩
        · exact ⟨fc, HF.out.1.2.2.1, HF.out.2.2.2.1, i2⟩
        · exact ⟨fd, HF.out.1.2.2.2, HF.out.2.2.2.2, i3⟩
      have hlt2 : (k : Int) < 4 := by omega
      have hG := H6.out.2
      have g2 : wr.cell? ⟨bG, 424 + k, none⟩ = some (.bool (slotOf A name gen i k).2) := by
        rw [HS.out.cell (424 + k)]
        exact gCells_right hG.len (hG.right k hlt)
      have HAT := Aside.mk (stripe_at E (HP.disk d A * q) bG A name gen i G R n k wr hlt hG HQ.out.2.2.1 HS.out)
      have HFF := Aside.mk (And.intro hf hff)
      clear i0 i1 i2 i3 hG hf hff
      by_cases hr : (slotOf A name gen i k).2 = true
      · rw [hr] at g2
        have HR2 : Aside (∀ j, j < k + 1 → (slotOf A name gen i j).2 = true) := ⟨fun j hj => by
          by_cases e : j = k
          · rw [e]; exact hr
          · exact HR.out j (by omega)⟩
        clear hr HAT HR HFF
        go_wp2
        go_roundw
        case rel => exact ⟨k + 1, by omega, by push_cast; rfl, HR2, HS⟩
        case measure => simp [intOf]; omega
      · rw [Bool.not_eq_true] at hr
        rw [hr] at g2
        have hfb := firstBad_at hlt HR.out hr
        have hM := HM.out
        rw [hfb] at hM
        unfold mendK at hM
        dsimp only at hM
        have hAm := atF_miss hlt hr
        have hSl := atF_length A name gen i k
        have hSb := atF_byt hlt HQ.out.2.2.1
        obtain ⟨S, ok, hat⟩ : ∃ S ok, atF A name gen i k = (S, ok) := ⟨_, _, rfl⟩
        rw [hat] at HAT hM hAm hSl hSb
        dsimp only at HAT hM hAm hSl hSb
        clear hr hfb hat HR HS HM
        go_wp2_with fail
        refine HAT.out.mono ?_
        rintro e w7 ⟨rfl, h7⟩
        obtain ⟨w8, hr8, h8⟩ := run_store_zero hSl (h7.right.alloc (.cells Tryz.zeroCells100 100))
        have ld8 := run_load_slot hSl h8
        have H8 := Aside.mk h8
        obtain ⟨CS, hCS⟩ : ∃ CS, CS = (b8s S).toArray := ⟨_, rfl⟩
        rw [← hCS] at hr8 ld8 ⊢
        have HCS := Aside.mk hCS
        clear h7 h8 HAT hCS
        cases ok with
        | false =>
          rw [if_neg (by decide)] at hM
          have HM2 := Aside.mk hM
          clear hM hAm hSb
          go_wp2_with (first | (refine wpList_store_run rfl rfl rfl rfl rfl hr8 ?_))
          go_ret2
          rw [HM2.out]
          exact ⟨rfl, H8.out.right⟩
        | true =>
          rw [if_pos rfl] at hM
          obtain ⟨⟨hg0, hg1⟩, hh5⟩ := hAm rfl
          obtain ⟨gn, rfl⟩ : ∃ gn : Nat, gen = gn := ⟨gen.toNat, by omega⟩
          obtain ⟨ni, rfl⟩ : ∃ ni : Nat, i = ni := ⟨i.toNat, by omega⟩
          rw [Int.toNat_natCast, Int.toNat_natCast, HFF.out.2] at hM
          have HM2 := Aside.mk hM
          have HHD : Aside (k ≠ 3 → 0 ≤ S.headD 0 ∧ S.headD 0 ≤ 105) := ⟨fun hk3 => ⟨by
            cases S with
            | nil => exact Int.le_refl _
            | cons a l => exact (hSb a (List.mem_cons_self ..)).1, hh5 hk3⟩⟩
          have HSB := Aside.mk (And.intro hSl hSb)
          clear hM hAm hh5 hSb hSl
          go_wp2_with (first | (refine wpList_store_run rfl rfl rfl rfl rfl hr8 ?_) | (refine wpList_load_run rfl rfl rfl ld8 ?_))
          rw [HCS.out]
          refine (stripe_payload E _ k S w8 hlt HSB.out.1 HHD.out H8.out).mono ?_
          intro e w9 h9
          obtain ⟨Ap, cp, m, R9, rfl, hm, hm6, hmc, hcm, h9, hx9⟩ := h9
          have hpb : Bytes (payI k S) := fun x hx => by
            unfold payI at hx
            split at hx
            · exact HSB.out.2 x hx
            · exact HSB.out.2 x (List.mem_of_mem_drop (List.mem_of_mem_take hx))
          obtain ⟨p, hpe⟩ : ∃ p, p = payI k S := ⟨_, rfl⟩
          rw [← hpe] at hm hx9 hpb HM2
          have H9 := Aside.mk (And.intro h9 (And.intro hx9 (And.intro hm hpb)))
          clear h9 hx9 hpe hm hpb hr8 ld8 g2
          go_wp2_with fail
          refine (ext_frame E _ f ni gn Ap p m cp _ HFF.out.1 (by omega) hg1 H9.out.2.2.1 hm6 H9.out.2.2.2 (fun w h => ⟨HQ.out.1 _ h.right.right.right, H9.out.2.1 _ _ h⟩) H9.out.1).mono ?_
          rintro e w10 ⟨gx, rfl, h10⟩
          have H10 : Aside (Sat E w10 (HP.disk d A * (HP.pt gx (.cells (b8s (extI f ni gn p)).toArray 162) * (R9 * (HP.pt w7.heap.size (.cells (b8s S).toArray 100) * q))))) := ⟨h10.perm (by ac_rfl)⟩
          clear h10
          go_wp2_with fail
          refine (disk_write E _ d A f ni (some ⟨gx, 0, none⟩) (extI f ni gn p) 128 128 _ HFF.out.1 (extI_length (by rw [H9.out.2.2.1]; exact hm6)) (by decide) (fun w h => Sat.ptCells (off := 0) (l := b8s (extI f ni gn p)) h (by rw [List.drop_zero, List.take_length])) H10.out).mono ?_
          rintro e w11 ⟨rfl, h11⟩
          unfold mend1 at HM2
          obtain ⟨c1, A1, hA1⟩ : ∃ c1 A1, A.write f ni (extI f ni gn p) = (c1, A1) := ⟨_, _, rfl⟩
          rw [hA1] at h11 HM2 ⊢
          dsimp only at h11 HM2 ⊢
          have H11 := Aside.mk h11
          clear h11 hA1
          by_cases hc1 : c1 = 0
          · subst hc1
            rw [if_pos rfl] at HM2
            go_wp2_with fail
            refine (disk_sync E _ d A1 f _ HFF.out.1 H11.out).mono ?_
            rintro e w12 ⟨rfl, h12⟩
            obtain ⟨c2, A2, hA2⟩ : ∃ c2 A2, A1.sync f = (c2, A2) := ⟨_, _, rfl⟩
            rw [hA2] at h12 HM2 ⊢
            dsimp only at h12 HM2 ⊢
            have H12 := Aside.mk (And.intro h12 HM2.out)
            clear h12 hA2 HM2
            by_cases hc2 : c2 = 0
            · subst hc2
              go_wp2
              go_ret2
              rw [H12.out.2]
              exact ⟨rfl, (H12.out.1.perm (by ac_rfl : _ = HP.pt gx (.cells (b8s (extI f ni gn p)).toArray 162) * (R9 * (HP.pt w7.heap.size (.cells (b8s S).toArray 100) * (HP.disk d A2 * q))))).right.right.right⟩
            · have hc3 : (c2 == 0) = false := by rw [beq_eq_false_iff_ne]; exact hc2
              go_wp2
              go_ret2
              rw [H12.out.2, decide_eq_false hc2]
              exact ⟨rfl, (H12.out.1.perm (by ac_rfl : _ = HP.pt gx (.cells (b8s (extI f ni gn p)).toArray 162) * (R9 * (HP.pt w7.heap.size (.cells (b8s S).toArray 100) * (HP.disk d A2 * q))))).right.right.right⟩
          · have hc3 : (c1 == 0) = false := by rw [beq_eq_false_iff_ne]; exact hc1
            rw [if_neg hc1] at HM2
            have HM3 := HM2
            clear HM2
            go_wp2
            go_ret2
            rw [HM3.out]
            exact ⟨rfl, (H11.out.perm (by ac_rfl : _ = HP.pt gx (.cells (b8s (extI f ni gn p)).toArray 162) * (R9 * (HP.pt w7.heap.size (.cells (b8s S).toArray 100) * (HP.disk d A1 * q))))).right.right.right⟩
    · obtain rfl : k = 4 := by omega
      have hM := HM.out
      rw [firstBad_none HR.out] at hM
      unfold mendK at hM
      dsimp only at hM
      have HM2 := Aside.mk hM
      clear hM
      go_wp2
      go_ret2
      rw [HM2.out]
      exact ⟨rfl, HS.out.right⟩
end Go.Proofs.YtnpinegpajbkeaaGreatDoor
namespace Go.Proofs.YtnpinegpajbkeaaGreatDoor
open Go.RowKit HP
def HP.imgs (L : List (Value × List Int)) : HP := HP.all (L.map fun x => HP.row 5 1 x.1 128 (b8s x.2))
structure RC where
  c : Cel
  vr : Value
  vd : Value
  vs : Value
  vw : Value
def RC.vals (x : RC) : List Value := [x.vr, x.vd, x.vs, x.vw, .bool x.c.waits]
structure RF where
  name : ByteArray
  val : Value
  cs : List RC
def RF.vals (f : RF) : List Value := [.string f.name, f.val]
def HP.rcs (f : RF) : HP := HP.row 176 5 f.val f.cs.length (f.cs.flatMap RC.vals)
def RC.In (L : List (Value × List Int)) (x : RC) : Prop := (x.vr, x.c.read) ∈ L ∧ (x.vd, x.c.durable) ∈ L ∧ (x.vs, x.c.synced) ∈ L ∧ (x.vw, x.c.written) ∈ L
structure RView (A : Dk) (fs : List RF) (L : List (Value × List Int)) : Prop where
  same : fs.map (fun f => (f.name, f.cs.map (·.c))) = A.files
  imgs : ∀ f ∈ fs, ∀ x ∈ f.cs, x.In L
  fine : A.Fine
def HP.rdk (y : Nat) (room fuse : Int) (v : Value) (fs : List RF) (L : List (Value × List Int)) : HP :=
  HP.pt y (.cells #[.int .i64 room, v, .int .i64 fuse] 158) * (HP.row 174 2 v fs.length (fs.flatMap RF.vals) * (HP.all (fs.map HP.rcs) * HP.imgs L))
def HP.rdisk (y : Nat) (A : Dk) : HP := HP.ex fun x : Value × List RF × List (Value × List Int) => HP.fact (RView A x.2.1 x.2.2) * HP.rdk y A.room A.fuse x.1 x.2.1 x.2.2
section
variable {E : Env} {q : HP} {w : World} {y : Nat} {A : Dk} {fs : List RF} {L : List (Value × List Int)} {v : Value}
theorem Sat.rdisk_open (h : Sat E w (HP.rdisk y A * q)) : ∃ v fs L, RView A fs L ∧ Sat E w (HP.rdk y A.room A.fuse v fs L * q) := by
  obtain ⟨⟨v, fs, L⟩, h⟩ := h.ex_elim
  obtain ⟨hv, h⟩ := (h.perm (HP.mul_assoc _ _ _)).fact_elim
  exact ⟨v, fs, L, hv, h⟩
theorem Sat.rdisk_close (hv : RView A fs L) (h : Sat E w (HP.rdk y A.room A.fuse v fs L * q)) : Sat E w (HP.rdisk y A * q) := by
  refine Sat.ex_intro (v, fs, L) ?_
  exact (Sat.fact_intro hv h).perm (HP.mul_assoc _ _ _).symm
theorem Sat.rdk_parts {room fuse : Int} (h : Sat E w (HP.rdk y room fuse v fs L * q)) : Sat E w (HP.pt y (.cells #[.int .i64 room, v, .int .i64 fuse] 158) * (HP.row 174 2 v fs.length (fs.flatMap RF.vals) * (HP.all (fs.map HP.rcs) * (HP.imgs L * q)))) := by
  unfold HP.rdk at h
  exact h.perm (by ac_rfl)
theorem Sat.rdk_join {room fuse : Int} (h : Sat E w (HP.pt y (.cells #[.int .i64 room, v, .int .i64 fuse] 158) * (HP.row 174 2 v fs.length (fs.flatMap RF.vals) * (HP.all (fs.map HP.rcs) * (HP.imgs L * q))))) : Sat E w (HP.rdk y room fuse v fs L * q) := by
  unfold HP.rdk
  exact h.perm (by ac_rfl)
theorem all_mem {l : List HP} {p : HP} (h : p ∈ l) : ∃ r, HP.all l = p * r := by
  obtain ⟨j, hj⟩ := List.getElem?_of_mem h
  exact ⟨_, all_take hj⟩
theorem Sat.img {x : Value} {b : List Int} (hm : (x, b) ∈ L) (h : Sat E w (HP.imgs L * q)) : ∃ A c, x = .slice A 128 c ∧ 128 ≤ c ∧ c ≤ maxLen ∧ Cells w A (b8s b) := by
  obtain ⟨r, hr⟩ := all_mem (List.mem_map.2 ⟨_, hm, rfl⟩ : HP.row 5 1 x 128 (b8s b) ∈ L.map fun x => HP.row 5 1 x.1 128 (b8s x.2))
  unfold HP.imgs at h
  rw [hr] at h
  have h2 := h.perm (HP.mul_assoc _ _ _)
  obtain ⟨A, c, rfl, hc, hm⟩ := h2.row_slice
  exact ⟨A, c, rfl, hc, hm, h2.row_cells⟩
theorem Sat.img_push {x : Value} {b : List Int} (h : Sat E w (HP.row 5 1 x 128 (b8s b) * (HP.imgs L * q))) : Sat E w (HP.imgs ((x, b) :: L) * q) := by
  unfold HP.imgs at h ⊢
  rw [List.map_cons, HP.all_cons]
  exact h.perm (HP.mul_assoc _ _ _).symm
theorem RC.In.push {L : List (Value × List Int)} {x : RC} (h : x.In L) (z : Value × List Int) : x.In (z :: L) := ⟨List.mem_cons_of_mem _ h.1, List.mem_cons_of_mem _ h.2.1, List.mem_cons_of_mem _ h.2.2.1, List.mem_cons_of_mem _ h.2.2.2⟩
end
def strangeC (b : UInt8) : Bool := strangeB (b.toNat : Int)
theorem strange_high {c : Int} (h : 128 ≤ c) : strangeB c = true := by
  unfold strangeB
  simp
  omega
theorem runes_any (s : ByteArray) : ∀ (n pos : Nat) (acc : Array Value), s.size - pos ≤ n → ((Conv.runesFrom s n pos acc).toList.map intOf).any strangeB = ((acc.toList.map intOf).any strangeB || (s.data.toList.drop pos).any strangeC) := by
  intro n
  induction n with
  | zero =>
    intro pos acc h
    unfold Conv.runesFrom
    rw [List.drop_eq_nil_of_le (by rw [Array.length_toList]; show s.size ≤ pos; omega)]
    simp
  | succ n ih =>
    intro pos acc h
    unfold Conv.runesFrom
    by_cases hlt : pos < s.size
    · rw [if_pos hlt]
      have hd : s.data.toList.drop pos = s[pos] :: s.data.toList.drop (pos + 1) := by
        rw [List.drop_eq_getElem_cons (by rw [Array.length_toList]; exact hlt)]
        rfl
      rw [hd, List.any_cons]
      rcases Nat.lt_or_ge (s[pos]).toNat 128 with ha | ha
      · rw [decode_ascii s pos hlt ha]
        dsimp only
        rw [ih (pos + 1) _ (by omega), Array.toList_push, List.map_append, List.any_append]
        simp only [List.map_cons, List.map_nil, List.any_cons, List.any_nil, Bool.or_false, intOf, Int.ofNat_eq_natCast]
        rw [Bool.or_assoc]
        rfl
      · have hh := decode_high s pos hlt ha
        rw [ih _ _ (by omega), Array.toList_push, List.map_append, List.any_append]
        simp only [List.map_cons, List.map_nil, List.any_cons, List.any_nil, Bool.or_false, intOf, Int.ofNat_eq_natCast]
        rw [strange_high (by have := hh.1; omega)]
        have : strangeC s[pos] = true := strange_high (by omega)
        rw [this]
        simp
    · rw [if_neg hlt, List.drop_eq_nil_of_le (by rw [Array.length_toList]; show s.size ≤ pos; omega)]
      simp
theorem named_bytes (s : ByteArray) : namedB s = (decide (1 ≤ s.size) && decide (s.size ≤ 24) && !s.data.toList.any strangeC) := by
  unfold namedB runesOf
  rw [runes_any s s.size 0 #[] (by omega)]
  have e : (!s.toList.isEmpty) = decide (1 ≤ s.size) := by
    rw [ByteArray.toList_eq]
    have : s.data.toList.length = s.size := by rw [Array.length_toList]; rfl
    cases hd : s.data.toList with
    | nil => rw [hd] at this; simp at this; simp [← this]
    | cons a l => rw [hd] at this; simp at this; simp; omega
  rw [e]
  simp
end Go.Proofs.YtnpinegpajbkeaaGreatDoor
