/- Frames (layer 18): piece. -/
import Derived.Test.YtdbiebnnogjccaaGreatDoorFc
import Derived.Test.YtdbiebnnogjccaaGreatDoorIs
import Derived.Test.YtdbiebnnogjccaaGreatDoorFp
import Derived.Test.YtdbiebnnogjccaaGreatDoorGi
namespace Go.Proofs.YtdbiebnnogjccaaGreatDoor
open Go.RowKit
/-- What a world holds for frames: the laid variables. -/
structure FrW (w : World) (a0 a1 a2 : Addr) : Prop where
  et : EtIs w
  tbl : TblIs w
  v0 : w.cell? ⟨2, 0, none⟩ = some (.iface 308 (.pointer (some a0)))
  v1 : w.cell? ⟨3, 0, none⟩ = some (.iface 308 (.pointer (some a1)))
  v2 : w.cell? ⟨4, 0, none⟩ = some (.iface 308 (.pointer (some a2)))
  b0 : ∃ c t, w.heap[a0.block]? = some (.cells c t (0, 0))
  b1 : ∃ c t, w.heap[a1.block]? = some (.cells c t (0, 0))
  b2 : ∃ c t, w.heap[a2.block]? = some (.cells c t (0, 0))
theorem cell_below {w w' : World} {g o : Nat} {v : Value} (h : w.cell? ⟨g, o, none⟩ = some v) (hb : Below w.heap.size w w') : w'.cell? ⟨g, o, none⟩ = some v := by
  rw [hb.cell (p := ⟨g, o, none⟩) (World.block_lt_of_cell? w ⟨g, o, none⟩ h)]; exact h
theorem blk_belowE {w w' : World} {b : Nat} (h : ∃ c t, w.heap[b]? = some (.cells c t (0, 0))) (hb : Below w.heap.size w w') : ∃ c t, w'.heap[b]? = some (.cells c t (0, 0)) := by
  obtain ⟨c, t, h⟩ := h
  exact ⟨c, t, blk_below h hb⟩
theorem FrW.below {w w' : World} {a0 a1 a2 : Addr} (h : FrW w a0 a1 a2) (hb : Below w.heap.size w w') : FrW w' a0 a1 a2 :=
  ⟨h.et.below hb, h.tbl.below hb, cell_below h.v0 hb, cell_below h.v1 hb, cell_below h.v2 hb, blk_belowE h.b0 hb, blk_belowE h.b1 hb, blk_belowE h.b2 hb⟩
set_option maxRecDepth 100000 in
set_option maxHeartbeats 2000000 in
theorem frame_piece_no (b : ByteArray) (n : Int) (i k : Nat) (hn : n ≠ 0) (hi : i < 65536) (hk : k < 65536) (a0 a1 a2 : Addr) (w : World) (hw : FrW w a0 a1 a2) (h : pieceF n k b.data.toList i = false) :
    Calls Tryz.prog 148 #[.string b, .int .u32 n, .int .i64 i, .int .i64 k] w fun e w' => (∃ a, (a = a0 ∨ a = a1) ∧ e = .returned (.tuple #[.string ⟨#[]⟩, .iface 308 (.pointer (some a))])) ∧ Below w.heap.size w w' := by
  have z0 : ((n : Int) == 0) = false := by rw [beq_eq_false_iff_ne]; exact hn
  have HW := Lib.hid hw
  have NB := Lib.hid (fun W => frame_Num b W)
  have NQ := Lib.hid (fun W => frame_NumQ b W)
  clear hw
  by_cases c0 : numF b.data.toList = 0
  · rw [c0] at NB
    clear h
    go_enter Tryz.func148, Tryz.ntmps148
    go_wp2_with fail
    refine (NB.out _).mono ?_; rintro e w1 ⟨rfl, hb1⟩
    have hc := (HW.out.below hb1).v0
    have B1 := Lib.hid hb1
    clear hb1
    go_wp2_with fail
    go_quiet (fail)
    go_wp2_with fail
    go_ret2
    exact ⟨⟨a0, .inl rfl, rfl⟩, bstep B1.out (below_dN _ _)⟩
  have z1 : (numF b.data.toList == 0) = false := by rw [beq_eq_false_iff_ne]; exact c0
  by_cases c1 : numF b.data.toList = n
  · have hsz : b.size = 256 := by
      unfold numF at c0
      split at c0
      · rename_i hh; rw [size_list] at hh; exact hh.1
      · exact absurd rfl c0
    have hp : (b.data.toList.drop 4).take 4 ≠ beBytes i 2 ++ beBytes k 2 := by
      unfold pieceF at h
      rw [c1] at h
      simpa using h
    have z2 : (n != n) = false := by simp
    obtain ⟨U, hU⟩ : ∃ U, U = ofL (beBytes (i : Int) 2) := ⟨_, rfl⟩
    obtain ⟨V, hV⟩ : ∃ V, V = ofL (beBytes (k : Int) 2) := ⟨_, rfl⟩
    have M1 := Lib.hid (fun W h => frame_num2 (i : Int) (by omega) (by omega) W h)
    have M2 := Lib.hid (fun W h => frame_num2 (k : Int) (by omega) (by omega) W h)
    rw [← hU] at M1
    rw [← hV] at M2
    have s1 : ¬ 9223372036854775807 < U.size + V.size := by rw [hU, hV, ofL_size, ofL_size, beBytes_length, beBytes_length]; omega
    have hq : ((b.extract 4 8).toList == (U ++ V).toList) = false := by
      rw [Lib.toList_data, Lib.toList_data, extract_list, list_append, hU, hV, ofL_list, ofL_list, beq_eq_false_iff_ne]; exact hp
    rw [c1] at NB NQ z1
    have l1 : (4 : Int) ≤ (b.size : Int) := by omega
    have l2 : (8 : Int) ≤ (b.size : Int) := by omega
    have w1 : IntKind.u64.wrap (i : Int) = (i : Int) := by rw [IntKind.wrap_u64, Int.emod_eq_of_lt (by omega) (by omega)]
    have w2 : IntKind.u64.wrap (k : Int) = (k : Int) := by rw [IntKind.wrap_u64, Int.emod_eq_of_lt (by omega) (by omega)]
    have w3 : (i : Int) % 18446744073709551616 = (i : Int) := Int.emod_eq_of_lt (by omega) (by omega)
    have w4 : (k : Int) % 18446744073709551616 = (k : Int) := Int.emod_eq_of_lt (by omega) (by omega)
    clear hU hV hp hsz h c0 c1
    go_enter Tryz.func148, Tryz.ntmps148
    go_wp2_with fail
    refine (NB.out _).mono ?_; rintro e y1 ⟨rfl, hb1⟩
    have B1 := Lib.hid hb1
    clear hb1
    go_wp2_with fail
    have D0 : Hid (Below y1.heap.size y1 y1.drew) := ⟨rfl, rfl, rfl, Nat.le_refl _, fun _ _ => rfl⟩
    go_region_held3 (fun _ => True) (trivial)
      (first
        | (go_at_call 118; refine (NB.out _).mono ?_; rintro e y ⟨rfl, hy⟩; have D0 := Lib.hid (bstep D0.out hy); clear hy)
        | (go_at_call_of 120 (Value.int IntKind.u64 i); refine (M1.out _ (HW.out.below (bstep B1.out D0.out)).et).mono ?_; rintro e y ⟨rfl, hy⟩; have D0 := Lib.hid (bstep D0.out hy); clear hy)
        | (go_at_call_of 120 (Value.int IntKind.u64 k); refine (M2.out _ (HW.out.below (bstep B1.out D0.out)).et).mono ?_; rintro e y ⟨rfl, hy⟩; have D0 := Lib.hid (bstep D0.out hy); clear hy))
    all_goals
      have hc := (HW.out.below (bstep B1.out D0.out)).v1
      go_wp2_with fail
      go_quiet (fail)
      go_wp2_with fail
      go_ret2
      exact ⟨⟨a1, .inr rfl, rfl⟩, bstep (bstep B1.out D0.out) (below_dN _ _)⟩
  · have z2 : (numF b.data.toList != n) = true := by rw [bne_iff_ne]; exact c1
    clear h c0
    obtain ⟨m, hm⟩ : ∃ m, m = numF b.data.toList := ⟨_, rfl⟩
    rw [← hm] at NB NQ z1 z2
    clear hm c1
    go_enter Tryz.func148, Tryz.ntmps148
    go_wp2_with fail
    refine (NB.out _).mono ?_; rintro e y1 ⟨rfl, hb1⟩
    have hc := (HW.out.below hb1).v1
    have B1 := Lib.hid hb1
    clear hb1
    go_wp2_with fail
    go_quiet ((go_at_call 118; exact Calls.quiet_of (NQ.out _)))
    go_wp2_with fail
    go_quiet (fail)
    go_wp2_with fail
    go_ret2
    exact ⟨⟨a1, .inr rfl, rfl⟩, bstep B1.out (by simp only [World.drewN_drewN]; exact below_dN _ _)⟩
set_option maxRecDepth 100000 in
set_option maxHeartbeats 2000000 in
theorem frame_piece_ok (b : ByteArray) (n : Int) (i k : Nat) (hn : n ≠ 0) (hi : i < 65536) (hk : k < 65536) (a0 a1 a2 : Addr) (w : World) (hw : FrW w a0 a1 a2) (h : pieceF n k b.data.toList i = true) :
    Calls Tryz.prog 148 #[.string b, .int .u32 n, .int .i64 i, .int .i64 k] w fun e w' => e = .returned (.tuple #[.string (b.extract 8 252), .nilIface]) ∧ Below w.heap.size w w' := by
  have z0 : ((n : Int) == 0) = false := by rw [beq_eq_false_iff_ne]; exact hn
  have HW := Lib.hid hw
  have NB := Lib.hid (fun W => frame_Num b W)
  clear hw
  unfold pieceF at h
  simp only [Bool.and_eq_true, decide_eq_true_eq] at h
  obtain ⟨c1, hp⟩ := h
  have hsz : b.size = 256 := by
    unfold numF at c1
    split at c1
    · rename_i hh; rw [size_list] at hh; exact hh.1
    · exact absurd c1.symm hn
  rw [c1] at NB
  have z2 : (n != n) = false := by simp
  obtain ⟨U, hU⟩ : ∃ U, U = ofL (beBytes (i : Int) 2) := ⟨_, rfl⟩
  obtain ⟨V, hV⟩ : ∃ V, V = ofL (beBytes (k : Int) 2) := ⟨_, rfl⟩
  have M1 := Lib.hid (fun W h => frame_num2 (i : Int) (by omega) (by omega) W h)
  have M2 := Lib.hid (fun W h => frame_num2 (k : Int) (by omega) (by omega) W h)
  rw [← hU] at M1
  rw [← hV] at M2
  have s1 : ¬ 9223372036854775807 < U.size + V.size := by rw [hU, hV, ofL_size, ofL_size, beBytes_length, beBytes_length]; omega
  have hq : ((b.extract 4 8).toList == (U ++ V).toList) = true := by
    rw [Lib.toList_data, Lib.toList_data, extract_list, list_append, hU, hV, ofL_list, ofL_list, beq_iff_eq]; exact hp
  have l1 : (4 : Int) ≤ (b.size : Int) := by omega
  have l2 : (8 : Int) ≤ (b.size : Int) := by omega
  have l3 : (252 : Int) ≤ (b.size : Int) := by omega
  have w1 : IntKind.u64.wrap (i : Int) = (i : Int) := by rw [IntKind.wrap_u64, Int.emod_eq_of_lt (by omega) (by omega)]
  have w2 : IntKind.u64.wrap (k : Int) = (k : Int) := by rw [IntKind.wrap_u64, Int.emod_eq_of_lt (by omega) (by omega)]
  have w3 : (i : Int) % 18446744073709551616 = (i : Int) := Int.emod_eq_of_lt (by omega) (by omega)
  have w4 : (k : Int) % 18446744073709551616 = (k : Int) := Int.emod_eq_of_lt (by omega) (by omega)
  clear hU hV hp hsz c1
  go_enter Tryz.func148, Tryz.ntmps148
  go_wp2_with fail
  refine (NB.out _).mono ?_; rintro e y1 ⟨rfl, hb1⟩
  have B1 := Lib.hid hb1
  clear hb1
  go_wp2_with fail
  have D0 : Hid (Below y1.heap.size y1 y1.drew) := ⟨rfl, rfl, rfl, Nat.le_refl _, fun _ _ => rfl⟩
  go_region_held3 (fun _ => True) (trivial)
    (first
      | (go_at_call 118; refine (NB.out _).mono ?_; rintro e y ⟨rfl, hy⟩; have D0 := Lib.hid (bstep D0.out hy); clear hy)
      | (go_at_call_of 120 (Value.int IntKind.u64 i); refine (M1.out _ (HW.out.below (bstep B1.out D0.out)).et).mono ?_; rintro e y ⟨rfl, hy⟩; have D0 := Lib.hid (bstep D0.out hy); clear hy)
      | (go_at_call_of 120 (Value.int IntKind.u64 k); refine (M2.out _ (HW.out.below (bstep B1.out D0.out)).et).mono ?_; rintro e y ⟨rfl, hy⟩; have D0 := Lib.hid (bstep D0.out hy); clear hy))
  all_goals
    go_wp2_with fail
    go_ret2
    exact ⟨rfl, bstep B1.out D0.out⟩
end Go.Proofs.YtdbiebnnogjccaaGreatDoor

/- The laid variables of frames and disks together. -/
namespace Go.Proofs.YtdbiebnnogjccaaGreatDoor
open Go.RowKit
/-- The laid variables of both packages. -/
structure HwW (w : World) (a0 a1 a2 aD aA : Addr) : Prop where
  f : FrW w a0 a1 a2
  d : DkW w aD aA
theorem HwW.below {w w' : World} {a0 a1 a2 aD aA : Addr} (h : HwW w a0 a1 a2 aD aA) (hb : Below w.heap.size w w') : HwW w' a0 a1 a2 aD aA := ⟨h.f.below hb, h.d.below hb⟩
end Go.Proofs.YtdbiebnnogjccaaGreatDoor

/- Pages (layer 22): the laid variables; told, asked. -/
namespace Go.Proofs.YtdbiebnnogjccaaGreatDoor
open Go.RowKit
/-- What a world holds for the pager's errors. -/
structure PgE (w : World) (pA pF pL pD : Addr) : Prop where
  vA : w.cell? ⟨10, 0, none⟩ = some (.iface 308 (.pointer (some pA)))
  vF : w.cell? ⟨12, 0, none⟩ = some (.iface 308 (.pointer (some pF)))
  vL : w.cell? ⟨11, 0, none⟩ = some (.iface 308 (.pointer (some pL)))
  vD : w.cell? ⟨9, 0, none⟩ = some (.iface 308 (.pointer (some pD)))
  bA : ∃ c t, w.heap[pA.block]? = some (.cells c t (0, 0))
  bF : ∃ c t, w.heap[pF.block]? = some (.cells c t (0, 0))
  bL : ∃ c t, w.heap[pL.block]? = some (.cells c t (0, 0))
  bD : ∃ c t, w.heap[pD.block]? = some (.cells c t (0, 0))
  nAD : pA ≠ pD
  nLD : pL ≠ pD
  nFD : pF ≠ pD
  nLA : pL ≠ pA
  nFA : pF ≠ pA
  nFL : pF ≠ pL
theorem PgE.below {w w' : World} {pA pF pL pD : Addr} (h : PgE w pA pF pL pD) (hb : Below w.heap.size w w') : PgE w' pA pF pL pD :=
  ⟨dk_cell h.vA hb, dk_cell h.vF hb, dk_cell h.vL hb, dk_cell h.vD hb, dk_blk h.bA hb, dk_blk h.bF hb, dk_blk h.bL hb, dk_blk h.bD hb, h.nAD, h.nLD, h.nFD, h.nLA, h.nFA, h.nFL⟩
/-- What a world holds for pages: the laid variables of all layers below, too. -/
def PgW (w : World) : Prop := ∃ a0 a1 a2 aD aA pA pF pL pD, HwW w a0 a1 a2 aD aA ∧ PgE w pA pF pL pD
theorem PgW.below {w w' : World} (h : PgW w) (hb : Below w.heap.size w w') : PgW w' := by
  obtain ⟨a0, a1, a2, aD, aA, pA, pF, pL, pD, h, k⟩ := h; exact ⟨a0, a1, a2, aD, aA, pA, pF, pL, pD, h.below hb, k.below hb⟩
/-- The sentinel behind a number: 1 no such page, 2 too long, else no record. -/
def whyG (pA pF pL : Addr) (c : Int) : Addr := if c = 1 then pA else if c = 2 then pL else pF
set_option maxRecDepth 20000 in
set_option maxHeartbeats 2000000 in
theorem pager_told_ok (w : World) (hw : PgW w) : Calls Tryz.prog 101 #[.nilIface] w fun e w' => e = .returned (.int .i64 0) ∧ Below w.heap.size w w' := by
  obtain ⟨a0, a1, a2, aD, aA, pA, pF, pL, pD, _, hw⟩ := hw
  have vA := dk_cell hw.vA (below_alloc1 w (.cells #[.pointer none] 197))
  have vF := dk_cell hw.vF (below_alloc1 w (.cells #[.pointer none] 197))
  have vL := dk_cell hw.vL (below_alloc1 w (.cells #[.pointer none] 197))
  have vD := dk_cell hw.vD (below_alloc1 w (.cells #[.pointer none] 197))
  clear hw
  go_enter Tryz.func101, Tryz.ntmps101
  go_wp2_with fail
  refine (is_nil _ _).mono ?_; rintro e w1 ⟨rfl, rfl⟩
  go_wp2_with fail
  refine (is_nil _ _).mono ?_; rintro e w1 ⟨rfl, rfl⟩
  go_wp2_with fail
  refine (is_nil _ _).mono ?_; rintro e w1 ⟨rfl, rfl⟩
  go_wp2_with fail
  refine (is_nil _ _).mono ?_; rintro e w1 ⟨rfl, rfl⟩
  go_wp2_with fail
  go_ret
  exact ⟨rfl, below_alloc1 _ _⟩
set_option maxRecDepth 20000 in
set_option maxHeartbeats 4000000 in
theorem pager_told_why (c : Int) (hc : c = 1 ∨ c = 2 ∨ c = 11) (w : World) (pA pF pL pD : Addr) (hw : PgE w pA pF pL pD) : Calls Tryz.prog 101 #[.iface 308 (.pointer (some (whyG pA pF pL c)))] w fun e w' => e = .returned (.int .i64 c) ∧ Below w.heap.size w w' := by
  have hb := below_alloc1 w (.cells #[.pointer none] 197)
  have hw1 := hw.below hb
  obtain ⟨cA, tA, bA⟩ := hw1.bA; obtain ⟨cF, tF, bF⟩ := hw1.bF; obtain ⟨cL, tL, bL⟩ := hw1.bL; obtain ⟨cD, tD, bD⟩ := hw1.bD
  have AD := Lib.hid (is_other pA pD cA cD tA tD _ hw.nAD bA bD); have LD := Lib.hid (is_other pL pD cL cD tL tD _ hw.nLD bL bD); have FD := Lib.hid (is_other pF pD cF cD tF tD _ hw.nFD bF bD)
  have LA := Lib.hid (is_other pL pA cL cA tL tA _ hw.nLA bL bA); have FA := Lib.hid (is_other pF pA cF cA tF tA _ hw.nFA bF bA); have FL := Lib.hid (is_other pF pL cF cL tF tL _ hw.nFL bF bL)
  have vA := hw1.vA; have vF := hw1.vF; have vL := hw1.vL; have vD := hw1.vD
  clear hw hw1 hb bA bF bL bD
  rcases hc with rfl | rfl | rfl
  · show Calls _ _ #[.iface _ (.pointer (some pA))] _ _
    go_enter Tryz.func101, Tryz.ntmps101
    go_wp2_with fail
    refine AD.out.mono ?_; rintro e w1 ⟨rfl, rfl⟩
    go_wp2_with fail
    refine (is_same _ _).mono ?_; rintro e w1 ⟨rfl, rfl⟩
    go_wp2_with fail
    go_ret
    exact ⟨rfl, below_alloc1 _ _⟩
  · show Calls _ _ #[.iface _ (.pointer (some pL))] _ _
    go_enter Tryz.func101, Tryz.ntmps101
    go_wp2_with fail
    refine LD.out.mono ?_; rintro e w1 ⟨rfl, rfl⟩
    go_wp2_with fail
    refine LA.out.mono ?_; rintro e w1 ⟨rfl, rfl⟩
    go_wp2_with fail
    refine (is_same _ _).mono ?_; rintro e w1 ⟨rfl, rfl⟩
    go_wp2_with fail
    go_ret
    exact ⟨rfl, below_alloc1 _ _⟩
  · show Calls _ _ #[.iface _ (.pointer (some pF))] _ _
    go_enter Tryz.func101, Tryz.ntmps101
    go_wp2_with fail
    refine FD.out.mono ?_; rintro e w1 ⟨rfl, rfl⟩
    go_wp2_with fail
    refine FA.out.mono ?_; rintro e w1 ⟨rfl, rfl⟩
    go_wp2_with fail
    refine FL.out.mono ?_; rintro e w1 ⟨rfl, rfl⟩
    go_wp2_with fail
    refine (is_same _ _).mono ?_; rintro e w1 ⟨rfl, rfl⟩
    go_wp2_with fail
    go_ret
    exact ⟨rfl, below_alloc1 _ _⟩
/-- What an error says: none, one of the sentinels, or the disk's number. -/
def ErrG (w : World) (c : Int) (v : Value) : Prop :=
  (c = 0 ∧ v = .nilIface) ∨ (∃ pA pF pL pD, PgE w pA pF pL pD ∧ (c = 1 ∨ c = 2 ∨ c = 11) ∧ v = .iface 308 (.pointer (some (whyG pA pF pL c)))) ∨
    ∃ p pA pF pL pD, PgE w pA pF pL pD ∧ v = .iface 197 (.pointer (some ⟨p, 0, none⟩)) ∧ w.heap[p]? = some (.cells #[.int .i64 c, .iface 308 (.pointer (some pD))] 201 (0, 0))
theorem ErrG.below {w w' : World} {c : Int} {v : Value} (h : ErrG w c v) (hb : Below w.heap.size w w') : ErrG w' c v := by
  rcases h with h | ⟨pA, pF, pL, pD, h, k⟩ | ⟨p, pA, pF, pL, pD, h, e, k⟩
  · exact .inl h
  · exact .inr (.inl ⟨pA, pF, pL, pD, h.below hb, k⟩)
  · exact .inr (.inr ⟨p, pA, pF, pL, pD, h.below hb, e, blk_below k hb⟩)
end Go.Proofs.YtdbiebnnogjccaaGreatDoor
