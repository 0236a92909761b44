/- Disks (layer 19): Crash, walked. -/
import Derived.Test.YtdbiebnnogjccaaGreatDoorDk
namespace Go.Proofs.YtdbiebnnogjccaaGreatDoor
open Go.RowKit Go.Maps Go.ChangeMaps Go.MapKept
theorem run_clear_any {w : World} {b n : Nat} {f : Int → Option ByteArray} (h : MapS w b n f) :
    ∃ w', (∀ ty, (Builtin.clear_ #[107] ty #[.map (some b)]).run Tryz.prog w = .ok (.tuple #[]) w') ∧ MapS w' b 4096 (fun _ => none) ∧ w.grownBy w' (some b) := by
  obtain ⟨D, ⟨es, clock, hb, F, _, _⟩, _⟩ := h
  refine ⟨setBlock w b (.map #[] clock), fun ty => ?_, MapS.mono (n := 0) ⟨.map [], ⟨#[], clock, heap_setBlock_same hb _, ⟨by simp, MapKept.stamped_empty clock, by simp⟩, Nat.le_refl _, rfl⟩, fun i _ => ⟨rfl, fun s h => by cases h⟩⟩ (by omega), ⟨rfl, rfl, rfl, by simp [setBlock], fun i _ hi => heap_setBlock_other hb _ (fun e => hi (by rw [e]))⟩⟩
  simp [Builtin.clear_, run_underlying Tryz.underlying107, MapKept.run_getObj_map hb, MapKept.run_setObj_map _ hb, Result.andThen, setBlock]
theorem grown_cell {w w' : World} {r b o : Nat} (hg : w.grownBy w' (some r)) (hb : b < w.heap.size) (hne : b ≠ r) : w'.cell? ⟨b, o, none⟩ = w.cell? ⟨b, o, none⟩ :=
  World.cell?_of_block (w := w) (hg.block b hb (fun e => hne (by injection e)))
theorem s9_of {y w9 : World} {g mb q q' : Nat} {A : Array Value} {u v : Option Value} (hG : y.grownBy w9 (some mb)) (h : (∀ o, y.cell? ⟨g, o, none⟩ = A[o]?) ∧ y.cell? ⟨q, 0, none⟩ = u ∧ y.cell? ⟨q', 0, none⟩ = v) (g1 : g < y.heap.size) (g2 : g ≠ mb) (g3 : q < y.heap.size) (g4 : q ≠ mb) (g5 : q' < y.heap.size) (g6 : q' ≠ mb) :
    (∀ o, w9.cell? ⟨g, o, none⟩ = A[o]?) ∧ w9.cell? ⟨q, 0, none⟩ = u ∧ w9.cell? ⟨q', 0, none⟩ = v :=
  ⟨fun o => (grown_cell hG g1 g2).trans (h.1 o), (grown_cell hG g3 g4).trans h.2.1, (grown_cell hG g5 g6).trans h.2.2⟩
theorem SlKept.at {w : World} {v : Value} {l : List (Int × Int)} (h : SlKept w v l) {k : Nat} (hk : k < l.length) : ∃ b off cap, v = .slice (some ⟨b, off, none⟩) l.length cap ∧ KeptAt w b off l := by
  rcases h with ⟨e, _⟩ | ⟨b, off, cap, e, _, h⟩
  · subst e; exact absurd hk (by simp)
  · exact ⟨b, off, cap, e, h⟩
theorem DiskAt.fr {S : Nat → Prop} {w w' : World} {g mb cb k : Nat} {kv : Value} {d : Dk} (h : DiskAt w g mb cb k kv d) (hf : Fr S w w') (hg : ¬ S g) (hm : ¬ S mb) (hc : ¬ S cb) (hk : ∀ b off n c, kv = .slice (some ⟨b, off, none⟩) n c → ¬ S b) : DiskAt w' g mb cb k kv d :=
  ⟨blk_fr h.blk hf hg, h.hm.fr hf hm, h.hc.fr hf hc, h.hk.fr hf hk, h.n0, h.n1, h.gm, h.gc, h.mc, h.kn⟩
set_option maxRecDepth 100000 in
set_option maxHeartbeats 4000000 in
theorem disk_Crash (kvv : Value) (l : List (Int × Int)) (hl : l.length ≤ 65536) (g mb cb : Nat) (kv : Value) (d : Dk) (w : World) (hd : DiskAt w g mb cb 4096 kv d) (ok : d.Ok0) (hk : SlKept w kvv l) (hkn : ∀ b off n c, kvv = .slice (some ⟨b, off, none⟩) n c → ¬ DkS g mb cb b) :
    Calls Tryz.prog 17 #[.pointer (some ⟨g, 0, none⟩), kvv] w fun e w' => e = .returned (.tuple #[]) ∧ DiskAt w' g mb cb 4096 kv (d.crash l) ∧ Fr (DkS g mb cb) w w' := by
  have HD := Lib.hid hd
  have HK := Lib.hid hk; have HKN := Lib.hid hkn; have OK := Lib.hid ok
  have hc := blk_cell hd.blk
  unfold dkCells at hc
  clear hd hk hkn ok
  cases hdead : d.dead with
  | true =>
    rw [hdead] at hc
    have e : d.crash l = d := by unfold Dk.crash; rw [if_pos hdead]
    rw [e]; clear e hdead
    go_enter Tryz.func17, Tryz.ntmps17
    go_wp2_with fail
    refine bodyPost_ret (v := .tuple #[]) (by simp [results, Tryz.results17, go_sem]) rfl ?_
    exact ⟨rfl, HD.out, Fr.refl _ _⟩
  | false =>
    rw [hdead] at hc
    have Hdead := Lib.hid hdead
    clear hdead
    have IX := Lib.hid (fun i q W h1 h2 => idx_kept i q kvv l (by omega) W h1 h2)
    go_enter Tryz.func17, Tryz.ntmps17
    go_wp2_with (at_range; refine wpList_range_sec _ rfl _ rfl cb 4096 d.c rfl HD.out.hc ?_; intro w0 cnt0 hr0 hg0 hs0)
    go_frame
    have HR0 := Lib.hid hr0; have HG0 := Lib.hid hg0
    clear hr0 hg0 hs0 hc
    go_loopw [21] (fun _ wr => ∃ left cnt, RangS wr cb w.heap.size 4096 d.c left cnt ∧ (∀ i, left i = true → (d.c i).isSome = true) ∧ MapS wr mb 4096 (fallM d l left) ∧ Fr (fun q => q = mb) w wr) (fun _ wr => wr.rangeLeft cb w.heap.size)
    case atStart => exact ⟨_, cnt0, HR0.out, fun _ h => h, by rw [fallM_start]; exact HD.out.hm.kept HG0.out (by simp), (Fr.refl _ _).grown HG0.out (by simp)⟩
    case round =>
      obtain ⟨left, cnt, hrg, hlc, hm, hf⟩ := hrel
      have HR := Lib.hid hrg; have HLC := Lib.hid hlc; have HM := Lib.hid hm; have HF := Lib.hid hf
      clear hrg hlc hm hf
      have D1 := Lib.hid (HD.out.moved (HF.out.mono (fun _ h => .inl h)) HM.out HR.out.owns)
      go_wp2_with (at_next; refine wpList_next_sec _ rfl _ rfl cb w.heap.size 4096 d.c left cnt rfl HR.out ?_ ?_)
      · intro hnone
        have HN := Lib.hid hnone
        clear hnone
        have hc1 := blk_cell D1.out.blk
        unfold dkCells at hc1
        obtain ⟨w2, hcl, hm2, hg2⟩ := run_clear_any D1.out.hc
        have D2 := Lib.hid (D1.out.moved ((Fr.refl _ _).grown hg2 (fun k e => by injection e with e; exact .inl (.inr e.symm))) (D1.out.hm.kept hg2 (fun e => D1.out.mc (by injection e))) hm2)
        have F2 : Hid (Fr (DkS g mb cb) w w2) := (HF.out.mono (fun _ h => .inr (.inl h))).grown hg2 (fun k e => by injection e with e; exact .inl (.inr (.inr e.symm)))
        clear hm2 hg2
        have h1 := Lib.hid (D2.out.set (d' := { d with m := fallM d l left, c := fun _ => none, dead := true }) 6 (.bool true) (by simp [dkCells]) rfl rfl rfl rfl)
        have h2 := Lib.hid (h1.out.set (d' := { d with m := fallM d l left, c := fun _ => none, dead := true, armed := false }) 3 (.bool false) (by simp [dkCells]) rfl rfl rfl rfl)
        have hcA := blk_cell D2.out.blk
        have hfA := blk_frozen D2.out.blk
        have hcB := blk_cell h1.out.blk
        have hfB := blk_frozen h1.out.blk
        unfold dkCells at hcA hcB
        go_wp2_with fail
        refine bodyPost_end (v := .tuple #[]) (by simp [results, Tryz.results17, go_sem]) rfl ?_
        refine ⟨rfl, ?_, (F2.out.trans (fr_set (.inl rfl) _ _)).trans (fr_set (.inl rfl) _ _)⟩
        have e : fallM d l left = d.fallen l := by
          funext i
          cases hl : left i with
          | false => exact fallM_end hl
          | true =>
            have h3 := OK.out.kc i (HLC.out i hl)
            have h4 := HN.out i (wf64_of (by omega) (by have := OK.out.n1; omega))
            rw [h4] at hl; cases hl
        have e2 : d.crash l = { d with m := fallM d l left, c := fun _ => none, dead := true, armed := false } := by
          unfold Dk.crash; rw [if_neg (by rw [Hdead.out]; decide), e]
        rw [e2]
        exact h2.out
      · intro i s w1 cnt1 hi hli hfi hrg1 hlt hg1 hs1 hen
        have Hi := Lib.hid hi; have HLI := Lib.hid hli; have HFI := Lib.hid hfi; have HR1 := Lib.hid hrg1; have HLT := Lib.hid hlt; have HG1 := Lib.hid hg1
        clear hi hli hfi hrg1 hlt hg1 hs1
        have hlc1 : Hid (∀ j, (left j && !(j == i)) = true → (d.c j).isSome = true) := fun j hj => HLC.out j (by simp at hj; exact hj.1)
        have F1 : Hid (Fr (fun q => q = mb) w w1) := HF.out.grown HG1.out (fun k e => by injection e with e; exact .inr (by omega))
        have K1 := Lib.hid (HK.out.fr F1.out (fun b off n c e h => HKN.out b off n c e (.inr (.inl h))))
        have M1 : Hid (MapS w1 mb 4096 (fallM d l left)) := HM.out.kept HG1.out (fun e => by have := HD.out.hm.lt; injection e with e; omega)
        obtain ⟨W, hW⟩ : ∃ W, W = (w1.alloc (.cells #[.int .i64 i] 3)).alloc (.cells #[.string s] 128) := ⟨_, rfl⟩
        have BW : Hid (Below w1.heap.size w1 W) := by show Below _ _ _; rw [hW]; exact below_a2 _ _ _
        have q0 : Hid (W.heap[w1.heap.size]? = some (.cells #[.int .i64 i] 3 (0, 0))) := by show _ = _; rw [hW]; exact blk_alloc (blk_new _ _)
        have q1 : Hid (W.heap[w1.heap.size + 1]? = some (.cells #[.string s] 128 (0, 0))) := by
          show _ = _
          have := blk_new (w1.alloc (.cells #[.int .i64 i] 3)) (.cells #[.string s] 128)
          rw [hW]; simpa using this
        go_wp2_with fail
        rw [← hW]
        clear hW
        refine (IX.out i _ W (K1.out.below BW.out) (by rw [blk_cell q0.out]; rfl)).mono ?_; rintro e w3 ⟨rfl, hb3⟩
        have B3 := Lib.hid (bstep BW.out hb3)
        have q03 := Lib.hid (blk_below q0.out hb3)
        have q13 := Lib.hid (blk_below q1.out hb3)
        clear hb3
        have F3 : Hid (Fr (fun q => q = mb) w w3) := F1.out.trans (Fr.of_below B3.out)
        have M3 := Lib.hid (M1.out.below B3.out)
        have R3 := Lib.hid (HR1.out.below B3.out)
        have D3 := Lib.hid (HD.out.moved (F3.out.mono (fun _ h => .inl h)) M3.out R3.out.owns)
        have K3 := Lib.hid (K1.out.below B3.out)
        have hc0 := blk_cell q03.out
        rcases firstI_kept l i with ⟨h1, h2⟩ | ⟨k, hk, h1, h2⟩
        · rw [h1]
          have H2 := Lib.hid h2
          clear h1 h2
          go_wp2_with fail
          go_roundw
          case rel => exact ⟨_, cnt1, R3.out, hlc1.out, by rw [fallM_skip HFI.out H2.out]; exact M3.out, F3.out⟩
          case measure => rw [R3.out.left_eq, HR.out.left_eq]; exact HLT.out
        · rw [h1]
          obtain ⟨nn, hnn⟩ : ∃ nn : Nat, (nn : Int) = min (max l[k].2 0) 256 := ⟨(min (max l[k].2 0) 256).toNat, by omega⟩
          have H2 : Hid (keptN l i = some nn) := by show _ = _; rw [h2, ← hnn]; rfl
          have hn256 : nn ≤ 256 := keptN_le H2.out
          clear h1 h2
          obtain ⟨b, off, cap, rfl, hS⟩ := K3.out.at hk
          have ck := hS.byt k hk
          have hki : (k : Int) < (l.length : Int) := by omega
          obtain ⟨x, hx⟩ : ∃ x, x = l[k].2 := ⟨_, rfl⟩
          rw [← hx] at ck hnn
          have Hnn := Lib.hid hnn
          clear hS hx hnn
          go_upto_region 7 with (fail)
          rw [← Hnn.out]
          have hc3 := blk_cell D3.out.blk
          unfold dkCells at hc3
          have hc03 : w3.cell? ⟨w1.heap.size, 0, none⟩ = some (.int .i64 i) := by rw [blk_cell q03.out]; rfl
          have hc13 : w3.cell? ⟨w1.heap.size + 1, 0, none⟩ = some (.string s) := by rw [blk_cell q13.out]; rfl
          have hs : s.size = 256 := OK.out.sc i s HFI.out
          have ht : (d.at i).size = 256 := OK.out.at_size i
          obtain ⟨T, hT⟩ : ∃ T, T = d.at i := ⟨_, rfl⟩
          have AT : Hid (∀ (W : World), Below w3.heap.size w3 W → Calls Tryz.prog 79 #[.pointer (some ⟨g, 0, none⟩), .int .i64 i] W fun e w' => e = .returned (.string T) ∧ Below W.heap.size W w') := fun W h => by
            have := disk_at i Hi.out g mb cb 4096 kv _ W (D3.out.below h)
            rw [fallM_at HLI.out, ← hT] at this
            exact this
          have PT : Hid (setF (fallM d l left) i (s.extract 0 nn ++ T.extract nn 256) = fallM d l (fun j => left j && !(j == i))) := by show _ = _; rw [hT]; exact fallM_put HFI.out H2.out
          rw [← hT] at ht
          clear hT
          have sl1 : ∀ wx, (Instr.slice 9 (.string s) none (some (.int .i64 (nn : Int))) none).run Tryz.prog wx = .ok (.string (s.extract 0 nn)) wx := fun wx => by
            rw [run_slice_string_h (P := Tryz.prog) wx 9 s Tryz.underlying9 .i64 (nn : Int) (by omega) (by omega)]; rfl
          have sl2 : ∀ wx, (Instr.slice 9 (.string T) (some (.int .i64 (nn : Int))) none none).run Tryz.prog wx = .ok (.string (T.extract nn 256)) wx := fun wx => by
            rw [run_slice_string_l (P := Tryz.prog) wx 9 T Tryz.underlying9 .i64 (nn : Int) (by omega) (by omega), ht]; rfl
          have hz : ¬ 9223372036854775807 < (s.extract 0 nn).size + (T.extract nn 256).size := by rw [ByteArray.size_extract, ByteArray.size_extract]; omega
          obtain ⟨X, hX⟩ : ∃ X, X = s.extract 0 nn := ⟨_, rfl⟩
          obtain ⟨Y, hY⟩ : ∃ Y, Y = T.extract nn 256 := ⟨_, rfl⟩
          rw [← hX] at sl1 hz PT
          rw [← hY] at sl2 hz PT
          clear hX hY hs ht ck hki
          have D0 : Hid (Below w3.heap.size w3 w3.drew) := ⟨rfl, rfl, rfl, Nat.le_refl _, fun _ _ => rfl⟩
          have SOf : Hid (∀ W, Below w3.heap.size w3 W → (∀ o, W.cell? ⟨g, o, none⟩ = (#[.int .i64 d.n, .map (some mb), .map (some cb), .bool d.armed, .int .i64 d.left, kv, .bool d.dead] : Array Value)[o]?) ∧ W.cell? ⟨w1.heap.size, 0, none⟩ = some (.int .i64 i) ∧ W.cell? ⟨w1.heap.size + 1, 0, none⟩ = some (.string s)) :=
            fun W h => ⟨fun o => by have := blk_cell (D3.out.below h).blk o; unfold dkCells at this; exact this, dk_cell hc03 h, dk_cell hc13 h⟩
          have S0 := SOf.out _ D0.out
          clear hc3 hc03 hc13 hc0
          have hmb : mb < w.heap.size := HD.out.hm.lt
          have hw1 : w.heap.size < w1.heap.size := HR1.out.lt
          have hgl : g < w.heap.size := HD.out.lt
          have hgm : g ≠ mb := HD.out.gm
          go_region_held3 (fun w' => (∀ o, w'.cell? ⟨g, o, none⟩ = (#[.int .i64 d.n, .map (some mb), .map (some cb), .bool d.armed, .int .i64 d.left, kv, .bool d.dead] : Array Value)[o]?) ∧ w'.cell? ⟨w1.heap.size, 0, none⟩ = some (.int .i64 i) ∧ w'.cell? ⟨w1.heap.size + 1, 0, none⟩ = some (.string s)) (first | exact S0 | exact S9 | assumption)
            (first
              | (go_at_call 79; refine (AT.out _ D0.out).mono ?_; rintro e y ⟨rfl, hy⟩; have D0 := Lib.hid (bstep D0.out hy); have S0 := SOf.out _ D0.out; obtain ⟨w9, hup, hM9, hG9⟩ := run_put_sec (M3.out.below D0.out) (by unfold maxLen; omega) i Hi.out (X ++ Y); rw [PT.out] at hM9; have M9 := Lib.hid hM9; have G9 := Lib.hid hG9; have S9 := s9_of G9.out S0 (Nat.lt_of_lt_of_le hgl (Nat.le_trans (Nat.le_of_lt hw1) (Nat.le_trans B3.out.size D0.out.size))) hgm (Nat.lt_of_lt_of_le (blk_lt q03.out) D0.out.size) (by omega) (Nat.lt_of_lt_of_le (blk_lt q13.out) D0.out.size) (by omega); clear hy hM9 hG9))
          go_wp2_with fail
          go_roundw
          case rel => exact ⟨_, cnt1, (R3.out.below D0.out).kept G9.out (fun e => HD.out.mc (by injection e with e; exact e.symm)) (fun e => by injection e with e; omega), hlc1.out, M9.out.t4096 OK.out.n1 (fallM_range OK.out l _), (F3.out.trans (Fr.of_below D0.out)).grown G9.out (fun k e => by injection e with e; exact .inl e.symm)⟩
          case measure => rw [((R3.out.below D0.out).kept G9.out (fun e => HD.out.mc (by injection e with e; exact e.symm)) (fun e => by injection e with e; omega)).left_eq, HR.out.left_eq]; exact HLT.out
end Go.Proofs.YtdbiebnnogjccaaGreatDoor
