/- Disks (layer 19): Crash, where an empty list may lie anywhere. -/
import Derived.Test.YtdbiebnnogjccaaGreatDoorDl
import Derived.Test.YtdbiebnnogjccaaGreatDoorWg
import Derived.Test.YtdbiebnnogjccaaGreatDoorDa
namespace Go.Proofs.YtdbiebnnogjccaaGreatDoor
open Go.RowKit
theorem SlKept.frE {S : Nat → Prop} {w w' : World} {v : Value} {l : List (Int × Int)} (h : SlKept w v l) (hf : Fr S w w') (hs : l ≠ [] → ∀ b off n c, v = .slice (some ⟨b, off, none⟩) n c → ¬ S b) : SlKept w' v l := by
  rcases h with h | ⟨b, off, cap, e, hc, h⟩
  · exact .inl h
  · by_cases h0 : l = []
    · subst h0; exact .inl ⟨rfl, _, _, e⟩
    · exact .inr ⟨b, off, cap, e, hc, h.fr hf (hs h0 _ _ _ _ e)⟩
set_option maxRecDepth 100000 in
set_option maxHeartbeats 4000000 in
theorem disk_CrashE (kvv : Value) (l : List (Int × Int)) (hl : l.length ≤ 65536) (g mb cb : Nat) (kv : Value) (d : Dk) (w : World) (hd : DiskAt w g mb cb 4096 kv d) (ok : d.Ok0) (hk : SlKept w kvv l) (hkn : l ≠ [] → ∀ b off n c, kvv = .slice (some ⟨b, off, none⟩) n c → ¬ DkS g mb cb b) :
    Calls Tryz.prog 17 #[.pointer (some ⟨g, 0, none⟩), kvv] w fun e w' => e = .returned (.tuple #[]) ∧ DiskAt w' g mb cb 4096 kv (d.crash l) ∧ Fr (DkS g mb cb) w w' := by
  have HD := Lib.hid hd
  have HK := Lib.hid hk; have HKN := Lib.hid hkn; have OK := Lib.hid ok
  have hc := blk_cell hd.blk
  unfold dkCells at hc
  clear hd hk hkn ok
  cases hdead : d.dead with
  | true =>
    rw [hdead] at hc
    have e : d.crash l = d := by unfold Dk.crash; rw [if_pos hdead]
    rw [e]; clear e hdead
    go_enter Tryz.func17, Tryz.ntmps17
    go_wp2_with fail
    refine bodyPost_ret (v := .tuple #[]) (by simp [results, Tryz.results17, go_sem]) rfl ?_
    exact ⟨rfl, HD.out, Fr.refl _ _⟩
  | false =>
    rw [hdead] at hc
    have Hdead := Lib.hid hdead
    clear hdead
    have IX := Lib.hid (fun i q W h1 h2 => idx_kept i q kvv l (by omega) W h1 h2)
    go_enter Tryz.func17, Tryz.ntmps17
    go_wp2_with (at_range; refine wpList_range_sec _ rfl _ rfl cb 4096 d.c rfl HD.out.hc ?_; intro w0 cnt0 hr0 hg0 hs0)
    go_frame
    have HR0 := Lib.hid hr0; have HG0 := Lib.hid hg0
    clear hr0 hg0 hs0 hc
    go_loopw [21] (fun _ wr => ∃ left cnt, RangS wr cb w.heap.size 4096 d.c left cnt ∧ (∀ i, left i = true → (d.c i).isSome = true) ∧ MapS wr mb 4096 (fallM d l left) ∧ Fr (fun q => q = mb) w wr) (fun _ wr => wr.rangeLeft cb w.heap.size)
    case atStart => exact ⟨_, cnt0, HR0.out, fun _ h => h, by rw [fallM_start]; exact HD.out.hm.kept HG0.out (by simp), (Fr.refl _ _).grown HG0.out (by simp)⟩
    case round =>
      obtain ⟨left, cnt, hrg, hlc, hm, hf⟩ := hrel
      have HR := Lib.hid hrg; have HLC := Lib.hid hlc; have HM := Lib.hid hm; have HF := Lib.hid hf
      clear hrg hlc hm hf
      have D1 := Lib.hid (HD.out.moved (HF.out.mono (fun _ h => .inl h)) HM.out HR.out.owns)
      go_wp2_with (at_next; refine wpList_next_sec _ rfl _ rfl cb w.heap.size 4096 d.c left cnt rfl HR.out ?_ ?_)
      · intro hnone
        have HN := Lib.hid hnone
        clear hnone
        have hc1 := blk_cell D1.out.blk
        unfold dkCells at hc1
        obtain ⟨w2, hcl, hm2, hg2⟩ := run_clear_any D1.out.hc
        have D2 := Lib.hid (D1.out.moved ((Fr.refl _ _).grown hg2 (fun k e => by injection e with e; exact .inl (.inr e.symm))) (D1.out.hm.kept hg2 (fun e => D1.out.mc (by injection e))) hm2)
        have F2 : Hid (Fr (DkS g mb cb) w w2) := (HF.out.mono (fun _ h => .inr (.inl h))).grown hg2 (fun k e => by injection e with e; exact .inl (.inr (.inr e.symm)))
        clear hm2 hg2
        have h1 := Lib.hid (D2.out.set (d' := { d with m := fallM d l left, c := fun _ => none, dead := true }) 6 (.bool true) (by simp [dkCells]) rfl rfl rfl rfl)
        have h2 := Lib.hid (h1.out.set (d' := { d with m := fallM d l left, c := fun _ => none, dead := true, armed := false }) 3 (.bool false) (by simp [dkCells]) rfl rfl rfl rfl)
        have hcA := blk_cell D2.out.blk
        have hfA := blk_frozen D2.out.blk
        have hcB := blk_cell h1.out.blk
        have hfB := blk_frozen h1.out.blk
        unfold dkCells at hcA hcB
        go_wp2_with fail
        refine bodyPost_end (v := .tuple #[]) (by simp [results, Tryz.results17, go_sem]) rfl ?_
        refine ⟨rfl, ?_, (F2.out.trans (fr_set (.inl rfl) _ _)).trans (fr_set (.inl rfl) _ _)⟩
        have e : fallM d l left = d.fallen l := by
          funext i
          cases hl : left i with
          | false => exact fallM_end hl
          | true =>
            have h3 := OK.out.kc i (HLC.out i hl)
            have h4 := HN.out i (wf64_of (by omega) (by have := OK.out.n1; omega))
            rw [h4] at hl; cases hl
        have e2 : d.crash l = { d with m := fallM d l left, c := fun _ => none, dead := true, armed := false } := by
          unfold Dk.crash; rw [if_neg (by rw [Hdead.out]; decide), e]
        rw [e2]
        exact h2.out
      · intro i s w1 cnt1 hi hli hfi hrg1 hlt hg1 hs1 hen
        have Hi := Lib.hid hi; have HLI := Lib.hid hli; have HFI := Lib.hid hfi; have HR1 := Lib.hid hrg1; have HLT := Lib.hid hlt; have HG1 := Lib.hid hg1
        clear hi hli hfi hrg1 hlt hg1 hs1
        have hlc1 : Hid (∀ j, (left j && !(j == i)) = true → (d.c j).isSome = true) := fun j hj => HLC.out j (by simp at hj; exact hj.1)
        have F1 : Hid (Fr (fun q => q = mb) w w1) := HF.out.grown HG1.out (fun k e => by injection e with e; exact .inr (by omega))
        have K1 := Lib.hid (HK.out.frE F1.out (fun h0 b off n c e h => HKN.out h0 b off n c e (.inr (.inl h))))
        have M1 : Hid (MapS w1 mb 4096 (fallM d l left)) := HM.out.kept HG1.out (fun e => by have := HD.out.hm.lt; injection e with e; omega)
        obtain ⟨W, hW⟩ : ∃ W, W = (w1.alloc (.cells #[.int .i64 i] 3)).alloc (.cells #[.string s] 128) := ⟨_, rfl⟩
        have BW : Hid (Below w1.heap.size w1 W) := by show Below _ _ _; rw [hW]; exact below_a2 _ _ _
        have q0 : Hid (W.heap[w1.heap.size]? = some (.cells #[.int .i64 i] 3 (0, 0))) := by show _ = _; rw [hW]; exact blk_alloc (blk_new _ _)
        have q1 : Hid (W.heap[w1.heap.size + 1]? = some (.cells #[.string s] 128 (0, 0))) := by
          show _ = _
          have := blk_new (w1.alloc (.cells #[.int .i64 i] 3)) (.cells #[.string s] 128)
          rw [hW]; simpa using this
        go_wp2_with fail
        rw [← hW]
        clear hW
        refine (IX.out i _ W (K1.out.below BW.out) (by rw [blk_cell q0.out]; rfl)).mono ?_; rintro e w3 ⟨rfl, hb3⟩
        have B3 := Lib.hid (bstep BW.out hb3)
        have q03 := Lib.hid (blk_below q0.out hb3)
        have q13 := Lib.hid (blk_below q1.out hb3)
        clear hb3
        have F3 : Hid (Fr (fun q => q = mb) w w3) := F1.out.trans (Fr.of_below B3.out)
        have M3 := Lib.hid (M1.out.below B3.out)
        have R3 := Lib.hid (HR1.out.below B3.out)
        have D3 := Lib.hid (HD.out.moved (F3.out.mono (fun _ h => .inl h)) M3.out R3.out.owns)
        have K3 := Lib.hid (K1.out.below B3.out)
        have hc0 := blk_cell q03.out
        rcases firstI_kept l i with ⟨h1, h2⟩ | ⟨k, hk, h1, h2⟩
        · rw [h1]
          have H2 := Lib.hid h2
          clear h1 h2
          go_wp2_with fail
          go_roundw
          case rel => exact ⟨_, cnt1, R3.out, hlc1.out, by rw [fallM_skip HFI.out H2.out]; exact M3.out, F3.out⟩
          case measure => rw [R3.out.left_eq, HR.out.left_eq]; exact HLT.out
        · rw [h1]
          obtain ⟨nn, hnn⟩ : ∃ nn : Nat, (nn : Int) = min (max l[k].2 0) 256 := ⟨(min (max l[k].2 0) 256).toNat, by omega⟩
          have H2 : Hid (keptN l i = some nn) := by show _ = _; rw [h2, ← hnn]; rfl
          have hn256 : nn ≤ 256 := keptN_le H2.out
          clear h1 h2
          obtain ⟨b, off, cap, rfl, hS⟩ := K3.out.at hk
          have ck := hS.byt k hk
          have hki : (k : Int) < (l.length : Int) := by omega
          obtain ⟨x, hx⟩ : ∃ x, x = l[k].2 := ⟨_, rfl⟩
          rw [← hx] at ck hnn
          have Hnn := Lib.hid hnn
          clear hS hx hnn
          go_upto_region 7 with (fail)
          rw [← Hnn.out]
          have hc3 := blk_cell D3.out.blk
          unfold dkCells at hc3
          have hc03 : w3.cell? ⟨w1.heap.size, 0, none⟩ = some (.int .i64 i) := by rw [blk_cell q03.out]; rfl
          have hc13 : w3.cell? ⟨w1.heap.size + 1, 0, none⟩ = some (.string s) := by rw [blk_cell q13.out]; rfl
          have hs : s.size = 256 := OK.out.sc i s HFI.out
          have ht : (d.at i).size = 256 := OK.out.at_size i
          obtain ⟨T, hT⟩ : ∃ T, T = d.at i := ⟨_, rfl⟩
          have AT : Hid (∀ (W : World), Below w3.heap.size w3 W → Calls Tryz.prog 79 #[.pointer (some ⟨g, 0, none⟩), .int .i64 i] W fun e w' => e = .returned (.string T) ∧ Below W.heap.size W w') := fun W h => by
            have := disk_at i Hi.out g mb cb 4096 kv _ W (D3.out.below h)
            rw [fallM_at HLI.out, ← hT] at this
            exact this
          have PT : Hid (setF (fallM d l left) i (s.extract 0 nn ++ T.extract nn 256) = fallM d l (fun j => left j && !(j == i))) := by show _ = _; rw [hT]; exact fallM_put HFI.out H2.out
          rw [← hT] at ht
          clear hT
          have sl1 : ∀ wx, (Instr.slice 9 (.string s) none (some (.int .i64 (nn : Int))) none).run Tryz.prog wx = .ok (.string (s.extract 0 nn)) wx := fun wx => by
            rw [run_slice_string_h (P := Tryz.prog) wx 9 s Tryz.underlying9 .i64 (nn : Int) (by omega) (by omega)]; rfl
          have sl2 : ∀ wx, (Instr.slice 9 (.string T) (some (.int .i64 (nn : Int))) none none).run Tryz.prog wx = .ok (.string (T.extract nn 256)) wx := fun wx => by
            rw [run_slice_string_l (P := Tryz.prog) wx 9 T Tryz.underlying9 .i64 (nn : Int) (by omega) (by omega), ht]; rfl
          have hz : ¬ 9223372036854775807 < (s.extract 0 nn).size + (T.extract nn 256).size := by rw [ByteArray.size_extract, ByteArray.size_extract]; omega
          obtain ⟨X, hX⟩ : ∃ X, X = s.extract 0 nn := ⟨_, rfl⟩
          obtain ⟨Y, hY⟩ : ∃ Y, Y = T.extract nn 256 := ⟨_, rfl⟩
          rw [← hX] at sl1 hz PT
          rw [← hY] at sl2 hz PT
          clear hX hY hs ht ck hki
          have D0 : Hid (Below w3.heap.size w3 w3.drew) := ⟨rfl, rfl, rfl, Nat.le_refl _, fun _ _ => rfl⟩
          have SOf : Hid (∀ W, Below w3.heap.size w3 W → (∀ o, W.cell? ⟨g, o, none⟩ = (#[.int .i64 d.n, .map (some mb), .map (some cb), .bool d.armed, .int .i64 d.left, kv, .bool d.dead] : Array Value)[o]?) ∧ W.cell? ⟨w1.heap.size, 0, none⟩ = some (.int .i64 i) ∧ W.cell? ⟨w1.heap.size + 1, 0, none⟩ = some (.string s)) :=
            fun W h => ⟨fun o => by have := blk_cell (D3.out.below h).blk o; unfold dkCells at this; exact this, dk_cell hc03 h, dk_cell hc13 h⟩
          have S0 := SOf.out _ D0.out
          clear hc3 hc03 hc13 hc0
          have hmb : mb < w.heap.size := HD.out.hm.lt
          have hw1 : w.heap.size < w1.heap.size := HR1.out.lt
          have hgl : g < w.heap.size := HD.out.lt
          have hgm : g ≠ mb := HD.out.gm
          go_region_held3 (fun w' => (∀ o, w'.cell? ⟨g, o, none⟩ = (#[.int .i64 d.n, .map (some mb), .map (some cb), .bool d.armed, .int .i64 d.left, kv, .bool d.dead] : Array Value)[o]?) ∧ w'.cell? ⟨w1.heap.size, 0, none⟩ = some (.int .i64 i) ∧ w'.cell? ⟨w1.heap.size + 1, 0, none⟩ = some (.string s)) (first | exact S0 | exact S9 | assumption)
            (first
              | (go_at_call 79; refine (AT.out _ D0.out).mono ?_; rintro e y ⟨rfl, hy⟩; have D0 := Lib.hid (bstep D0.out hy); have S0 := SOf.out _ D0.out; obtain ⟨w9, hup, hM9, hG9⟩ := run_put_sec (M3.out.below D0.out) (by unfold maxLen; omega) i Hi.out (X ++ Y); rw [PT.out] at hM9; have M9 := Lib.hid hM9; have G9 := Lib.hid hG9; have S9 := s9_of G9.out S0 (Nat.lt_of_lt_of_le hgl (Nat.le_trans (Nat.le_of_lt hw1) (Nat.le_trans B3.out.size D0.out.size))) hgm (Nat.lt_of_lt_of_le (blk_lt q03.out) D0.out.size) (by omega) (Nat.lt_of_lt_of_le (blk_lt q13.out) D0.out.size) (by omega); clear hy hM9 hG9))
          go_wp2_with fail
          go_roundw
          case rel => exact ⟨_, cnt1, (R3.out.below D0.out).kept G9.out (fun e => HD.out.mc (by injection e with e; exact e.symm)) (fun e => by injection e with e; omega), hlc1.out, M9.out.t4096 OK.out.n1 (fallM_range OK.out l _), (F3.out.trans (Fr.of_below D0.out)).grown G9.out (fun k e => by injection e with e; exact .inl e.symm)⟩
          case measure => rw [((R3.out.below D0.out).kept G9.out (fun e => HD.out.mc (by injection e with e; exact e.symm)) (fun e => by injection e with e; omega)).left_eq, HR.out.left_eq]; exact HLT.out
end Go.Proofs.YtdbiebnnogjccaaGreatDoor

/- The log (layer 21): wakes. -/
namespace Go.Proofs.YtdbiebnnogjccaaGreatDoor
open Go.RowKit
/-- What an opening hands back, beside its disk. -/
theorem walAt_open {w0 w w' : World} {p g mb cb : Nat} {kv rv : Value} {n : Int} {lg : Nat} {x : Wl} {d : Dk} (hb : Below w0.heap.size w0 w) (hd : DiskAt w g mb cb 4096 kv d) (ok : d.Ok) (hn : d.n = n) (nl : (lg : Int) = (n - 2) / 4) (n32 : 32 ≤ n) (gB : ∀ b, DkS g mb cb b → w0.heap.size ≤ b) (kB : ∀ b off c m, kv = .slice (some ⟨b, off, none⟩) m c → b < w0.heap.size) (hbel : Below w.heap.size w w') (hp : w.heap.size ≤ p) (hl : LogAt w' w.heap.size p g n lg rv x) : WalAt w' w0.heap.size p g mb cb kv rv n lg x d := by
  have hg := hd.lt
  have hm := hd.hm.lt
  have hc := hd.hc.lt
  refine ⟨hl.base hb.size, hd.below hbel, ok, hn, nl, n32, Nat.le_trans hb.size hp, ?_, gB, fun b hb2 => ?_, kB⟩
  · rintro (e | e | e) <;> omega
  · have := (hl.row.lt b hb2).1
    rintro (e | e | e) <;> omega
theorem slStrs_one {w : World} {s : ByteArray} {G : Nat} {t : TypeId} (h : w.heap[G]? = some (.cells #[.string s] t (0, 0))) : SlStrs w (.slice (some ⟨G, 0, none⟩) 1 1) [s] := by
  refine .inr ⟨G, 0, 1, rfl, Nat.le_refl _, ⟨fun _ => blk_lt h, fun i hi => ?_⟩⟩
  have h0 : i = 0 := by simpa using hi
  subst h0
  rw [blk_cell h]; rfl
set_option maxRecDepth 20000 in
set_option maxHeartbeats 8000000 in
theorem wakes21 (a0 a1 a2 aD aA bD bL bF : Addr) (w : World) (hw : WlW w a0 a1 a2 aD aA bD bL bF) :
    Calls Tryz.prog 13 #[] w fun e w' => e = .returned (.bool true) ∧ Below w.heap.size w w' := by
  have HW := Lib.hid hw
  clear hw
  obtain ⟨d1, d3, C0, C1, C3, o1, p1, s1, p2, o2⟩ := wakes21_words
  have n0 : (Dk.new 64).n = 64 := rfl
  have NW := Lib.hid (disk_New 64 (by decide) (by decide) w)
  obtain ⟨g, hg⟩ : ∃ g, g = w.heap.size + 2 := ⟨_, rfl⟩
  obtain ⟨mb, hmb⟩ : ∃ g, g = w.heap.size := ⟨_, rfl⟩
  obtain ⟨cb, hcb⟩ : ∃ g, g = w.heap.size + 1 := ⟨_, rfl⟩
  have gB : Hid (∀ b, DkS g mb cb b → w.heap.size ≤ b) := by rintro b (h | h | h) <;> omega
  have NW' : Hid (Calls Tryz.prog 11 #[.int .i64 64] w fun e w' => e = .returned (.tuple #[.pointer (some ⟨g, 0, none⟩), .int .i64 0]) ∧ DiskAt w' g mb cb 0 (.slice none 0 0) (Dk.new 64) ∧ Below w.heap.size w w') := by rw [hg, hmb, hcb]; exact NW.out
  have O1 := Lib.hid (fun W k1 k2 => wal_Open 5 (by decide) (by decide) g mb cb (.slice none 0 0) (Dk.new 64) 15 (logs_of (n := 64) (lg := 15) rfl (by decide) (by decide) (by decide)).symm a0 a1 a2 aD aA W k1 k2 C0.ok)
  rw [o1] at O1
  unfold OpenP at O1
  dsimp only at O1
  have A1 := Lib.hid (fun p rv W k1 k2 => wal_Append (p := p) (g := g) (mb := mb) (cb := cb) (kv := .slice none 0 0) (rv := rv) (n := 64) (lg := 15) (x := ⟨[], 5, 0, false⟩) (d := Dk.new 64) wsA a0 a1 a2 aD aA bD bL bF w W HW.out k1 k2)
  rw [p1] at A1
  unfold AppP at A1
  dsimp only at A1
  have S1 := Lib.hid (fun p rv W k1 k2 => wal_Sync (B := w.heap.size) (p := p) (g := g) (mb := mb) (cb := cb) (kv := .slice none 0 0) (rv := rv) (n := 64) (lg := 15) (x := ⟨[wsA], 6, 1, false⟩) (d := d1) aD aA W k1 k2)
  rw [s1] at S1
  dsimp only at S1
  have A2 := Lib.hid (fun p rv W k1 k2 => wal_Append (p := p) (g := g) (mb := mb) (cb := cb) (kv := .slice none 0 0) (rv := rv) (n := 64) (lg := 15) (x := ⟨[wsA], 6, 1, false⟩) (d := d1.pour) wsB a0 a1 a2 aD aA bD bL bF w W HW.out k1 k2)
  rw [p2] at A2
  unfold AppP at A2
  dsimp only at A2
  have CK := Lib.hid (fun W h1 h2 h3 => disk_Crash (.slice none 0 0) [] (by decide) g mb cb (.slice none 0 0) d3 W h1 C3.ok.ok0 h2 h3)
  have ST := Lib.hid (fun W h1 => disk_Start g mb cb 4096 (.slice none 0 0) (d3.crash []) W h1)
  have C4 := calm_crashed C3 []
  have n4 : (d3.crash []).start.n = 64 := C4.n
  have O2 := Lib.hid (fun W k1 k2 => wal_Open 5 (by decide) (by decide) g mb cb (.slice none 0 0) (d3.crash []).start 15 (logs_of (n := 64) (lg := 15) C4.n (by decide) (by decide) (by decide)).symm a0 a1 a2 aD aA W k1 k2 C4.ok)
  rw [o2, n4] at O2
  rw [n0] at O1
  unfold OpenP at O2
  dsimp only at O2
  have RC := Lib.hid (fun p rv W k => wal_Records (B := w.heap.size) (p := p) (g := g) (n := 64) (lg := 15) (rv := rv) (x := ⟨[wsA], 6, 1, false⟩) W k)
  have NX := Lib.hid (fun p rv W k => wal_Next (B := w.heap.size) (p := p) (g := g) (n := 64) (lg := 15) (rv := rv) (x := ⟨[wsA], 6, 1, false⟩) W k)
  have LF := Lib.hid (fun p rv W k => wal_Left (B := w.heap.size) (p := p) (g := g) (n := 64) (lg := 15) (rv := rv) (x := ⟨[wsA], 6, 1, false⟩) W k)
  dsimp only at RC NX LF
  have TX := Lib.hid (fun v u W k1 k2 => keep_Texts v u [wsA] [wsA] (by decide) W k1 k2)
  have dt : decide ([wsA] = [wsA]) = true := decide_eq_true rfl
  rw [dt] at TX
  obtain ⟨D0, hD0⟩ : ∃ d, d = Dk.new 64 := ⟨_, rfl⟩
  obtain ⟨D2, hD2⟩ : ∃ d, d = d1.pour := ⟨_, rfl⟩
  obtain ⟨D4, hD4⟩ : ∃ d, d = d3.crash [] := ⟨_, rfl⟩
  obtain ⟨D5, hD5⟩ : ∃ d, d = D4.start := ⟨_, rfl⟩
  have OK0 : Hid (D0.Ok ∧ D0.n = 64) := by rw [hD0]; exact ⟨C0.ok, rfl⟩
  have OK5 : Hid (D5.Ok ∧ D5.n = 64) := by rw [hD5, hD4]; exact ⟨C4.ok, C4.n⟩
  rw [← hD0] at NW' O1 A1
  rw [← hD2] at S1 A2
  rw [← hD4] at CK ST O2
  rw [← hD5] at ST O2
  unfold wsA at A1 A2 S1 RC NX LF O2 TX
  unfold wsB at A2
  clear C0 C1 C3 C4 o1 p1 s1 p2 o2 n0 n4 hg hmb hcb hD0 hD2 hD4 hD5 NW dt
  go_enter Tryz.func13, Tryz.ntmps13
  go_wp2_with fail
  refine NW'.out.mono ?_; rintro e w1 ⟨rfl, hd, hb1⟩
  have H1 : Hid (DiskAt w1 g mb cb 4096 (.slice none 0 0) D0) := ⟨hd.blk, hd.hm.mono (by omega), hd.hc.mono (by omega), hd.hk, hd.n0, hd.n1, hd.gm, hd.gc, hd.mc, hd.kn⟩
  have B1 := Lib.hid hb1
  clear hd hb1 NW'
  go_wp2_with fail
  refine (O1.out _ (HW.out.below B1.out).h H1.out).mono ?_; rintro e w2 ⟨hb, p, rv, rfl, hp, hl⟩
  have W2 := Lib.hid (walAt_open B1.out H1.out OK0.out.1 OK0.out.2 (by decide) (by decide) gB.out (fun b off c m e => by cases e) hb hp hl)
  have B2 := Lib.hid (bstep B1.out hb)
  clear hb hp hl H1
  go_wp2_with fail
  refine (A1.out p rv _ B2.out W2.out).mono ?_; rintro e w3 ⟨rv3, rfl, hw3, hf, _⟩
  have W3 := Lib.hid hw3
  have B3 := Lib.hid (W2.out.bel B2.out rfl hf)
  clear hw3 hf W2
  go_wp2_with fail
  refine (S1.out p rv3 _ (HW.out.below B3.out).h.d W3.out).mono ?_; rintro e w4 ⟨rfl, hw4, hf⟩
  have W4 := Lib.hid hw4
  have B4 := Lib.hid (W3.out.bel B3.out rfl hf)
  clear hw4 hf W3
  go_wp2_with fail
  refine (A2.out p rv3 _ B4.out W4.out).mono ?_; rintro e w5 ⟨rv5, rfl, hw5, hf, _⟩
  have W5 := Lib.hid hw5
  have B5 := Lib.hid (W4.out.bel B4.out rfl hf)
  clear hw5 hf W4
  go_wp2_with fail
  refine (CK.out _ W5.out.dsk (.inl ⟨rfl, _, _, rfl⟩) (fun b off n c e => by cases e)).mono ?_; rintro e w6 ⟨rfl, hd, hf⟩
  have H6 := Lib.hid hd
  have B6 := Lib.hid (frb B5.out hf (gB.out _ (.inl rfl)) (gB.out _ (.inr (.inl rfl))) (gB.out _ (.inr (.inr rfl))))
  clear hd hf W5
  go_wp2_with fail
  refine (ST.out _ H6.out).mono ?_; rintro e w7 ⟨rfl, hd, hf⟩
  have H7 := Lib.hid hd
  have B7 := Lib.hid (frb B6.out (hf.mono (T := DkS g mb cb) (fun _ h => .inl h)) (gB.out _ (.inl rfl)) (gB.out _ (.inr (.inl rfl))) (gB.out _ (.inr (.inr rfl))))
  clear hd hf H6
  go_wp2_with fail
  refine (O2.out _ (HW.out.below B7.out).h H7.out).mono ?_; rintro e w8 ⟨hb, p8, rv8, rfl, hp, hl⟩
  have W8 := Lib.hid (walAt_open B7.out H7.out OK5.out.1 OK5.out.2 (by decide) (by decide) gB.out (fun b off c m e => by cases e) hb hp hl)
  have B8 := Lib.hid (bstep B7.out hb)
  clear hb hp hl H7
  go_wp2_with fail
  refine (RC.out p8 rv8 _ W8.out.log).mono ?_; rintro e w9 ⟨v, rfl, hv, hb⟩
  have V9 := Lib.hid hv
  have W9 := Lib.hid (W8.out.below hb)
  have B9 := Lib.hid (bstep B8.out hb)
  clear hb hv W8
  go_wp2_with fail
  refine (TX.out _ _ _ (V9.out.below (below_a1 _ _)) (slStrs_one (blk_new _ _))).mono ?_; rintro e w10 ⟨rfl, hb⟩
  have W10 := Lib.hid ((W9.out.below (below_a1 _ _)).below hb)
  have B10 := Lib.hid (bstep (bstep B9.out (below_a1 _ _)) hb)
  clear hb V9 W9
  go_wp2_with fail
  refine (NX.out p8 rv8 _ W10.out.log).mono ?_; rintro e w11 ⟨rfl, rfl⟩
  go_wp2_with fail
  refine (LF.out p8 rv8 _ W10.out.log).mono ?_; rintro e w12 ⟨rfl, k, rfl⟩
  have B12 := Lib.hid (bstep B10.out (below_dN _ k))
  go_wp2_with fail
  go_ret
  exact ⟨rfl, B12.out⟩
end Go.Proofs.YtdbiebnnogjccaaGreatDoor
