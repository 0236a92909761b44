/- Disks (layer 19): Write, maps.Copy, Flush. -/
import Derived.Test.YtdbiebnnogjccaaGreatDoorDl
import Derived.Test.YtdbiebnnogjccaaGreatDoorCp
import Derived.Deep.RegionHeld3
namespace Go.Proofs.YtdbiebnnogjccaaGreatDoor
open Go.RowKit Go.Maps
theorem DiskAt.put {w w2 : World} {g mb cb : Nat} {kv : Value} {d : Dk} (h : DiskAt w g mb cb 4096 kv d) (ok : d.Ok0) {i : Int} {s : ByteArray} (hi : 0 ≤ i ∧ i < d.n) (hs : s.size = 256) {n : Nat} (hm : MapS w2 cb n (setF d.c i s)) (hg : w.grownBy w2 (some cb)) : DiskAt w2 g mb cb 4096 kv (d.put i s) :=
  h.moved ((Fr.refl _ _).grown hg (fun k e => by injection e with e; exact .inl (.inr e.symm))) (h.hm.kept hg (fun e => h.mc (by injection e))) (hm.t4096 ok.n1 (ok.put hi hs).kc)
set_option maxRecDepth 20000 in
set_option maxHeartbeats 2000000 in
theorem disk_Write (i : Int) (hi : wf64 i) (s : ByteArray) (g mb cb : Nat) (kv : Value) (d : Dk) (aD aA : Addr) (w : World) (hw : DkW w aD aA) (hd : DiskAt w g mb cb 4096 kv d) (ok : d.Ok) :
    Calls Tryz.prog 33 #[.pointer (some ⟨g, 0, none⟩), .int .i64 i, .string s] w fun e w' => e = .returned (.int .i64 (d.write i s).2) ∧ DiskAt w' g mb cb 4096 kv (d.write i s).1 ∧ Fr (DkS g mb cb) w w' := by
  have MY := Lib.hid (disk_may i g mb cb 4096 kv d aD aA w hw hd)
  have HW := Lib.hid hw
  have HD := Lib.hid hd
  have OK := Lib.hid ok
  have Hi := Lib.hid hi
  clear hw hd ok hi
  by_cases h0 : d.may i = 0
  · obtain ⟨hdd, hir⟩ := may_range h0
    have Hdd := Lib.hid hdd
    rw [h0] at MY
    by_cases hs : s.size = 256
    · have hl : ((s.size : Int) != 256) = false := by rw [hs]; rfl
      have Hs := Lib.hid hs
      have CR := Lib.hid (fun W h => disk_crashes g mb cb 4096 kv (d.put i s) W h OK.out.lf)
      have ok1 := Lib.hid (OK.out.put hir hs)
      cases hf : d.falls with
      | true =>
        have e : d.write i s = (((d.put i s).tick).crash d.keep, 74) := by unfold Dk.write; rw [if_neg (by simpa using h0), if_neg (by simpa using hs), if_pos hf]
        rw [e]
        rw [show (d.put i s).falls = true from hf] at CR
        clear e h0 hs hf hdd
        go_enter Tryz.func33, Tryz.ntmps33
        go_wp2_with fail
        refine MY.out.mono ?_; rintro e w1 ⟨hp, hb1⟩
        obtain rfl : e = _ := hp
        have B1 := Lib.hid hb1
        have D1 := Lib.hid (HD.out.below hb1)
        clear hb1
        have hc := blk_cell D1.out.blk
        unfold dkCells at hc
        go_wp2_with (at_mapUpdate; refine wpList_put_sec _ rfl _ _ _ rfl cb 4096 d.c rfl D1.out.hc (by unfold maxLen; omega) i rfl Hi.out s rfl ?_; intro w2 hm2 hg2)
        have D2 := Lib.hid (D1.out.put OK.out.ok0 hir Hs.out hm2 hg2)
        have F2 : Hid (Fr (DkS g mb cb) w w2) := (Fr.of_below B1.out).grown hg2 (fun k e => by injection e with e; exact .inl (.inr (.inr e.symm)))
        clear hc hm2 hg2
        go_wp2_with fail
        refine (CR.out _ D2.out).mono ?_; rintro e w3 ⟨rfl, hd3, hf3⟩
        have D3 := Lib.hid hd3
        have F3 : Hid (Fr (DkS g mb cb) w w3) := F2.out.trans (hf3.mono fun _ h => .inl h)
        clear hd3 hf3
        have hc3 := blk_cell D3.out.blk
        unfold dkCells at hc3
        have CS := Lib.hid (disk_Crash kv (d.put i s).tick.keep (by rw [Dk.tick_keep]; exact OK.out.kl) g mb cb kv (d.put i s).tick w3 D3.out ok1.out.ok0.tick D3.out.hk (fun b off n c e h => by have := D3.out.kn b off n c e; rcases h with h | h | h; exact this.1 h; exact this.2.1 h; exact this.2.2 h))
        rw [Dk.tick_keep] at CS
        go_wp2_with fail
        refine CS.out.mono ?_; rintro e w4 ⟨rfl, hd4, hf4⟩
        have D4 := Lib.hid hd4
        have F4 : Hid (Fr (DkS g mb cb) w w4) := F3.out.trans hf4
        clear hd4 hf4
        go_wp2_with fail
        go_ret
        exact ⟨rfl, D4.out, F4.out⟩
      | false =>
        have e : d.write i s = ((d.put i s).tick, 0) := by unfold Dk.write; rw [if_neg (by simpa using h0), if_neg (by simpa using hs), if_neg (by rw [hf]; decide)]
        rw [e]
        rw [show (d.put i s).falls = false from hf] at CR
        clear e h0 hs hf hdd
        go_enter Tryz.func33, Tryz.ntmps33
        go_wp2_with fail
        refine MY.out.mono ?_; rintro e w1 ⟨hp, hb1⟩
        obtain rfl : e = _ := hp
        have B1 := Lib.hid hb1
        have D1 := Lib.hid (HD.out.below hb1)
        clear hb1
        have hc := blk_cell D1.out.blk
        unfold dkCells at hc
        go_wp2_with (at_mapUpdate; refine wpList_put_sec _ rfl _ _ _ rfl cb 4096 d.c rfl D1.out.hc (by unfold maxLen; omega) i rfl Hi.out s rfl ?_; intro w2 hm2 hg2)
        have D2 := Lib.hid (D1.out.put OK.out.ok0 hir Hs.out hm2 hg2)
        have F2 : Hid (Fr (DkS g mb cb) w w2) := (Fr.of_below B1.out).grown hg2 (fun k e => by injection e with e; exact .inl (.inr (.inr e.symm)))
        clear hc hm2 hg2
        go_wp2_with fail
        refine (CR.out _ D2.out).mono ?_; rintro e w3 ⟨rfl, hd3, hf3⟩
        have D3 := Lib.hid hd3
        have F3 : Hid (Fr (DkS g mb cb) w w3) := F2.out.trans (hf3.mono fun _ h => .inl h)
        clear hd3 hf3
        go_wp2_with fail
        go_ret
        exact ⟨rfl, D3.out, F3.out⟩
    · have hl : ((s.size : Int) != 256) = true := by rw [bne_iff_ne]; omega
      have e : d.write i s = (d, 1) := by unfold Dk.write; rw [if_neg (by simpa using h0), if_pos hs]
      rw [e]
      have vA := HW.out.vA
      have VA := Lib.hid vA
      clear e h0 hs hdd vA
      go_enter Tryz.func33, Tryz.ntmps33
      go_wp2_with fail
      refine MY.out.mono ?_; rintro e w1 ⟨hp, hb1⟩
      obtain rfl : e = _ := hp
      have B1 := Lib.hid hb1
      have vA := dk_cell VA.out hb1
      clear hb1
      obtain ⟨W, hW⟩ : ∃ W, W = w1.alloc (.cells #[.int .i64 i, .iface 308 (.pointer (some aA))] 152) := ⟨_, rfl⟩
      have BW : Hid (Below w1.heap.size w1 W) := by show Below _ _ _; rw [hW]; exact below_alloc1 _ _
      have qW : Hid (W.cell? ⟨w1.heap.size, 1, none⟩ = some (.iface 308 (.pointer (some aA)))) := by show _ = _; rw [hW, blk_cell (blk_new _ _)]; rfl
      go_wp2_with fail
      rw [← hW]
      clear hW
      refine (disk_told 1 (.inl rfl) w1.heap.size aD aA W (HW.out.below (bstep B1.out BW.out)) qW.out).mono ?_; rintro e w2 ⟨rfl, rfl⟩
      go_wp2_with fail
      go_ret
      exact ⟨rfl, HD.out.below (bstep B1.out BW.out), Fr.of_below (bstep B1.out BW.out)⟩
  · have e : d.write i s = (d, d.may i) := by unfold Dk.write; rw [if_pos h0]
    rw [e]
    clear e
    have hc1 : d.may i = 1 ∨ d.may i = 74 := (may_cases d i).resolve_left h0
    obtain ⟨c, hc⟩ : ∃ c, c = d.may i := ⟨_, rfl⟩
    rw [← hc] at MY h0 hc1 ⊢
    clear hc
    go_enter Tryz.func33, Tryz.ntmps33
    go_wp2_with fail
    refine MY.out.mono ?_; rintro e w1 ⟨hp, hb1⟩
    unfold MayP at hp
    rw [if_neg h0] at hp
    obtain ⟨p, rfl, hp1⟩ := hp
    have TL := Lib.hid (disk_told c hc1 p aD aA w1 (HW.out.below hb1) hp1)
    have B1 := Lib.hid hb1
    clear hb1 hp1
    go_wp2_with fail
    refine TL.out.mono ?_; rintro e w2 ⟨rfl, rfl⟩
    go_wp2_with fail
    go_ret
    exact ⟨rfl, HD.out.below B1.out, Fr.of_below B1.out⟩
/-- What is durable while a flush goes on. -/
def pourM (m c : Int → Option ByteArray) (left : Int → Bool) (j : Int) : Option ByteArray := if left j then m j else (c j).or (m j)
theorem pourM_start (m c : Int → Option ByteArray) : pourM m c (fun i => (c i).isSome) = m := by
  funext j
  unfold pourM
  cases h : c j with
  | none => simp [h]
  | some s => simp [h]
theorem pourM_put {m c : Int → Option ByteArray} {left : Int → Bool} {i : Int} {s : ByteArray} (hc : c i = some s) : setF (pourM m c left) i s = pourM m c (fun j => left j && !(j == i)) := by
  funext j
  unfold pourM setF
  by_cases e : j = i
  · subst e; simp [hc]
  · simp [e]
theorem pourM_range {m c : Int → Option ByteArray} {left : Int → Bool} {N : Int} (hm : ∀ i, (m i).isSome = true → 0 ≤ i ∧ i < N) (hc : ∀ i, (c i).isSome = true → 0 ≤ i ∧ i < N) (j : Int) (h : (pourM m c left j).isSome = true) : 0 ≤ j ∧ j < N := by
  unfold pourM at h
  split at h
  · exact hm j h
  · cases hcj : c j with
    | none => rw [hcj] at h; exact hm j h
    | some s => exact hc j (by rw [hcj]; rfl)
set_option maxRecDepth 20000 in
set_option maxHeartbeats 2000000 in
theorem maps_Copy (m c : Int → Option ByteArray) (N : Int) (hN : N ≤ 4096) (hmr : ∀ i, (m i).isSome = true → 0 ≤ i ∧ i < N) (hcr : ∀ i, (c i).isSome = true → 0 ≤ i ∧ i < N) (mb cb : Nat) (hne : mb ≠ cb) (w : World) (hm : MapS w mb 4096 m) (hc : MapS w cb 4096 c) :
    Calls Tryz.prog 124 #[.map (some mb), .map (some cb)] w fun e w' => e = .returned (.tuple #[]) ∧ MapS w' mb 4096 (fun i => (c i).or (m i)) ∧ MapS w' cb 4096 c ∧ w.grownBy w' (some mb) := by
  have HM := Lib.hid hm; have HC := Lib.hid hc; have MR := Lib.hid hmr; have CR := Lib.hid hcr
  have lm := hm.lt
  have lc := hc.lt
  clear hm hc hmr hcr
  go_enter Tryz.func124, Tryz.ntmps124
  go_wp2_with (at_range; refine wpList_range_sec _ rfl _ rfl cb 4096 c rfl HC.out ?_; intro w0 cnt0 hr0 hg0 hs0)
  go_frame
  have HR0 := Lib.hid hr0; have HG0 := Lib.hid hg0
  clear hr0 hg0 hs0
  go_loopw [8] (fun _ wr => ∃ left cnt, RangS wr cb w.heap.size 4096 c left cnt ∧ (∀ i, left i = true → (c i).isSome = true) ∧ MapS wr mb 4096 (pourM m c left) ∧ w.grownBy wr (some mb)) (fun _ wr => wr.rangeLeft cb w.heap.size)
  case atStart => exact ⟨_, cnt0, HR0.out, fun _ h => h, by rw [pourM_start]; exact HM.out.kept HG0.out (by simp), HG0.out.but _⟩
  case round =>
    obtain ⟨left, cnt, hrg, hlc, hm, hf⟩ := hrel
    have HR := Lib.hid hrg; have HLC := Lib.hid hlc; have HM2 := Lib.hid hm; have HF := Lib.hid hf
    clear hrg hlc hm hf
    go_wp2_with (at_next; refine wpList_next_sec _ rfl _ rfl cb w.heap.size 4096 c left cnt rfl HR.out ?_ ?_)
    · intro hnone
      have HN := Lib.hid hnone
      clear hnone
      go_wp2_with fail
      refine bodyPost_end (v := .tuple #[]) (by simp [results, Tryz.results124, go_sem]) rfl ?_
      have e : pourM m c left = fun i => (c i).or (m i) := by
        funext i
        unfold pourM
        cases hl : left i with
        | false => rfl
        | true =>
          have h3 := CR.out i (HLC.out i hl)
          have h4 := HN.out i (wf64_of (by omega) (by omega))
          rw [h4] at hl; cases hl
      refine ⟨rfl, ?_, HR.out.owns, HF.out⟩
      rw [← e]; exact HM2.out
    · intro i s w1 cnt1 hi hli hfi hrg1 hlt hg1 hs1 hen
      have hlc1 : Hid (∀ j, (left j && !(j == i)) = true → (c j).isSome = true) := fun j hj => HLC.out j (by simp at hj; exact hj.1)
      have Hi := Lib.hid hi; have HLI := Lib.hid hli; have HFI := Lib.hid hfi; have HR1 := Lib.hid hrg1; have HLT := Lib.hid hlt; have HG1 := Lib.hid hg1
      have M1 : Hid (MapS w1 mb 4096 (pourM m c left)) := HM2.out.kept HG1.out (fun e => by injection e with e; omega)
      have G1 : Hid (w.grownBy w1 (some mb)) := HF.out.andThen HG1.out (fun j hj => .inl (by cases hj; exact Nat.le_refl _))
      clear hi hli hfi hrg1 hlt hg1 hs1
      go_wp2_with (at_mapUpdate; refine wpList_put_sec _ rfl _ _ _ rfl mb 4096 _ rfl (M1.out.below (below_alloc1 _ _)) (by unfold maxLen; omega) i rfl Hi.out s rfl ?_; intro w2 hm2 hg2)
      go_frame
      rw [pourM_put HFI.out] at hm2
      have M2 := Lib.hid (hm2.t4096 hN (pourM_range MR.out CR.out))
      have R2 := Lib.hid ((HR1.out.below (below_alloc1 _ _)).kept hg2 (fun e => hne (by injection e with e; exact e.symm)) (fun e => by injection e with e; omega))
      have G2 : Hid (w.grownBy w2 (some mb)) := (G1.out.andThen (World.grownBy_alloc w1 _ (some mb)) (fun j hj => .inr hj)).andThen hg2 (fun j hj => .inr hj)
      clear hm2 hg2
      go_roundw
      case rel => exact ⟨_, cnt1, R2.out, hlc1.out, M2.out, G2.out⟩
      case measure => rw [R2.out.left_eq, HR.out.left_eq]; exact HLT.out
end Go.Proofs.YtdbiebnnogjccaaGreatDoor

/- append([]T{}, xs...) of whatever cells: the run, a plain operation, a step of a region that draws its order. -/
namespace Go.Proofs.YtdbiebnnogjccaaGreatDoor
open Go.RowKit
/-- A slice's n elements read as these cells. -/
def SlCells (w : World) (v : Value) (n : Nat) (cs : List Value) : Prop := (n = 0 ∧ cs = [] ∧ ∃ p c, v = .slice p 0 c) ∨ ∃ b off cap, v = .slice (some ⟨b, off, none⟩) n cap ∧ ∀ j u, cs[j]? = some u → w.cell? ⟨b, off + j, none⟩ = some u
theorem run_append_new {P : Program} (w : World) (t ty e : TypeId) (i : TypeInfo) (z : Value) (ht : P.underlying t = some (.slice e)) (hi : P.info? e = some i) (hz : i.zero = some z) (size : Nat) (hsize : i.size = size) (hby : i.bytes ≤ 128)
    (H : Nat) (sv : Value) (n : Nat) (cs : List Value) (hcs : cs.length = n * size) (hsrc : SlCells w sv n cs) (hl : n ≤ 1000000) :
    ∃ g c w', (Builtin.append_ #[t, t] ty #[.slice (some ⟨H, 0, none⟩) 0 0, sv]).run P w = .ok (.slice (some ⟨g, 0, none⟩) n c) w' ∧ n ≤ c ∧ (∀ j u, cs[j]? = some u → w'.cell? ⟨g, j, none⟩ = some u) ∧ Below w.heap.size w w' ∧ (g = H ∨ g = w.heap.size) ∧ (0 < n → g = w.heap.size ∧ g < w'.heap.size) := by
  by_cases h0 : n = 0
  · subst h0
    obtain rfl : cs = [] := List.eq_nil_of_length_eq_zero (by simpa using hcs)
    refine ⟨H, 0, w, ?_, Nat.le_refl _, (fun j u h => by simp at h), Below.refl _ _, .inl rfl, fun h => absurd h (by omega)⟩
    rcases hsrc with ⟨_, _, p, c, rfl⟩ | ⟨b, off, cap, rfl, _⟩
    · cases p <;> simp [Builtin.append_, run_underlying ht, sizeOf, typeInfo, hi, Builtin.lenOf, Builtin.firstCells, loadCells, loadCellsFrom, storeCells]
    · simp [Builtin.append_, run_underlying ht, sizeOf, typeInfo, hi, Builtin.lenOf, Builtin.firstCells, loadCells, loadCellsFrom, storeCells]
  · rcases hsrc with ⟨h1, _⟩ | ⟨b, off, cap, rfl, hat⟩
    · exact absurd h1 h0
    · have hb8 : n * i.bytes ≤ 1000000 * 128 := Nat.mul_le_mul hl hby
      have hr := run_append_grow (P := P) w t ty e i z ht hi hz ⟨H, 0, none⟩ 0 0 [] (by simp) (fun j v h => by simp at h) ⟨b, off, none⟩ n cap cs (by rw [hcs, hsize])
        (fun j v hj => by
          have hadd : (⟨b, off, none⟩ : Addr).add j = ⟨b, off + j, none⟩ := by unfold Addr.add; split <;> simp_all
          rw [hadd]; exact hat j v hj)
        (by omega) (by omega) (growslice_fits (by omega) (by rw [Nat.zero_add]; omega))
      simp only [Nat.zero_add] at hr
      have hge := grownCap_ge w n 0 e
      refine ⟨_, _, _, hr, hge, fun j u hj => ?_, ?_, .inr rfl, fun _ => ⟨rfl, by simp⟩⟩
      · have := blk_cell (blk_new w.drew (.cells ((#[] : Array Value) ++ cs.toArray ++ Builtin.zeroCells z.cells (grownCap w n 0 e - n)) e)) j
        refine this.trans ?_
        have hjl : j < cs.length := (List.getElem?_eq_some_iff.1 hj).1
        rw [Array.getElem?_append_left (by simp; exact hjl), Array.getElem?_append_right (by simp)]
        simp [hj]
      · have hb := (Below.refl w.drew.heap.size w.drew).alloc (Nat.le_refl _) (.cells ((#[] : Array Value) ++ cs.toArray ++ Builtin.zeroCells z.cells (grownCap w n 0 e - n)) e)
        exact ⟨hb.os, hb.tape, hb.output, hb.size, hb.block⟩
theorem wpList_append_new {P : Program} {w : World} {ops : Array Oper} {rest : List Oper} {o : Oper} {a : Act} {Q : Exit → Act → World → Prop} (hgd : o.guard = none) (s x : Operand) (t : TypeId)
    (ho : o.op = .call { callee := .builtin .append, args := #[s, x], argTypes := #[t, t] })
    (e : TypeId) (i : TypeInfo) (z : Value) (ht : P.underlying t = some (.slice e)) (hi : P.info? e = some i) (hz : i.zero = some z) (size : Nat) (hsize : i.size = size) (hby : i.bytes ≤ 128)
    (H : Nat) (hs : a.eval s = .slice (some ⟨H, 0, none⟩) 0 0) (sv : Value) (hx : a.eval x = sv) (n : Nat) (cs : List Value) (hcs : cs.length = n * size) (hsrc : SlCells w sv n cs) (hl : n ≤ 1000000)
    (h : ∀ g c w', n ≤ c → (∀ j u, cs[j]? = some u → w'.cell? ⟨g, j, none⟩ = some u) → Below w.heap.size w w' → (g = H ∨ g = w.heap.size) → (0 < n → g = w.heap.size ∧ g < w'.heap.size) → wpList P ops Q rest (a.put o.dst (.slice (some ⟨g, 0, none⟩) n c)) w') :
    wpList P ops Q (o :: rest) a w := by
  refine wpList_plain hgd fun K hK => ?_
  obtain ⟨g, c, w', hr, h2, h3, h4, h5, h6⟩ := run_append_new (P := P) w t o.type e i z ht hi hz size hsize hby H sv n cs hcs hsrc hl
  unfold Oper.wp execOp
  simp only [ho, resolve, invoke, builtin, Sem.run_bind, Sem.run_pure, Result.andThen_ok, List.map_toArray, List.map_cons, List.map_nil, hs, hx, hr]
  exact hK _ _ (h g c w' h2 h3 h4 h5 h6)
theorem step_append_new {P : Program} {w : World} {ops : Array Oper} {o : Oper} {a : Act} {K : Act → World → Prop} {Q : Exit → Act → World → Prop} {E : Prop} (hgd : o.guard = none) (s x : Operand) (t : TypeId)
    (ho : o.op = .call { callee := .builtin .append, args := #[s, x], argTypes := #[t, t] })
    (e : TypeId) (i : TypeInfo) (z : Value) (ht : P.underlying t = some (.slice e)) (hi : P.info? e = some i) (hz : i.zero = some z) (size : Nat) (hsize : i.size = size) (hby : i.bytes ≤ 128)
    (H : Nat) (hs : a.eval s = .slice (some ⟨H, 0, none⟩) 0 0) (sv : Value) (hx : a.eval x = sv) (n : Nat) (cs : List Value) (hcs : cs.length = n * size) (hsrc : SlCells w sv n cs) (hl : n ≤ 1000000)
    (h : ∀ g c w', n ≤ c → (∀ j u, cs[j]? = some u → w'.cell? ⟨g, j, none⟩ = some u) → Below w.heap.size w w' → (g = H ∨ g = w.heap.size) → (0 < n → g = w.heap.size ∧ g < w'.heap.size) → K (a.put o.dst (.slice (some ⟨g, 0, none⟩) n c)) w') :
    if Region.wanted o (yielded ops a.tmps) = true then Oper.wp P o a w K Q else E := by
  have hw : Region.wanted o (yielded ops a.tmps) = true := by simp [Region.wanted, hgd]
  rw [if_pos hw]
  obtain ⟨g, c, w', hr, h2, h3, h4, h5, h6⟩ := run_append_new (P := P) w t o.type e i z ht hi hz size hsize hby H sv n cs hcs hsrc hl
  unfold Oper.wp execOp
  simp only [ho, resolve, invoke, builtin, Sem.run_bind, Sem.run_pure, Result.andThen_ok, List.map_toArray, List.map_cons, List.map_nil, hs, hx, hr]
  exact h g c w' h2 h3 h4 h5 h6
end Go.Proofs.YtdbiebnnogjccaaGreatDoor
