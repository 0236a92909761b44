/- Disks (layer 19): the reference's Crash, Write, Arm. -/
import Derived.Test.YtdbiebnnogjccaaGreatDoorDw
import Derived.StillTailTactics
import Derived.Deep.RegionHeld3
namespace Go.Proofs.YtdbiebnnogjccaaGreatDoor
open Go.RowKit
theorem keptN_hit {l : List (Int × Int)} {i : Int} {k : Nat} (hk : k < l.length) (h : l[k].1 = i) (hp : ∀ j (h : j < l.length), j < k → l[j].1 ≠ i) : keptN l i = some (min (max l[k].2 0) 256).toNat := by
  have h1 : l.find? (fun x => x.1 == i) = some l[k] := by
    rw [List.find?_eq_some_iff_getElem]
    exact ⟨by rw [beq_iff_eq]; exact h, k, hk, rfl, fun j hj => by have := hp j (by omega) hj; simpa using this⟩
  unfold keptN; rw [h1]; rfl
theorem keptN_miss {l : List (Int × Int)} {i : Int} (hp : ∀ j (h : j < l.length), l[j].1 ≠ i) : keptN l i = none := by
  have h1 : l.find? (fun x => x.1 == i) = none := by
    rw [List.find?_eq_none]
    intro x hx
    obtain ⟨j, hj, rfl⟩ := List.getElem_of_mem hx
    simpa using hp j hj
  unfold keptN; rw [h1]; rfl
/-- What is durable at a place behind a crash. -/
def Dk.fat (d : Dk) (l : List (Int × Int)) (i : Int) : ByteArray := (d.fallen l i).getD nil256
theorem ext_all {T : ByteArray} {n : Nat} (h : T.size = n) : T.extract 0 n = T := by
  refine bytes_ext ?_
  rw [extract_list, List.drop_zero]
  exact List.take_of_length_le (by rw [size_list]; omega)
theorem ext_nil (T : ByteArray) : T.extract 0 0 = ⟨#[]⟩ := by
  refine bytes_ext ?_
  rw [extract_list]; rfl
theorem fat_none {d : Dk} {l : List (Int × Int)} {i : Int} (h : d.c i = none) : d.fat l i = d.at i := by
  unfold Dk.fat Dk.fallen Dk.at; rw [h]
theorem fat_some {d : Dk} (ok : d.Ok0) {l : List (Int × Int)} {i : Int} {s : ByteArray} (h : d.c i = some s) : d.fat l i = s.extract 0 ((keptN l i).getD 0) ++ (d.at i).extract ((keptN l i).getD 0) 256 := by
  cases hk : keptN l i with
  | none =>
    have e : d.fat l i = d.at i := by unfold Dk.fat Dk.fallen; rw [h]; simp only [hk]; rfl
    rw [e]
    show d.at i = s.extract 0 0 ++ (d.at i).extract 0 256
    rw [ext_nil, ext_all (ok.at_size i)]
    exact bytes_ext (by rw [list_append]; rfl)
  | some n => unfold Dk.fat Dk.fallen; rw [h]; simp only [hk]; rfl
theorem fat_size {d : Dk} (ok : d.Ok0) (l : List (Int × Int)) (i : Int) : (d.fat l i).size = 256 := by
  cases h : d.c i with
  | none => rw [fat_none h]; exact ok.at_size i
  | some s =>
    rw [fat_some ok h, ByteArray.size_append, ByteArray.size_extract, ByteArray.size_extract, ok.sc i s h, ok.at_size i]
    have : (keptN l i).getD 0 ≤ 256 := by
      cases hk : keptN l i with
      | none => exact Nat.zero_le _
      | some n => exact keptN_le hk
    omega
theorem crash_at {d : Dk} (h : d.dead = false) (l : List (Int × Int)) (i : Int) : (d.crash l).at i = d.fat l i := by
  unfold Dk.crash; rw [if_neg (by rw [h]; decide)]; rfl
theorem crash_ca {d : Dk} (h : d.dead = false) (l : List (Int × Int)) (i : Nat) : (d.crash l).ca i = ⟨#[]⟩ := by
  unfold Dk.crash; rw [if_neg (by rw [h]; decide)]; rfl
theorem upd8_ifs {i : Nat} {A B : Nat → ByteArray} : upd8 (fun j => if j < i then A j else B j) i (A i) = fun j => if j < i + 1 then A j else B j := by
  funext j
  unfold upd8
  by_cases h : j = i
  · subst h; simp
  · by_cases h2 : j < i
    · rw [if_neg h]; dsimp only; rw [if_pos h2, if_pos (by omega)]
    · rw [if_neg h]; dsimp only; rw [if_neg h2, if_neg (by omega)]
theorem upd8_skip {i : Nat} {A B : Nat → ByteArray} (h : A i = B i) : (fun j => if j < i then A j else B j) = fun j => if j < i + 1 then A j else B j := by
  funext j
  by_cases e : j = i
  · subst e; simp [h]
  · by_cases h2 : j < i
    · rw [if_pos h2, if_pos (by omega)]
    · rw [if_neg h2, if_neg (by omega)]
theorem set_farA {W : World} {b q o' : Nat} {A : Array Value} (h : ∀ o, W.cell? ⟨b, o, none⟩ = A[o]?) (hne : b ≠ q) (v : Value) : ∀ o, (W.setCell ⟨q, o', none⟩ v).cell? ⟨b, o, none⟩ = A[o]? := fun o =>
  (World.cell?_of_block (w := W) (Below.heap_setCell W ⟨q, o', none⟩ v b hne)).trans (h o)
theorem set_far1 {W : World} {b q o o' : Nat} {u : Option Value} (h : W.cell? ⟨b, o, none⟩ = u) (hne : b ≠ q) (v : Value) : (W.setCell ⟨q, o', none⟩ v).cell? ⟨b, o, none⟩ = u :=
  (World.cell?_of_block (w := W) (Below.heap_setCell W ⟨q, o', none⟩ v b hne)).trans h
theorem SlKept.fr' {S : Nat → Prop} {w w' : World} {v : Value} {l : List (Int × Int)} (h : SlKept w v l) (hf : Fr S w w') (hs : l ≠ [] → ∀ b off n c, v = .slice (some ⟨b, off, none⟩) n c → ¬ S b) : SlKept w' v l := by
  rcases h with h | ⟨b, off, cap, e, hc, h⟩
  · exact .inl h
  · by_cases h0 : l = []
    · subst h0; exact .inl ⟨rfl, _, _, e⟩
    · exact .inr ⟨b, off, cap, e, hc, h.fr hf (hs h0 _ _ _ _ e)⟩
set_option maxRecDepth 100000 in
set_option maxHeartbeats 4000000 in
theorem ref_Crash (kvv : Value) (l : List (Int × Int)) (hl : l.length ≤ 65536) (q sb cb c1 c2 n : Nat) (rn : Int) (kv : Value) (d : Dk) (w : World) (hd : RefAt w q sb cb c1 c2 n rn kv d) (ok : d.Ok0) (hk : SlKept w kvv l) (hkn : l ≠ [] → ∀ b off n c, kvv = .slice (some ⟨b, off, none⟩) n c → ¬ RfS q sb cb b) :
    Calls Tryz.prog 27 #[.pointer (some ⟨q, 0, none⟩), kvv] w fun e w' => e = .returned (.tuple #[]) ∧ RefAt w' q sb cb c1 c2 n rn kv (d.crash l) ∧ Fr (RfS q sb cb) w w' := by
  have HD := Lib.hid hd
  have HKN := Lib.hid hkn; have OK := Lib.hid ok
  obtain ⟨p, cp, rfl⟩ := hk.form
  have HK := Lib.hid hk
  have hc := blk_cell hd.blk
  unfold rfCells at hc
  have hn4 : n ≤ 4096 := by have := hd.hn; have := ok.n1; omega
  clear hd hk hkn ok
  cases hdead : d.dead with
  | true =>
    rw [hdead] at hc
    have e : d.crash l = d := by unfold Dk.crash; rw [if_pos hdead]
    rw [e]; clear e hdead
    go_enter Tryz.func27, Tryz.ntmps27
    go_wp2_with fail
    refine bodyPost_ret (v := .tuple #[]) (by simp [results, Tryz.results27, go_sem]) rfl ?_
    exact ⟨rfl, HD.out, Fr.refl _ _⟩
  | false =>
    rw [hdead] at hc
    have Hdead := Lib.hid hdead
    have SOf : Hid (∀ W, Fr (fun x => x = sb ∨ x = cb) w W → ∀ o, W.cell? ⟨q, o, none⟩ = (#[.slice (some ⟨sb, 0, none⟩) n c1, .slice (some ⟨cb, 0, none⟩) n c2, .bool false, .bool d.armed, .int .i64 rn, kv] : Array Value)[o]?) := fun W h o => by
      have := blk_cell (blk_fr HD.out.blk h (by rintro (h | h); exact HD.out.qs h; exact HD.out.qc h)) o
      unfold rfCells at this
      rw [Hdead.out] at this
      exact this
    clear hdead
    go_enter Tryz.func27, Tryz.ntmps27
    go_wp2_with fail
    clear hc
    go_loopw [4] (fun c wr => ∃ i : Nat, i ≤ n ∧ c = .int .i64 i ∧ RowF wr sb n (fun j => if j < i then d.fat l (j : Int) else d.at (j : Int)) ∧ RowF wr cb n (fun j => if j < i then ⟨#[]⟩ else d.ca j) ∧ Fr (fun x => x = sb ∨ x = cb) w wr) (fun c _ => n - (intOf c).toNat)
    case atStart => exact ⟨0, Nat.zero_le _, rfl, HD.out.s.congr (fun j _ => by rw [if_neg (by omega)]), HD.out.c.congr (fun j _ => by rw [if_neg (by omega)]), Fr.refl _ _⟩
    case round =>
      obtain ⟨i, hin, rfl, hS, hC, hF⟩ := hrel
      have HS := Lib.hid hS; have HC := Lib.hid hC; have HF := Lib.hid hF
      clear hS hC hF
      have hcq := SOf.out wr HF.out
      have KR := Lib.hid (HK.out.fr' HF.out (fun h0 b off n c e h => HKN.out h0 b off n c e (by rcases h with h | h; exact .inr (.inl h); exact .inr (.inr h))))
      by_cases hlt : i < n
      · have hi : (i : Int) < (n : Int) := by omega
        have hi0 : (0 : Int) ≤ (i : Int) := by omega
        obtain ⟨m, hm⟩ : ∃ m, m = (keptN l (i : Int)).getD 0 := ⟨_, rfl⟩
        have hm256 : m ≤ 256 := by
          rw [hm]
          cases hk : keptN l (i : Int) with
          | none => exact Nat.zero_le _
          | some n => exact keptN_le hk
        have HMm := Lib.hid hm
        clear hm
        go_upto_block 2 with (fail)
        go_cut [5] (fun s wc => s = .int .i64 (m : Int) ∧ wc = wr)
        case first =>
          go_wp2_with fail
          go_loop [5, 6] (fun s c => ∃ k : Nat, k ≤ l.length ∧ c = .int .i64 k ∧ s = .int .i64 0 ∧ ∀ j (h : j < l.length), j < k → l[j].1 ≠ (i : Int)) (fun _ c => l.length - (intOf c).toNat)
          case atStart => exact ⟨0, Nat.zero_le _, rfl, rfl, fun j _ h => absurd h (by omega)⟩
          case round =>
            obtain ⟨k, hkl, rfl, rfl, hP⟩ := hrel
            have HP := Lib.hid hP
            clear hP
            by_cases hlk : k < l.length
            · have hk1 : (k : Int) < (l.length : Int) := by omega
              have hk0 : (0 : Int) ≤ (k : Int) := by omega
              obtain ⟨b, off, cap, e, hA⟩ := KR.out.at hlk
              injection e with e1 _ e3
              subst e1 e3
              have ks := hA.sec k hlk
              have kb := hA.byt k hlk
              by_cases he : l[k].1 = (i : Int)
              · have hq : (l[k].1 == (i : Int)) = true := by rw [beq_iff_eq]; exact he
                have hmx : Hid (min (max l[k].2 0) 256 = (m : Int)) := by
                  show _ = _
                  rw [HMm.out, keptN_hit hlk he HP.out]
                  show _ = (((min (max l[k].2 0) 256).toNat : Nat) : Int)
                  omega
                obtain ⟨x, hx⟩ : ∃ x, x = l[k].1 := ⟨_, rfl⟩
                obtain ⟨y, hy⟩ : ∃ y, y = l[k].2 := ⟨_, rfl⟩
                rw [← hx] at ks hq
                rw [← hy] at kb hmx
                clear hA he hx hy
                go_wp2_with fail
                go_meet
                exact ⟨by rw [hmx.out], rfl⟩
              · have hq : (l[k].1 == (i : Int)) = false := by rw [beq_eq_false_iff_ne]; exact he
                have HN := Lib.hid he
                obtain ⟨x, hx⟩ : ∃ x, x = l[k].1 := ⟨_, rfl⟩
                rw [← hx] at ks hq
                clear hA he hx kb
                go_wp2_with fail
                go_round
                case rel =>
                  refine ⟨k + 1, by omega, by go_num, rfl, fun j h hj => ?_⟩
                  by_cases hjk : j < k
                  · exact HP.out j h hjk
                  · obtain rfl : j = k := by omega
                    exact HN.out
                case measure => simp [intOf]; omega
            · have hk1 : ¬ (k : Int) < (l.length : Int) := by omega
              have hm0 : m = 0 := by rw [HMm.out, keptN_miss (fun j h => HP.out j h (by omega))]; rfl
              subst hm0
              go_wp2_with fail
              go_meet
              exact ⟨rfl, rfl⟩
        case rest =>
          obtain ⟨rfl, rfl⟩ := hcut
          have hcc : wc.cell? ⟨cb, i, none⟩ = some (.string (d.ca i)) := by have := HC.out.cell hlt; rw [if_neg (by omega)] at this; exact this
          have hfc := HC.out.frozen i
          have hss : wc.cell? ⟨sb, i, none⟩ = some (.string (d.at (i : Int))) := by have := HS.out.cell hlt; rw [if_neg (by omega)] at this; exact this
          cases hci : d.c (i : Int) with
          | none =>
            have e : d.ca i = ⟨#[]⟩ := by unfold Dk.ca; rw [hci]; rfl
            rw [e] at hcc
            have HCI := Lib.hid hci
            clear e hci hss
            go_wp2_with fail
            go_roundw
            case rel =>
              refine ⟨i + 1, by omega, by go_num, (HS.out.fr (fr_set (S := fun x => x = cb) rfl i _) HD.out.sc).congr (fun j _ => congrFun (upd8_skip (i := i) (A := fun j => d.fat l (j : Int)) (B := fun j => d.at (j : Int)) (fat_none HCI.out)) j), ?_, HF.out.trans (fr_set (S := fun x => x = sb ∨ x = cb) (.inr rfl) i _)⟩
              exact (HC.out.set i ⟨#[]⟩).congr (fun j _ => congrFun (upd8_ifs (i := i) (A := fun _ => ⟨#[]⟩) (B := d.ca)) j)
            case measure => simp [intOf]; omega
          | some s =>
            have e : d.ca i = s := by unfold Dk.ca; rw [hci]; rfl
            rw [e] at hcc
            have hs : s.size = 256 := OK.out.sc _ s hci
            have ht : (d.at (i : Int)).size = 256 := OK.out.at_size _
            obtain ⟨g1, g2, g3⟩ := strF (full256 hs)
            obtain ⟨T, hT⟩ : ∃ T, T = d.at (i : Int) := ⟨_, rfl⟩
            have FT : Hid (d.fat l (i : Int) = s.extract 0 m ++ T.extract m 256) := by show _ = _; rw [fat_some OK.out hci, ← HMm.out, ← hT]
            rw [← hT] at hss ht
            clear e hci hT
            go_upto_region 11 with (fail)
            have sl1 : ∀ wx, (Instr.slice 9 (.string s) none (some (.int .i64 (m : Int))) none).run Tryz.prog wx = .ok (.string (s.extract 0 m)) wx := fun wx => by
              rw [run_slice_string_h (P := Tryz.prog) wx 9 s Tryz.underlying9 .i64 (m : Int) (by omega) (by omega)]; rfl
            have sl2 : ∀ wx, (Instr.slice 9 (.string T) (some (.int .i64 (m : Int))) none none).run Tryz.prog wx = .ok (.string (T.extract m 256)) wx := fun wx => by
              rw [run_slice_string_l (P := Tryz.prog) wx 9 T Tryz.underlying9 .i64 (m : Int) (by omega) (by omega), ht]; rfl
            have hz : ¬ 9223372036854775807 < (s.extract 0 m).size + (T.extract m 256).size := by rw [ByteArray.size_extract, ByteArray.size_extract]; omega
            obtain ⟨X, hX⟩ : ∃ X, X = s.extract 0 m := ⟨_, rfl⟩
            obtain ⟨Y, hY⟩ : ∃ Y, Y = T.extract m 256 := ⟨_, rfl⟩
            rw [← hX] at sl1 hz FT
            rw [← hY] at sl2 hz FT
            clear hX hY hs ht g1 g2 g3
            have D0 : Hid (Below wc.heap.size wc wc.drew) := ⟨rfl, rfl, rfl, Nat.le_refl _, fun _ _ => rfl⟩
            have S0 : (∀ o, wc.drew.cell? ⟨q, o, none⟩ = (#[.slice (some ⟨sb, 0, none⟩) n c1, .slice (some ⟨cb, 0, none⟩) n c2, .bool false, .bool d.armed, .int .i64 rn, kv] : Array Value)[o]?) ∧ wc.drew.cell? ⟨cb, i, none⟩ = some (.string s) := ⟨hcq, hcc⟩
            have hsd : wc.drew.cell? ⟨sb, i, none⟩ = some (.string T) := hss
            have hfd : wc.drew.frozen? ⟨sb, i, none⟩ = false := HS.out.frozen i
            have S9 : (∀ o, (wc.drew.setCell ⟨sb, i, none⟩ (.string (X ++ Y))).cell? ⟨q, o, none⟩ = (#[.slice (some ⟨sb, 0, none⟩) n c1, .slice (some ⟨cb, 0, none⟩) n c2, .bool false, .bool d.armed, .int .i64 rn, kv] : Array Value)[o]?) ∧ (wc.drew.setCell ⟨sb, i, none⟩ (.string (X ++ Y))).cell? ⟨cb, i, none⟩ = some (.string s) := ⟨set_farA S0.1 HD.out.qs _, set_far1 S0.2 HD.out.sc.symm _⟩
            clear hcq hcc hss hfc
            obtain ⟨hcq0, hcc0⟩ := S0
            go_still_tail 25, (by kernel_rfl)
            change wpList _ _ _ _ _ wc.drew
            go_upto_region 12 with (fail)
            have RS : Hid (RowF (wc.drew.setCell ⟨sb, i, none⟩ (.string (X ++ Y))) sb n (fun j => if j < i + 1 then d.fat l (j : Int) else d.at (j : Int))) := by
              have := ((HS.out.below D0.out).set i (X ++ Y)).congr (g := fun j => if j < i + 1 then d.fat l (j : Int) else d.at (j : Int)) (fun j _ => by
                rw [← FT.out]; exact congrFun (upd8_ifs (i := i) (A := fun j => d.fat l (j : Int)) (B := fun j => d.at (j : Int))) j)
              exact this
            have RC : Hid (RowF (wc.drew.setCell ⟨sb, i, none⟩ (.string (X ++ Y))) cb n (fun j => if j < i then ⟨#[]⟩ else d.ca j)) := (HC.out.below D0.out).fr (fr_set (S := fun x => x = sb) rfl i _) HD.out.sc.symm
            have FF : Hid (Fr (fun x => x = sb ∨ x = cb) w (wc.drew.setCell ⟨sb, i, none⟩ (.string (X ++ Y)))) := (HF.out.trans (Fr.of_below D0.out)).trans (fr_set (S := fun x => x = sb ∨ x = cb) (.inl rfl) i _)
            obtain ⟨z, hz⟩ : ∃ z, z = wc.drew.setCell ⟨sb, i, none⟩ (.string (X ++ Y)) := ⟨_, rfl⟩
            rw [← World.setCell_drew]
            rw [← hz] at RS RC FF S9 ⊢
            clear hcq0 hcc0 hsd hfd hz
            obtain ⟨hcq, hcc⟩ := S9
            have hfc := RC.out.frozen i
            go_wp2_with fail
            go_roundw
            case rel =>
              refine ⟨i + 1, by omega, by go_num, RS.out.fr (fr_set (S := fun x => x = cb) rfl i _) HD.out.sc, ?_, FF.out.trans (fr_set (S := fun x => x = sb ∨ x = cb) (.inr rfl) i _)⟩
              exact (RC.out.set i ⟨#[]⟩).congr (fun j _ => congrFun (upd8_ifs (i := i) (A := fun _ => ⟨#[]⟩) (B := d.ca)) j)
            case measure => simp [intOf]; omega
      · have hi : ¬ (i : Int) < (n : Int) := by omega
        obtain rfl : i = n := by omega
        have D1 : Hid (RefAt wr q sb cb c1 c2 i rn kv { d with m := d.fallen l, c := fun _ => none }) :=
          ⟨blk_fr HD.out.blk HF.out (by rintro (h | h); exact HD.out.qs h; exact HD.out.qc h), HS.out.congr (fun j hj => by rw [if_pos hj]; rfl), HC.out.congr (fun j hj => by rw [if_pos hj]; rfl), HD.out.hn, HD.out.hr, HD.out.hk.fr HF.out (fun b off n c e h => by have := HD.out.kn b off n c e; rcases h with h | h; exact this.2.1 h; exact this.2.2 h), HD.out.qs, HD.out.qc, HD.out.sc, HD.out.kn⟩
        have h1 := Lib.hid (D1.out.set (rn' := rn) (d' := { d with m := d.fallen l, c := fun _ => none, dead := true }) 2 (.bool true) (by simp [rfCells]) rfl rfl rfl rfl HD.out.hr)
        have h2 := Lib.hid (h1.out.set (rn' := rn) (d' := { d with m := d.fallen l, c := fun _ => none, dead := true, armed := false }) 3 (.bool false) (by simp [rfCells]) rfl rfl rfl rfl (fun e => by cases e))
        have hf1 := blk_frozen D1.out.blk
        have hc2 := blk_cell h1.out.blk
        have hf2 := blk_frozen h1.out.blk
        unfold rfCells at hc2
        go_wp2_with fail
        refine bodyPost_end (v := .tuple #[]) (by simp [results, Tryz.results27, go_sem]) rfl ?_
        have e2 : d.crash l = { d with m := d.fallen l, c := fun _ => none, dead := true, armed := false } := by
          unfold Dk.crash; rw [if_neg (by rw [Hdead.out]; decide)]
        rw [e2]
        exact ⟨rfl, h2.out, ((HF.out.mono (fun x h => by rcases h with h | h; exact .inr (.inl h); exact .inr (.inr h))).trans (fr_set (.inl rfl) _ _)).trans (fr_set (.inl rfl) _ _)⟩
end Go.Proofs.YtdbiebnnogjccaaGreatDoor
