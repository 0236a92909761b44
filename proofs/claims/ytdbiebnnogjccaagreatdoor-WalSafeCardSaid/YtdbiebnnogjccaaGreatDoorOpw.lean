/- The log (layer 21): nil logs; the law WalNone. -/
import Derived.Test.YtdbiebnnogjccaaGreatDoorWh
import Derived.Test.YtdbiebnnogjccaaGreatDoorDq
import Derived.Test.YtdbiebnnogjccaaGreatDoorDu
import Derived.Test.YtdbiebnnogjccaaGreatDoorRows
import Derived.Test.YtdbiebnnogjccaaGreatDoorPkc
import Derived.ChangeSame
import Derived.ChangeVars
import Derived.JoinedOf
import Derived.RowKit
import Derived.RowKitTokens
import Derived.LaidLaws
import Derived.LaidHandle
import Derived.Stop.Joined
import Derived.ProofKit
import Derived.OpenShut
import Derived.Below
import Derived.Carry
import Derived.Test.YtdbiebnnogjccaaGreatDoorSl
namespace Go.Proofs.YtdbiebnnogjccaaGreatDoor
open Go.RowKit
theorem nil_Empty (w : World) : Calls Tryz.prog 31 #[.pointer none] w fun e w' => e = .returned (.tuple #[]) ∧ w = w' := by
  go_enter Tryz.func31, Tryz.ntmps31
  go_wp2_with fail
  refine bodyPost_end (v := .tuple #[]) (by simp [results, Tryz.results31, go_sem]) rfl ?_
  exact ⟨rfl, rfl⟩
theorem nil_Records (w : World) : Calls Tryz.prog 19 #[.pointer none] w fun e w' => e = .returned (.slice none 0 0) ∧ w = w' := by
  go_enter Tryz.func19, Tryz.ntmps19
  go_wp2_with fail
  go_ret
  exact ⟨rfl, rfl⟩
set_option maxRecDepth 20000 in
theorem nil_Append (s : ByteArray) (w : World) : Calls Tryz.prog 14 #[.pointer none, .string s] w fun e w' => e = .returned (.int .i64 1) ∧ w = w' := by
  go_enter Tryz.func14, Tryz.ntmps14
  go_wp2_with fail
  go_ret
  exact ⟨rfl, rfl⟩
theorem nil_Sync (w : World) : Calls Tryz.prog 15 #[.pointer none] w fun e w' => e = .returned (.int .i64 1) ∧ w = w' := by
  go_enter Tryz.func15, Tryz.ntmps15
  go_wp2_with fail
  go_ret
  exact ⟨rfl, rfl⟩
theorem nil_Next (w : World) : Calls Tryz.prog 16 #[.pointer none] w fun e w' => e = .returned (.int .u32 0) ∧ w = w' := by
  go_enter Tryz.func16, Tryz.ntmps16
  go_wp2_with fail
  go_ret
  exact ⟨rfl, rfl⟩
theorem nil_Left (w : World) : Calls Tryz.prog 72 #[.pointer none] w fun e w' => e = .returned (.int .i64 0) ∧ w = w' := by
  go_enter Tryz.func72, Tryz.ntmps72
  go_wp2_with fail
  go_ret
  exact ⟨rfl, rfl⟩
end Go.Proofs.YtdbiebnnogjccaaGreatDoor

/- The log (layer 21): the law WalEmpty. -/
namespace Go.Proofs.YtdbiebnnogjccaaGreatDoor
open Go.RowKit
section
variable {w w' : World} {B p g mb cb : Nat} {kv rv : Value} {n : Int} {lg : Nat} {x : Wl} {d : Dk}
/-- Other blocks, above the base, are written. -/
theorem WalAt.far {S : Nat → Prop} (h : WalAt w B p g mb cb kv rv n lg x d) (hf : Fr S w w') (hS : ∀ b, LgS g mb cb p rv b → ¬ S b) (hB : ∀ b, b < B → ¬ S b) : WalAt w' B p g mb cb kv rv n lg x d :=
  ⟨h.log.fr hf (hS _ (.inr (.inl rfl))) (fun b hb => hS b (.inr (.inr hb))), h.dsk.fr hf (hS _ (.inl (.inl rfl))) (hS _ (.inl (.inr (.inl rfl)))) (hS _ (.inl (.inr (.inr rfl)))) (fun b _ _ _ e => hB b (h.kB _ _ _ _ e)), h.ok, h.dn, h.nl, h.n32, h.pB, h.pS, h.gB, h.rS, h.kB⟩
theorem WalAt.lgS_lt (h : WalAt w B p g mb cb kv rv n lg x d) : ∀ b, LgS g mb cb p rv b → b < w.heap.size := by
  rintro b ((e | e | e) | e | e)
  · rw [e]; exact h.dsk.lt
  · rw [e]; exact h.dsk.hm.lt
  · rw [e]; exact h.dsk.hc.lt
  · rw [e]; exact blk_lt h.log.blk
  · exact (h.log.row.lt b e).2
end
end Go.Proofs.YtdbiebnnogjccaaGreatDoor

/- The log (layer 21): Fair; the plain words of numbers. -/
namespace Go.Proofs.YtdbiebnnogjccaaGreatDoor
open Go.RowKit
def FairW (L : List Stp) (w : World) (e : Ending) (w' : World) : Prop := w = w' ∧ ∃ b : Bool, e = .returned (.bool b) ∧ (b = true → L.length ≤ 60 ∧ ∀ x ∈ L, x.s.size ≤ 2500 ∧ x.l.length ≤ 60)
set_option maxRecDepth 20000 in
set_option maxHeartbeats 4000000 in
theorem law21_Fair (v : Value) (L : List Stp) (hL : L.length ≤ 9223372036854775807) (w : World) (hv : SlStps w v L) :
    Calls Tryz.prog 21 #[v] w (FairW L w) := by
  obtain ⟨p, cp, rfl, hcp⟩ := hv.form
  have HV := Lib.hid hv
  have NO : Hid (FairW L w (.returned (.bool false)) w) := ⟨rfl, false, rfl, fun h => by cases h⟩
  obtain ⟨n, hn⟩ : ∃ n, n = L.length := ⟨_, rfl⟩
  have Hn := Lib.hid hn
  rw [← hn]
  rw [← hn] at HV hL
  clear hv hcp hn
  go_enter Tryz.func21, Tryz.ntmps21
  go_wp2_with fail
  go_loop [3, 4] (fun a c => ∃ (i : Nat) (y : Int), i ≤ n ∧ a = .int .i64 y ∧ c = .int .i64 i ∧ ∀ j (h : j < L.length), j < i → L[j].s.size ≤ 2500 ∧ L[j].l.length ≤ 60) (fun _ c => n - (intOf c).toNat)
  case atStart => exact ⟨0, 0, Nat.zero_le _, rfl, rfl, fun j _ h => absurd h (by omega)⟩
  case round =>
    obtain ⟨i, y, hi, rfl, rfl, hP⟩ := hrel
    have HP := Lib.hid hP
    clear hP
    by_cases hlt : i < n
    · have hi1 : (i : Int) < (n : Int) := by omega
      have hi0 : (0 : Int) ≤ (i : Int) := by omega
      have h1 : i < L.length := by rw [← Hn.out]; exact hlt
      obtain ⟨b, off, rfl, hS⟩ := SlStps.atN Hn.out HV.out h1
      have c1 := hS.str i h1
      obtain ⟨kv, c2, hk⟩ := hS.kep i h1
      obtain ⟨q, cq, rfl⟩ := hk.form
      have v1 : IntKind.i64.wrap ((i : Int) + 1) = (i : Int) + 1 := IntWalk.i64_in _ (by omega)
      by_cases hs : 2500 < L[i].s.size
      · have hs1 : (2500 : Int) < (L[i].s.size : Int) := by omega
        obtain ⟨x, hx⟩ : ∃ x, x = L[i].s := ⟨_, rfl⟩
        rw [← hx] at c1 hs1
        clear hS hk hx hs c2
        go_wp2_with fail
        go_ret
        exact NO.out
      · have hs1 : ¬ (2500 : Int) < (L[i].s.size : Int) := by omega
        by_cases hl : 60 < L[i].l.length
        · have hl1 : (60 : Int) < (L[i].l.length : Int) := by omega
          obtain ⟨x, hx⟩ : ∃ x, x = L[i].s := ⟨_, rfl⟩
          obtain ⟨z, hz⟩ : ∃ z, z = L[i].l.length := ⟨_, rfl⟩
          rw [← hx] at c1 hs1
          rw [← hz] at c2 hl1
          clear hS hk hx hz hs hl
          go_wp2_with fail
          go_ret
          exact NO.out
        · have hl1 : ¬ (60 : Int) < (L[i].l.length : Int) := by omega
          have HN : Hid (L[i].s.size ≤ 2500 ∧ L[i].l.length ≤ 60) := by show _ ∧ _; omega
          obtain ⟨x, hx⟩ : ∃ x, x = L[i].s := ⟨_, rfl⟩
          obtain ⟨z, hz⟩ : ∃ z, z = L[i].l.length := ⟨_, rfl⟩
          rw [← hx] at c1 hs1
          rw [← hz] at c2 hl1
          clear hS hk hx hz hs hl
          go_wp2_with fail
          go_round
          case rel =>
            refine ⟨i + 1, _, by omega, rfl, by go_num, fun j h hj => ?_⟩
            by_cases hji : j < i
            · exact HP.out j h hji
            · obtain rfl : j = i := by omega
              exact HN.out
          case measure => simp [intOf]; omega
    · have hi1 : ¬ (i : Int) < (n : Int) := by omega
      by_cases h60 : (n : Int) ≤ 60
      · have YES : Hid (∀ b, FairW L w (.returned (.bool b)) w) := fun b => ⟨rfl, b, rfl, fun _ => ⟨by have := Hn.out; omega, fun x hx => by
          obtain ⟨j, hj, rfl⟩ := List.mem_iff_getElem.1 hx
          exact HP.out j hj (by have := Hn.out; omega)⟩⟩
        go_wp2_with fail
        go_ret
        exact YES.out _
      · have d60 : decide ((n : Int) ≤ 60) = false := decide_eq_false h60
        go_wp2_with fail
        go_ret
        exact NO.out
theorem may_zero {x : Wl} {lg : Nat} {s : ByteArray} (h : x.may lg s = 0) : s.size ≤ 2000 ∧ x.used + szN s.size ≤ lg ∧ x.next ≤ 2147483648 := by
  unfold Wl.may at h
  split at h
  · exact absurd h (by decide)
  · split at h
    · exact absurd h (by decide)
    · rename_i hs
      split at h
      · exact absurd h (by decide)
      · rename_i hf
        rw [sizeF_nat (by omega)] at hf
        refine ⟨by omega, ?_, ?_⟩ <;> omega
/-- Behind a phase's crash: what is opened by the number 1, and the new phase. -/
theorem PhW.again {N : Int} {lg u sr : Nat} {A : List ByteArray} {q : Int} {X : List ByteArray} {d : Dk} (h : PhW N lg A q u sr X d) (hq : q + X.length ≤ 256) (l : List (Int × Int)) :
    ∃ (R : List ByteArray) (q' : Int) (u' : Nat), (d.crash l).start.openW 1 = (some ⟨R, q' + (([] : List ByteArray).length : Int), u' + (layR (numW q' ([] : List ByteArray))).length, false⟩, 0) ∧ 1 ≤ q' ∧ q' ≤ q + X.length ∧ PhW N lg (d.crash l).start.secs q' u' 0 [] (d.crash l).start ∧ ∀ i, i < lg → numF ((d.crash l).start.tell (2 + (i : Int))).data.toList < q' := by
  have hq0 := h.q0
  have cT := calm_crashed h.calm l
  have hl : (d.crash l).start.secs.length = lg := by rw [secs_length, logs_of cT.n h.n32 h.n40 h.nl]
  have hA := (h.round hq l).area
  have h1 := nextW_ge (d.crash l).start.secs 1
  have h2 : nextW 1 (d.crash l).start.secs ≤ q + X.length := nextW_le (by omega) _ _ (by omega) hA.lo
  have hA2 : AreaW (d.crash l).start.secs (nextW 1 (d.crash l).start.secs) := ⟨hA.sz, fun b hb => by
    have h3 := hA.lo b hb
    have h4 := nextW_mem (d.crash l).start.secs 1 b hb
    exact ⟨h4.1 (by omega), h4.2 (by omega)⟩⟩
  have hsc := scanW_le (L := (d.crash l).start.secs) lg 1 0 (Nat.zero_le _)
  refine ⟨(scanW (d.crash l).start.secs lg 1 0).1, nextW 1 (d.crash l).start.secs, (scanW (d.crash l).start.secs lg 1 0).2, ?_, h1, h2, PhW.start cT h.n32 h.n40 h.nl hA2 (by omega) (by have := hsc.1; omega) (crashed_at h.calm.dead l), fun i hi => ?_⟩
  · rw [openW_calm cT h.n32 h.n40 h.nl (by decide) (by omega)]
    simp [layR, numW]
  · have hb : (d.crash l).start.tell (2 + (i : Int)) ∈ (d.crash l).start.secs := by
      rw [← secs_get _ i (by rw [hl]; exact hi)]; exact List.getElem_mem _
    exact numF_lt (by omega) (hA2.lo _ hb).1
end Go.Proofs.YtdbiebnnogjccaaGreatDoor

/- What the condition on errors.errorType gives a walk; a world that meets it. After the kit's worked text Toyas. -/
namespace Go.Proofs.YtdbiebnnogjccaaGreatDoor
open Go.ChangeShapes Go.WideShapes Go.RowKit

theorem sown : ownKnob Tryz.prog.godebug = none := by kernel_rfl
theorem set_glob : Tryz.prog.globalNamed "errors.errorType" = some 13 := by kernel_rfl
theorem set_rt : (Tryz.prog.cutTypes.find? (·.1 == "internal/reflectlite.rtype")).map (·.2) = some 238 := by kernel_rfl
theorem set_oneRow : ((List.range 337).filter fun t => Tryz.prog.rowNamed t [101, 114, 114, 111, 114]) = [122] := by kernel_rfl
theorem set_size : Tryz.prog.types.size = 337 := by kernel_rfl

def laidE {H : Type} : List (String × DataW H) := [("errors.errorType", Rows.laid_errors_errorType)]
/-- The variable's one cell. -/
theorem et_of_laid {W : World} (h : laidMetH Tryz.prog [("errors.errorType", Rows.laid_errors_errorType)] W) : EtIs W := by
  have h' : laidMet Tryz.prog [] W ∧ handlesMet Tryz.prog [("errors.errorType", Rows.laid_errors_errorType)] W := h
  obtain ⟨name, u, ty, e1, e2, e3, e4, e5⟩ := h'.2 _ (List.mem_singleton.2 rfl)
  have en : name = [101, 114, 114, 111, 114] := (Option.some.inj e1).symm
  subst en
  obtain rfl := Option.some.inj (set_rt.symm.trans e2)
  have hm : ty ∈ (List.range 337).filter fun t => Tryz.prog.rowNamed t [101, 114, 114, 111, 114] := List.mem_filter.2 ⟨List.mem_range.2 (by rw [← set_size]; exact e3), e4⟩
  rw [set_oneRow] at hm
  obtain rfl := List.mem_singleton.1 hm
  have hh : typeHandle Tryz.prog 122 = .pointer (some ⟨18, 122, none⟩) := by kernel_rfl
  rw [hh] at e5
  unfold EtIs
  simpa using World.var?_cell set_glob e5 0

/-- A world that meets the condition: the settled one, the variable's cell laid. -/
noncomputable def laidWorldE (os : Os) : World :=
  let w0 := World.holding Tryz.prog os ⟨#[], #[], []⟩
  { w0 with heap := w0.heap.modify 13 fun
      | .cells _ t frozen => .cells #[.iface 238 (.agg #[.pointer (some ⟨18, 122, none⟩)])] t frozen
      | o => o }
theorem laidWorldE_met (os : Os) (args : Array Value) : laidMetH Tryz.prog [("errors.errorType", Rows.laid_errors_errorType)] ((laidWorldE os).forCall (fun _ _ => 0) ⟨#[], args, []⟩).memory :=
  laidMetH_of_parts (laidMet_nil _ _) (by kernel_rfl)
end Go.Proofs.YtdbiebnnogjccaaGreatDoor

/- How an argument of the type [2]uint64 is opened. -/
namespace Go.Proofs.YtdbiebnnogjccaaGreatDoor
open Go.ChangeShapes Go.WideShapes Go.RowKit
theorem laidOutB_ok : laidOutB Tryz.prog = true := by kernel_rfl
theorem arr2_under : Tryz.prog.underlying 117 = some (.array 2 114) := by kernel_rfl
theorem arr2_cells : Tryz.prog.cellsOf 117 = 2 := by kernel_rfl
theorem u64_cells : Tryz.prog.cellsOf 114 = 1 := by kernel_rfl
theorem u64_bd {x : Int} (h : (Lit.int .u64 x).wf = true) : 0 ≤ x ∧ x < 18446744073709551616 := by
  simp [Lit.wf, IntKind.min, IntKind.max, IntKind.signed, IntKind.bits] at h; omega
section
variable {H : Type} {enc : TypeId × Value → H} {W : World} {base : Nat} {sp : Nat → Bool} {held : Bool}
set_option maxRecDepth 100000 in
theorem open_a2u64 {r : Reach} {b0 : Nat} {v : Value} {d : DataW H} {p : List MemPlace} (hv : Value.okWide Tryz.prog W r b0 117 v) (h : DataW.Trod enc Tryz.prog W base sp held 117 v d p) :
    ∃ x y : Int, v = .agg #[.int .u64 x, .int .u64 y] ∧ (Lit.int .u64 x).wf = true ∧ (Lit.int .u64 y).wf = true := by
  unfold Value.okWide at hv
  rw [arr2_under] at hv
  obtain ⟨cs, rfl, hsz, _⟩ := hv
  rw [arr2_cells] at hsz
  obtain ⟨c0, c1, rfl⟩ : ∃ c0 c1, cs = #[c0, c1] := by
    obtain ⟨l⟩ := cs
    match l, hsz with
    | [c0, c1], _ => exact ⟨c0, c1, rfl⟩
  obtain ⟨fuel, hf⟩ := h
  obtain ⟨xs, m, _, _, _, hl, hi⟩ := DataW.trod_array arr2_under hf
  have h0 := hi 0 (by decide)
  have h1 := hi 1 (by decide)
  rw [u64_cells] at h0 h1
  simp only [Value.cells, Nat.zero_mul, Nat.one_mul, List.drop_zero, List.take_succ_cons, List.take_zero, List.drop_succ_cons] at h0 h1
  rw [List.getElem?_eq_getElem (by omega)] at h0 h1
  obtain ⟨x, e0, _, wx⟩ := DataW.trod_int Tryz.underlying114 h0
  obtain ⟨y, e1, _, wy⟩ := DataW.trod_int Tryz.underlying114 h1
  simp at e0 e1
  exact ⟨x, y, by rw [e0, e1], wx, wy⟩
end
end Go.Proofs.YtdbiebnnogjccaaGreatDoor

/- How an argument of the type []string is opened. -/
namespace Go.Proofs.YtdbiebnnogjccaaGreatDoor
open Go.ChangeShapes Go.WideShapes Go.RowKit
section
variable {H : Type} {enc : TypeId × Value → H} {W : World} {base : Nat} {sp : Nat → Bool} {held : Bool}
set_option maxRecDepth 100000 in
theorem open_strs {r : Reach} {b0 : Nat} {c : Value} {d : DataW H} {p : List MemPlace} (hv : Value.okWide Tryz.prog W r b0 34 c) (h : DataW.Trod enc Tryz.prog W base sp held 34 c d p) :
    ∃ L : List ByteArray, SlStrs W c L ∧ L.length ≤ 9223372036854775807 ∧ ∀ x ∈ L, x.size ≤ 9223372036854775807 := by
  unfold Value.okWide at hv
  rw [Tryz.underlying34] at hv
  obtain ⟨fuel, h⟩ := h
  have e0 : c.cells.toList = [c] := by
    cases c with
    | agg cs => simp [Cell.okWide, Cell.ok, Tryz.underlying34] at hv
    | _ => rfl
  rw [e0] at h
  rcases DataW.trod_slice Tryz.underlying34 h with ⟨e1, _⟩ | ⟨a, len, cap, elems, rest, n, _, e1, _, _, hl, hm, hlen, hel, _, _⟩
  · have e1 : c = .slice none 0 0 := by simpa using e1
    exact ⟨[], .inl ⟨e1, rfl⟩, Nat.zero_le _, fun x hx => absurd hx (by simp)⟩
  · have e1 : c = .slice (some a) len cap := by simpa using e1
    subst e1
    have hs : a.spot = none := by
      have h' : Cell.ok Tryz.prog W r b0 34 (.slice (some a) len cap) := by
        have hv : Cell.okWide Tryz.prog W r b0 34 (.slice (some a) len cap) := hv
        unfold Cell.okWide at hv; rw [Tryz.underlying34] at hv; exact hv
      unfold Cell.ok at h'
      rw [Tryz.underlying34] at h'
      obtain ⟨_, _, _, hs, _⟩ := h'
      exact hs
    have each : ∀ i, i < len → ∃ x : ByteArray, W.cell? ⟨a.block, a.off + i, none⟩ = some (.string x) ∧ x.size ≤ 9223372036854775807 := by
      intro i hi
      have hx := hel i hi
      rw [List.getElem?_eq_getElem (by omega), od_str, Option.bind_eq_some_iff] at hx
      obtain ⟨cs, h1, h2⟩ := hx
      obtain ⟨_, hlen2, hcell⟩ := World.cells?_some h1
      match cs, hlen2 with
      | [d0], _ =>
        obtain ⟨x, e0, _, hs2⟩ := DataW.trod_string Tryz.underlying9 h2
        simp at e0
        subst e0
        have k0 := hcell 0 (by decide)
        rw [od_form hs, od_add, od_add] at k0
        exact ⟨x, by simpa using k0, hs2⟩
    obtain ⟨f, hf⟩ := Go.Deep.choose_lt each
    have hll : ((List.range len).map f).length = len := by simp
    have hget : ∀ i (h : i < ((List.range len).map f).length), ((List.range len).map f)[i] = f i := fun i h => by simp
    rw [od_form hs]
    refine ⟨(List.range len).map f, .inr ⟨a.block, a.off, cap, by rw [hll], by rw [hll]; exact hl, ⟨fun hne => ?_, fun i hi => ?_⟩⟩, by rw [hll]; have := hm; simp only [maxLen] at this; omega, fun x hx => ?_⟩
    · have h0 : 0 < len := by
        rcases Nat.eq_zero_or_pos len with h | h
        · subst h; simp at hne
        · exact h
      exact World.block_lt_of_cell? W ⟨a.block, a.off + 0, none⟩ (hf 0 h0).1
    · rw [hget]; exact (hf i (by omega)).1
    · obtain ⟨i, hi, rfl⟩ := List.mem_map.1 hx
      exact (hf i (List.mem_range.1 hi)).2
end
end Go.Proofs.YtdbiebnnogjccaaGreatDoor
