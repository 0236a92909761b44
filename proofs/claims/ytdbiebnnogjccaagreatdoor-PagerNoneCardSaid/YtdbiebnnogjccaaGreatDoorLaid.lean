/- Pages (layer 22): steps in memory; fair. -/
import Derived.Test.YtdbiebnnogjccaaGreatDoorGo
import Derived.Test.YtdbiebnnogjccaaGreatDoorRows
import Derived.Test.YtdbiebnnogjccaaGreatDoorPkc
import Derived.ChangeSame
import Derived.ChangeVars
import Derived.JoinedOf
import Derived.RowKit
import Derived.RowKitTokens
import Derived.LaidLaws
import Derived.LaidHandle
import Derived.Stop.Joined
namespace Go.Proofs.YtdbiebnnogjccaaGreatDoor
open Go.RowKit
/-- A row of numbers; an empty one may lie anywhere. -/
def SlIw (w : World) (v : Value) (l : List Int) : Prop := (l = [] ∧ ∃ p c, v = .slice p 0 c) ∨ ∃ b off cap, v = .slice (some ⟨b, off, none⟩) l.length cap ∧ l.length ≤ cap ∧ IlAt w b off l
theorem SlIl.w {w : World} {v : Value} {l : List Int} (h : SlIl w v l) : SlIw w v l := h.imp (fun ⟨a, b⟩ => ⟨b, none, 0, a⟩) id
theorem SlIw.below {w w' : World} {v : Value} {l : List Int} (h : SlIw w v l) (hb : Below w.heap.size w w') : SlIw w' v l := h.imp id (fun ⟨b, off, c, e, k, h⟩ => ⟨b, off, c, e, k, h.below hb⟩)
theorem SlIw.form {w : World} {v : Value} {l : List Int} (h : SlIw w v l) : ∃ p c, v = .slice p l.length c := by
  rcases h with ⟨rfl, p, c, e⟩ | ⟨b, off, c, e, _, _⟩
  · exact ⟨p, c, e⟩
  · exact ⟨_, c, e⟩
theorem SlIw.atN {w : World} {p : Option Addr} {n c k : Nat} {l : List Int} (hn : n = l.length) (h : SlIw w (.slice p n c) l) (hk : k < l.length) : ∃ b off, p = some ⟨b, off, none⟩ ∧ IlAt w b off l := by
  rcases h with ⟨rfl, _⟩ | ⟨b, off, cap, e, _, h⟩
  · exact absurd hk (by simp)
  · injection e with e _ _; exact ⟨b, off, e, h⟩
/-- A step: kind, page, number, text, pages. -/
structure Stg where
  k : Int
  n : Int
  num : Int
  s : ByteArray
  l : List Int
structure StgsAt (w : World) (b off : Nat) (L : List Stg) : Prop where
  lt : L ≠ [] → b < w.heap.size
  kind : ∀ i (h : i < L.length), w.cell? ⟨b, off + i * 5, none⟩ = some (.int .i64 L[i].k)
  page : ∀ i (h : i < L.length), w.cell? ⟨b, off + i * 5 + 1, none⟩ = some (.int .i64 L[i].n)
  num : ∀ i (h : i < L.length), w.cell? ⟨b, off + i * 5 + 2, none⟩ = some (.int .u32 L[i].num)
  str : ∀ i (h : i < L.length), w.cell? ⟨b, off + i * 5 + 3, none⟩ = some (.string L[i].s)
  lst : ∀ i (h : i < L.length), ∃ v, w.cell? ⟨b, off + i * 5 + 4, none⟩ = some v ∧ SlIw w v L[i].l
theorem StgsAt.below {w w' : World} {b off : Nat} {L : List Stg} (h : StgsAt w b off L) (hb : Below w.heap.size w w') : StgsAt w' b off L :=
  ⟨fun hl => Nat.lt_of_lt_of_le (h.lt hl) hb.size, fun i hi => dk_cell (h.kind i hi) hb, fun i hi => dk_cell (h.page i hi) hb, fun i hi => dk_cell (h.num i hi) hb, fun i hi => dk_cell (h.str i hi) hb, fun i hi => by obtain ⟨v, h1, h2⟩ := h.lst i hi; exact ⟨v, dk_cell h1 hb, h2.below hb⟩⟩
def SlStgs (w : World) (v : Value) (L : List Stg) : Prop := (v = .slice none 0 0 ∧ L = []) ∨ ∃ b off cap, v = .slice (some ⟨b, off, none⟩) L.length cap ∧ L.length ≤ cap ∧ StgsAt w b off L
theorem SlStgs.below {w w' : World} {v : Value} {L : List Stg} (h : SlStgs w v L) (hb : Below w.heap.size w w') : SlStgs w' v L := h.imp id (fun ⟨b, off, c, e, k, h⟩ => ⟨b, off, c, e, k, h.below hb⟩)
theorem SlStgs.form {w : World} {v : Value} {L : List Stg} (h : SlStgs w v L) : ∃ p c, v = .slice p L.length c ∧ L.length ≤ c := by
  rcases h with ⟨h, e⟩ | ⟨b, off, cap, e, hc, h⟩
  · subst e; exact ⟨none, 0, h, Nat.le_refl _⟩
  · exact ⟨_, _, e, hc⟩
theorem SlStgs.atN {w : World} {p : Option Addr} {n c k : Nat} {L : List Stg} (hn : n = L.length) (h : SlStgs w (.slice p n c) L) (hk : k < L.length) : ∃ b off, p = some ⟨b, off, none⟩ ∧ StgsAt w b off L := by
  rcases h with ⟨_, e⟩ | ⟨b, off, cap, e, _, h⟩
  · rw [e] at hk; exact absurd hk (by simp)
  · injection e with e _ _; exact ⟨b, off, e, h⟩
/-- fair. -/
def FairG (L : List Stg) (w : World) (e : Ending) (w' : World) : Prop := w = w' ∧ ∃ b : Bool, e = .returned (.bool b) ∧ (b = true → L.length ≤ 120 ∧ ∀ x ∈ L, x.s.size ≤ 1000 ∧ x.l.length ≤ 100)
set_option maxRecDepth 20000 in
set_option maxHeartbeats 4000000 in
theorem law22_fair (v : Value) (L : List Stg) (hL : L.length ≤ 9223372036854775807) (w : World) (hv : SlStgs w v L) :
    Calls Tryz.prog 39 #[v] w (FairG L w) := by
  obtain ⟨p, cp, rfl, hcp⟩ := hv.form
  have HV := Lib.hid hv
  have NO : Hid (FairG L w (.returned (.bool false)) w) := ⟨rfl, false, rfl, fun h => by cases h⟩
  obtain ⟨m, hm⟩ : ∃ m, m = L.length := ⟨_, rfl⟩
  rw [← hm] at HV hL ⊢
  have HM := Lib.hid hm
  clear hv hm hcp
  go_enter Tryz.func39, Tryz.ntmps39
  go_wp2_with fail
  go_loop [3] (fun c => ∃ i : Nat, i ≤ m ∧ c = .int .i64 i ∧ ∀ j (h : j < L.length), j < i → L[j].s.size ≤ 1000 ∧ L[j].l.length ≤ 100) (fun c => m - (intOf c).toNat)
  case atStart => exact ⟨0, Nat.zero_le _, rfl, fun j _ h => absurd h (by omega)⟩
  case round =>
    obtain ⟨i, hik, rfl, hp⟩ := hrel
    have HP := Lib.hid hp
    clear hp
    by_cases hlt : i < m
    · have hi : (i : Int) < (m : Int) := by omega
      have hi0 : (0 : Int) ≤ (i : Int) := by omega
      have v1 : IntKind.i64.wrap ((i : Int) + 1) = (i : Int) + 1 := IntWalk.i64_in _ (by omega)
      have hl : i < L.length := by rw [← HM.out]; exact hlt
      obtain ⟨b, off, rfl, hS⟩ := SlStgs.atN HM.out HV.out hl
      have c3 := hS.str i hl
      obtain ⟨lv, c4, hw⟩ := hS.lst i hl
      obtain ⟨pl, cl, rfl⟩ := hw.form
      obtain ⟨x, hx⟩ : ∃ x, x = L[i] := ⟨_, rfl⟩
      have HX := Lib.hid hx
      rw [← hx] at c3 c4
      obtain ⟨xk, xn, xm, xs, xl⟩ := x
      dsimp only at c3 c4
      clear hS hw hx
      by_cases h1 : xs.size ≤ 1000
      · have g1 : ¬ (1000 : Int) < (xs.size : Int) := by omega
        by_cases h2 : xl.length ≤ 100
        · have g2 : ¬ (100 : Int) < (xl.length : Int) := by omega
          go_wp2_with fail
          go_round
          case rel =>
            refine ⟨i + 1, by omega, by go_num, fun j hj hji => ?_⟩
            by_cases e : j = i
            · subst e; rw [← HX.out]; exact ⟨h1, h2⟩
            · exact HP.out j hj (by omega)
          case measure => simp [intOf]; omega
        · have g2 : (100 : Int) < (xl.length : Int) := by omega
          go_wp2_with fail
          go_ret
          exact NO.out
      · have g1 : (1000 : Int) < (xs.size : Int) := by omega
        go_wp2_with fail
        go_ret
        exact NO.out
    · have hi : ¬ (i : Int) < (m : Int) := by omega
      by_cases h3 : m ≤ 120
      · have g3 : (m : Int) ≤ 120 := by omega
        have FIN : Hid (FairG L w (.returned (.bool true)) w) := ⟨rfl, true, rfl, fun _ => ⟨by have := HM.out; omega, fun x hx => by
          obtain ⟨j, hj, rfl⟩ := List.getElem_of_mem hx
          exact HP.out j hj (by have := HM.out; omega)⟩⟩
        go_wp2_with fail
        go_ret
        exact FIN.out
      · have g3 : ¬ (m : Int) ≤ 120 := by omega
        go_wp2_with fail
        go_ret
        exact NO.out
end Go.Proofs.YtdbiebnnogjccaaGreatDoor

/- Pages (layer 22): PagerNone. -/
namespace Go.Proofs.YtdbiebnnogjccaaGreatDoor
open Go.RowKit
theorem SlStgs.one {w : World} {b : Nat} {t : TypeId} {x : Stg} {v : Value} (h : w.heap[b]? = some (.cells #[.int .i64 x.k, .int .i64 x.n, .int .u32 x.num, .string x.s, v] t (0, 0))) (hv : SlIw w v x.l) : SlStgs w (.slice (some ⟨b, 0, none⟩) 1 1) [x] := by
  refine .inr ⟨b, 0, 1, rfl, Nat.le_refl _, ⟨fun _ => blk_lt h, fun i hi => ?_, fun i hi => ?_, fun i hi => ?_, fun i hi => ?_, fun i hi => ?_⟩⟩ <;> (have h0 : i = 0 := by simpa using hi)
  all_goals subst h0
  · rw [blk_cell h]; rfl
  · rw [blk_cell h]; rfl
  · rw [blk_cell h]; rfl
  · rw [blk_cell h]; rfl
  · exact ⟨v, by rw [blk_cell h]; rfl, hv⟩
set_option maxRecDepth 100000 in
set_option maxHeartbeats 4000000 in
theorem law22_PagerNone (x : Stg) (v : Value) (w : World) (hv : SlIw w v x.l) (hw : PgW w) :
    Calls Tryz.prog 6 #[.agg #[.int .i64 x.k, .int .i64 x.n, .int .u32 x.num, .string x.s, v]] w fun e w' => e = .returned (.bool true) ∧ Below w.heap.size w w' := by
  have HW := Lib.hid hw
  have WK := Lib.hid (fun W h => wakes22 W h)
  obtain ⟨p, c, rfl⟩ := hv.form
  have HV := Lib.hid hv
  clear hw hv
  obtain ⟨w1, hw1⟩ : ∃ w1, w1 = w.alloc (.cells #[.int .i64 x.k, .int .i64 x.n, .int .u32 x.num, .string x.s, .slice p x.l.length c] 76) := ⟨_, rfl⟩
  have B1 : Hid (Below w.heap.size w w1) := by show Below _ _ _; rw [hw1]; exact below_alloc1 _ _
  have b1 : Hid (w1.heap[w.heap.size]? = some (.cells #[.int .i64 x.k, .int .i64 x.n, .int .u32 x.num, .string x.s, .slice p x.l.length c] 76 (0, 0))) := by show _ = _; rw [hw1]; exact blk_new _ _
  obtain ⟨w2, hw2⟩ : ∃ w2, w2 = w1.alloc (.cells #[.int .i64 x.k, .int .i64 x.n, .int .u32 x.num, .string x.s, .slice p x.l.length c] 76) := ⟨_, rfl⟩
  have B2 : Hid (Below w1.heap.size w1 w2) := by show Below _ _ _; rw [hw2]; exact below_alloc1 _ _
  have b2 : Hid (w2.heap[w1.heap.size]? = some (.cells #[.int .i64 x.k, .int .i64 x.n, .int .u32 x.num, .string x.s, .slice p x.l.length c] 76 (0, 0))) := by show _ = _; rw [hw2]; exact blk_new _ _
  have FR := Lib.hid (law22_fair _ [x] (by simp) w2 (SlStgs.one b2.out (HV.out.below (bstep B1.out B2.out))))
  go_enter Tryz.func6, Tryz.ntmps6
  go_upto_region 1 with (fail)
  rw [← hw1]
  have hc := blk_cell b1.out
  clear hw1
  go_wp2_with fail
  rw [← hw2]
  clear hw2 hc
  refine FR.out.mono ?_; rintro e w3 ⟨rfl, b, rfl, -⟩
  have BB := Lib.hid (bstep B1.out B2.out)
  have bx := Lib.hid (blk_below b1.out B2.out)
  cases b with
  | false =>
    go_wp2_with fail
    refine (WK.out _ (HW.out.below BB.out)).mono ?_; rintro e y ⟨rfl, hby⟩
    have By := Lib.hid (bstep BB.out hby)
    clear hby
    go_wp2_with fail
    go_ret
    exact ⟨rfl, By.out⟩
  | true =>
    have hc := blk_cell bx.out
    go_wp2_with fail
    refine (pnil_Take _).mono ?_; rintro e y ⟨rfl, rfl⟩
    go_wp2_with fail
    refine (pnil_Read _ _ (HW.out.below BB.out)).mono ?_; rintro e y1 ⟨rfl, hb⟩
    have B3 := Lib.hid (bstep BB.out hb)
    have bx3 := Lib.hid (blk_below bx.out hb)
    clear hc hb
    have hc := blk_cell bx3.out
    go_wp2_with fail
    refine (pager_New_nil _ _).mono ?_; rintro e y ⟨rfl, rfl⟩
    go_wp2_with fail
    refine (pnil_Drop _).mono ?_; rintro e y ⟨rfl, rfl⟩
    go_wp2_with fail
    refine (pnil_Give _ _).mono ?_; rintro e y ⟨rfl, rfl⟩
    go_wp2_with fail
    refine (pnil_Write _ _ _ _ (HW.out.below B3.out)).mono ?_; rintro e y2 ⟨rfl, hb⟩
    have B4 := Lib.hid (bstep B3.out hb)
    have bx4 := Lib.hid (blk_below bx3.out hb)
    clear hc hb
    have hc := blk_cell bx4.out
    go_wp2_with fail
    refine (pnil_Keep _ _).mono ?_; rintro e y3 ⟨rfl, hb⟩
    have B5 := Lib.hid (bstep B4.out hb)
    clear hc hb
    go_wp2_with fail
    refine (pnil_Live _).mono ?_; rintro e y ⟨rfl, rfl⟩
    go_wp2_with fail
    refine (pnil_Fresh _).mono ?_; rintro e y ⟨rfl, rfl⟩
    go_wp2_with fail
    refine (pnil_Left _).mono ?_; rintro e y ⟨rfl, rfl⟩
    go_wp2_with fail
    refine (WK.out _ (HW.out.below B5.out)).mono ?_; rintro e y ⟨rfl, hby⟩
    have By := Lib.hid (bstep B5.out hby)
    clear hby
    go_wp2_with fail
    go_ret
    exact ⟨rfl, By.out⟩
end Go.Proofs.YtdbiebnnogjccaaGreatDoor

/- What the condition on errors.errorType gives a walk; a world that meets it. After the kit's worked text Toyas. -/
namespace Go.Proofs.YtdbiebnnogjccaaGreatDoor
open Go.ChangeShapes Go.WideShapes Go.RowKit

theorem sown : ownKnob Tryz.prog.godebug = none := by kernel_rfl
theorem set_glob : Tryz.prog.globalNamed "errors.errorType" = some 13 := by kernel_rfl
theorem set_rt : (Tryz.prog.cutTypes.find? (·.1 == "internal/reflectlite.rtype")).map (·.2) = some 238 := by kernel_rfl
theorem set_oneRow : ((List.range 337).filter fun t => Tryz.prog.rowNamed t [101, 114, 114, 111, 114]) = [122] := by kernel_rfl
theorem set_size : Tryz.prog.types.size = 337 := by kernel_rfl

def laidE {H : Type} : List (String × DataW H) := [("errors.errorType", Rows.laid_errors_errorType)]
/-- The variable's one cell. -/
theorem et_of_laid {W : World} (h : laidMetH Tryz.prog [("errors.errorType", Rows.laid_errors_errorType)] W) : EtIs W := by
  have h' : laidMet Tryz.prog [] W ∧ handlesMet Tryz.prog [("errors.errorType", Rows.laid_errors_errorType)] W := h
  obtain ⟨name, u, ty, e1, e2, e3, e4, e5⟩ := h'.2 _ (List.mem_singleton.2 rfl)
  have en : name = [101, 114, 114, 111, 114] := (Option.some.inj e1).symm
  subst en
  obtain rfl := Option.some.inj (set_rt.symm.trans e2)
  have hm : ty ∈ (List.range 337).filter fun t => Tryz.prog.rowNamed t [101, 114, 114, 111, 114] := List.mem_filter.2 ⟨List.mem_range.2 (by rw [← set_size]; exact e3), e4⟩
  rw [set_oneRow] at hm
  obtain rfl := List.mem_singleton.1 hm
  have hh : typeHandle Tryz.prog 122 = .pointer (some ⟨18, 122, none⟩) := by kernel_rfl
  rw [hh] at e5
  unfold EtIs
  simpa using World.var?_cell set_glob e5 0

/-- A world that meets the condition: the settled one, the variable's cell laid. -/
noncomputable def laidWorldE (os : Os) : World :=
  let w0 := World.holding Tryz.prog os ⟨#[], #[], []⟩
  { w0 with heap := w0.heap.modify 13 fun
      | .cells _ t frozen => .cells #[.iface 238 (.agg #[.pointer (some ⟨18, 122, none⟩)])] t frozen
      | o => o }
theorem laidWorldE_met (os : Os) (args : Array Value) : laidMetH Tryz.prog [("errors.errorType", Rows.laid_errors_errorType)] ((laidWorldE os).forCall (fun _ _ => 0) ⟨#[], args, []⟩).memory :=
  laidMetH_of_parts (laidMet_nil _ _) (by kernel_rfl)
end Go.Proofs.YtdbiebnnogjccaaGreatDoor
