/- The walks of package pack. -/
import Derived.Test.YtdbiebnnogjccaaGreatDoorAs
import Derived.Test.YtdbiebnnogjccaaGreatDoorPuB
import Derived.Deep.QuietTactic
import Derived.BigQuiet
import Derived.Lib.Hide
import Derived.Lib.ConvBytes
namespace Go.Proofs.YtdbiebnnogjccaaGreatDoor
open Go.RowKit

/-- errors.errorType as the program lays it. -/
def EtIs (w : World) : Prop := w.cell? ⟨13, 0, none⟩ = some (.iface 238 (.agg #[.pointer (some ⟨18, 122, none⟩)]))
theorem EtIs.lt {w : World} (h : EtIs w) : 13 < w.heap.size := by
  rcases Nat.lt_or_ge 13 w.heap.size with h' | h'
  · exact h'
  · unfold EtIs at h; simp [World.cell?, Array.getElem?_eq_none h'] at h
theorem EtIs.below {w w' : World} (h : EtIs w) (hb : Below w.heap.size w w') : EtIs w' := by
  unfold EtIs; rw [hb.cell (p := ⟨13, 0, none⟩) h.lt]; exact h
theorem EtIs.alloc {w : World} (h : EtIs w) (o : Obj) : EtIs (w.alloc o) := h.below ((Below.refl _ _).alloc (Nat.le_refl _) _)

theorem pack_size (n : Int) (w : World) : Calls Tryz.prog 191 #[.int .i64 n] w fun e w' => e = .returned (.bool (sizeB n)) ∧ w = w' := by
  go_enter Tryz.func191, Tryz.ntmps191
  go_wp2
  all_goals (go_ret; exact ⟨by simp [sizeB, *], rfl⟩)
theorem pack_fail (n c : Int) (w : World) : Calls Tryz.prog 192 #[.int .i64 n, .int .i64 c] w fun e w' => e = .returned (.iface 276 (.pointer (some ⟨w.heap.size, 0, none⟩))) ∧ w.alloc (.cells #[.int .i64 n, .int .i64 c] 279) = w' := by
  go_enter Tryz.func192, Tryz.ntmps192
  go_wp2
  go_ret
  exact ⟨rfl, rfl⟩
theorem told_nil (w : World) : Calls Tryz.prog 168 #[.nilIface] w fun e w' => e = .returned (.int .i64 0) ∧ Below w.heap.size w w' := by
  go_enter Tryz.func168, Tryz.ntmps168
  go_wp2_with (go_at_call 137; refine (as_nil _ _).mono ?_; rintro e w' ⟨rfl, rfl⟩)
  go_ret
  exact ⟨rfl, (Below.refl _ _).alloc (Nat.le_refl _) _⟩
/-- What errors.As does to a fresh variable: it is set; all that was there ahead of it stays. -/
theorem pkw_as_fresh (e : Addr) (w : World) (he : EtIs w) :
    Calls Tryz.prog 137 #[.iface 276 (.pointer (some e)), .iface 277 (.pointer (some ⟨w.heap.size, 0, none⟩))] (w.alloc (.cells #[.pointer none] 276)) fun ev w' =>
      ev = .returned (.bool true) ∧ Below w.heap.size w w' ∧ w'.cell? ⟨w.heap.size, 0, none⟩ = some (.pointer (some e)) := by
  have hg1 := he.alloc (.cells #[.pointer none] 276)
  unfold EtIs at hg1
  refine (pkw_as_hit e ⟨w.heap.size, 0, none⟩ (.pointer none) _ hg1 (by simp) (by simp)).mono ?_
  rintro ev w' ⟨rfl, rfl⟩
  refine ⟨rfl, ?_, ?_⟩
  · exact (((((Below.refl _ _).alloc (Nat.le_refl _) _).alloc (by simp) _).alloc (by simp; omega) _).alloc (by simp; omega) _).alloc (by simp; omega) _ |>.setCell (by simp) _
  · simp [go_sem]
set_option maxHeartbeats 1000000 in
theorem told_hit (b : Nat) (c : Int) (w : World) (he : EtIs w) (hb : b < w.heap.size) (hc : w.cell? ⟨b, 1, none⟩ = some (.int .i64 c)) :
    Calls Tryz.prog 168 #[.iface 276 (.pointer (some ⟨b, 0, none⟩))] w fun e w' => e = .returned (.int .i64 c) ∧ Below w.heap.size w w' := by
  have H := Lib.hid ((pkw_as_fresh ⟨b, 0, none⟩ w he).mono (R' := fun ev w' => ev = .returned (.bool true) ∧ Below w.heap.size w w' ∧ w'.cell? ⟨w.heap.size, 0, none⟩ = some (.pointer (some ⟨b, 0, none⟩)) ∧ w'.cell? ⟨b, 1, none⟩ = some (.int .i64 c))
    (fun ev w' ⟨h1, h2, h3⟩ => ⟨h1, h2, h3, by rw [h2.cell (p := ⟨b, 1, none⟩) hb]; exact hc⟩))
  clear hc he hb
  go_enter Tryz.func168, Tryz.ntmps168
  go_wp2_with (go_at_call 137; refine (H.out).mono ?_; rintro e w' ⟨rfl, hbl, hc1, hc2⟩)
  go_ret
  exact ⟨rfl, hbl⟩
end Go.Proofs.YtdbiebnnogjccaaGreatDoor

/- The walks of package pack: numbers and texts. -/
namespace Go.Proofs.YtdbiebnnogjccaaGreatDoor
open Go.RowKit

/-! ### numbers as bytes -/
theorem conv_new (w : World) (xs : List Int) : (convert 23 9 (.slice (some ⟨w.heap.size, 0, none⟩) xs.length xs.length)).run Tryz.prog (w.alloc (.cells (xs.map (Value.int .u8)).toArray 5)) = .ok (.string (strOfNums xs)) (w.alloc (.cells (xs.map (Value.int .u8)).toArray 5)) :=
  run_convert_bytes_arg _ 23 5 Tryz.underlying23 Tryz.underlying5 w.heap.size 0 xs.length xs.length xs rfl (fun i hi => by
    rw [Nat.zero_add, World.cell?_alloc_new]; simp [hi]) 9 Tryz.underlying9

theorem ret_str2 {xs ys : List Int} (h : xs = ys) : Ending.returned (.tuple #[.string (strOfNums xs), .nilIface]) = .returned (.tuple #[.string (strOfNums ys), .nilIface]) := by rw [h]
set_option maxRecDepth 100000 in
set_option maxHeartbeats 2000000 in
theorem pack_num1 (v : Int) (h0 : 0 ≤ v) (h1 : v < 256) (w : World) : Calls Tryz.prog 167 #[.int .u64 v, .int .i64 1] w fun e w' => e = .returned (.tuple #[.string (strOfNums (lowBE v 1)), .nilIface]) ∧ Below w.heap.size w w' := by
  have hmk : ∀ w, (Instr.makeSlice 23 (.int .i64 1) (.int .i64 1)).run Tryz.prog w = .ok (.slice (some ⟨w.heap.size, 0, none⟩) 1 1) (w.alloc (.cells #[.int .u8 0] 5)) := fun _ => by kernel_rfl
  have hcv := conv_new w [v]
  simp only [List.length_cons, List.length_nil, Nat.reduceAdd, List.map_cons, List.map_nil] at hcv
  go_enter Tryz.func167, Tryz.ntmps167
  go_wp2_with fail
  refine (pack_size _ _).mono ?_; rintro e w' ⟨rfl, rfl⟩
  go_wp2_with fail
  refine wp_loop_rounds 2 ?_
  rw [rounds_succ]
  go_wp2
  rw [rounds_succ]
  go_wp2
  go_ret2
  exact ⟨ret_str2 (by simp only [lowBE, Int.pow_zero, Int.ediv_one]; first | rfl | (congr 1; omega)), (Below.refl _ _).alloc (Nat.le_refl _) _⟩
set_option maxRecDepth 100000 in
set_option maxHeartbeats 2000000 in
theorem pack_num2 (v : Int) (h0 : 0 ≤ v) (h1 : v < 65536) (w : World) : Calls Tryz.prog 167 #[.int .u64 v, .int .i64 2] w fun e w' => e = .returned (.tuple #[.string (strOfNums (lowBE v 2)), .nilIface]) ∧ Below w.heap.size w w' := by
  have hmk : ∀ w, (Instr.makeSlice 23 (.int .i64 2) (.int .i64 2)).run Tryz.prog w = .ok (.slice (some ⟨w.heap.size, 0, none⟩) 2 2) (w.alloc (.cells #[.int .u8 0, .int .u8 0] 5)) := fun _ => by kernel_rfl
  have hcv := conv_new w [v / 256, v % 256]
  simp only [List.length_cons, List.length_nil, Nat.reduceAdd, List.map_cons, List.map_nil] at hcv
  go_enter Tryz.func167, Tryz.ntmps167
  go_wp2_with fail
  refine (pack_size _ _).mono ?_; rintro e w' ⟨rfl, rfl⟩
  go_wp2_with fail
  refine wp_loop_rounds 3 ?_
  rw [rounds_succ]
  go_wp2
  rw [rounds_succ]
  go_wp2
  rw [rounds_succ]
  go_wp2
  go_ret2
  exact ⟨ret_str2 (by simp only [lowBE, Int.pow_zero, Int.ediv_one]; first | rfl | (congr 1; omega)), (Below.refl _ _).alloc (Nat.le_refl _) _⟩
set_option maxRecDepth 100000 in
set_option maxHeartbeats 2000000 in
theorem pack_num4 (v : Int) (h0 : 0 ≤ v) (h1 : v < 4294967296) (w : World) : Calls Tryz.prog 167 #[.int .u64 v, .int .i64 4] w fun e w' => e = .returned (.tuple #[.string (strOfNums (lowBE v 4)), .nilIface]) ∧ Below w.heap.size w w' := by
  have hmk : ∀ w, (Instr.makeSlice 23 (.int .i64 4) (.int .i64 4)).run Tryz.prog w = .ok (.slice (some ⟨w.heap.size, 0, none⟩) 4 4) (w.alloc (.cells #[.int .u8 0, .int .u8 0, .int .u8 0, .int .u8 0] 5)) := fun _ => by kernel_rfl
  have hcv := conv_new w [v / 16777216, v / 65536 % 256, v / 256 % 256, v % 256]
  simp only [List.length_cons, List.length_nil, Nat.reduceAdd, List.map_cons, List.map_nil] at hcv
  go_enter Tryz.func167, Tryz.ntmps167
  go_wp2_with fail
  refine (pack_size _ _).mono ?_; rintro e w' ⟨rfl, rfl⟩
  go_wp2_with fail
  refine wp_loop_rounds 5 ?_
  rw [rounds_succ]
  go_wp2
  rw [rounds_succ]
  go_wp2
  rw [rounds_succ]
  go_wp2
  rw [rounds_succ]
  go_wp2
  rw [rounds_succ]
  go_wp2
  go_ret2
  exact ⟨ret_str2 (by simp only [lowBE, Int.pow_zero, Int.ediv_one]; first | rfl | (congr 1; omega)), (Below.refl _ _).alloc (Nat.le_refl _) _⟩
set_option maxRecDepth 100000 in
set_option maxHeartbeats 2000000 in
theorem pack_num8 (v : Int) (h0 : 0 ≤ v) (h1 : v < 18446744073709551616) (w : World) : Calls Tryz.prog 167 #[.int .u64 v, .int .i64 8] w fun e w' => e = .returned (.tuple #[.string (strOfNums (lowBE v 8)), .nilIface]) ∧ Below w.heap.size w w' := by
  have hmk : ∀ w, (Instr.makeSlice 23 (.int .i64 8) (.int .i64 8)).run Tryz.prog w = .ok (.slice (some ⟨w.heap.size, 0, none⟩) 8 8) (w.alloc (.cells #[.int .u8 0, .int .u8 0, .int .u8 0, .int .u8 0, .int .u8 0, .int .u8 0, .int .u8 0, .int .u8 0] 5)) := fun _ => by kernel_rfl
  have hcv := conv_new w [v / 72057594037927936, v / 281474976710656 % 256, v / 1099511627776 % 256, v / 4294967296 % 256, v / 16777216 % 256, v / 65536 % 256, v / 256 % 256, v % 256]
  simp only [List.length_cons, List.length_nil, Nat.reduceAdd, List.map_cons, List.map_nil] at hcv
  go_enter Tryz.func167, Tryz.ntmps167
  go_wp2_with fail
  refine (pack_size _ _).mono ?_; rintro e w' ⟨rfl, rfl⟩
  go_wp2_with fail
  refine wp_loop_rounds 9 ?_
  rw [rounds_succ]
  go_wp2
  rw [rounds_succ]
  go_wp2
  rw [rounds_succ]
  go_wp2
  rw [rounds_succ]
  go_wp2
  rw [rounds_succ]
  go_wp2
  rw [rounds_succ]
  go_wp2
  rw [rounds_succ]
  go_wp2
  rw [rounds_succ]
  go_wp2
  rw [rounds_succ]
  go_wp2
  go_ret2
  exact ⟨ret_str2 (by simp only [lowBE, Int.pow_zero, Int.ediv_one]; first | rfl | (congr 1; omega)), (Below.refl _ _).alloc (Nat.le_refl _) _⟩

/-! ### errors as codes -/
/-- The error value ev has the code c in w. -/
def ErrIs (w : World) (ev : Value) (c : Int) : Prop :=
  (c = 0 ∧ ev = .nilIface) ∨ (c ≠ 0 ∧ ∃ b : Nat, ev = .iface 276 (.pointer (some ⟨b, 0, none⟩)) ∧ b < w.heap.size ∧ w.cell? ⟨b, 1, none⟩ = some (.int .i64 c))
theorem ErrIs.nil (w : World) : ErrIs w .nilIface 0 := .inl ⟨rfl, rfl⟩
theorem ErrIs.new (w : World) (a c : Int) (hc : c ≠ 0) : ErrIs (w.alloc (.cells #[.int .i64 a, .int .i64 c] 279)) (.iface 276 (.pointer (some ⟨w.heap.size, 0, none⟩))) c :=
  .inr ⟨hc, w.heap.size, rfl, by simp, by simp⟩
theorem below_alloc1 (w : World) (o : Obj) : Below w.heap.size w (w.alloc o) := (Below.refl _ _).alloc (Nat.le_refl _) _

theorem told_any (ev : Value) (c : Int) (w : World) (he : EtIs w) (h : ErrIs w ev c) :
    Calls Tryz.prog 168 #[ev] w fun e w' => e = .returned (.int .i64 c) ∧ Below w.heap.size w w' := by
  rcases h with ⟨rfl, rfl⟩ | ⟨hc, b, rfl, hb, hx⟩
  · exact told_nil w
  · exact told_hit b c w he hb hx

/-! ### Num -/
theorem pack_num_arg (v n : Int) (hn : sizeB n = false) (w : World) : Calls Tryz.prog 167 #[.int .u64 v, .int .i64 n] w fun e w' =>
    e = .returned (.tuple #[.string ⟨#[]⟩, .iface 276 (.pointer (some ⟨w.heap.size, 0, none⟩))]) ∧ w.alloc (.cells #[.int .i64 0, .int .i64 1] 279) = w' := by
  go_enter Tryz.func167, Tryz.ntmps167
  go_wp2_with fail
  refine (pack_size _ _).mono ?_; rintro e w' ⟨rfl, rfl⟩
  go_wp2_with fail
  refine (pack_fail _ _ _).mono ?_; rintro e w' ⟨rfl, rfl⟩
  go_wp2_with fail
  go_ret2
  exact ⟨rfl, rfl⟩
theorem pack_num1_long (v : Int) (h1 : 256 ≤ v) (w : World) : Calls Tryz.prog 167 #[.int .u64 v, .int .i64 1] w fun e w' =>
    e = .returned (.tuple #[.string ⟨#[]⟩, .iface 276 (.pointer (some ⟨w.heap.size, 0, none⟩))]) ∧ w.alloc (.cells #[.int .i64 0, .int .i64 2] 279) = w' := by
  have hd : (v / 256 != 0) = true := by rw [bne_iff_ne]; omega
  have hz : (!sizeB 1) = false := by decide
  go_enter Tryz.func167, Tryz.ntmps167
  go_wp2_with fail
  refine (pack_size _ _).mono ?_; rintro e w' ⟨rfl, rfl⟩
  go_wp2_with fail
  refine (pack_fail _ _ _).mono ?_; rintro e w' ⟨rfl, rfl⟩
  go_wp2_with fail
  go_ret2
  exact ⟨rfl, rfl⟩
theorem pack_num2_long (v : Int) (h1 : 65536 ≤ v) (w : World) : Calls Tryz.prog 167 #[.int .u64 v, .int .i64 2] w fun e w' =>
    e = .returned (.tuple #[.string ⟨#[]⟩, .iface 276 (.pointer (some ⟨w.heap.size, 0, none⟩))]) ∧ w.alloc (.cells #[.int .i64 0, .int .i64 2] 279) = w' := by
  have hd : (v / 65536 != 0) = true := by rw [bne_iff_ne]; omega
  have hz : (!sizeB 2) = false := by decide
  go_enter Tryz.func167, Tryz.ntmps167
  go_wp2_with fail
  refine (pack_size _ _).mono ?_; rintro e w' ⟨rfl, rfl⟩
  go_wp2_with fail
  refine (pack_fail _ _ _).mono ?_; rintro e w' ⟨rfl, rfl⟩
  go_wp2_with fail
  go_ret2
  exact ⟨rfl, rfl⟩
theorem pack_num4_long (v : Int) (h1 : 4294967296 ≤ v) (w : World) : Calls Tryz.prog 167 #[.int .u64 v, .int .i64 4] w fun e w' =>
    e = .returned (.tuple #[.string ⟨#[]⟩, .iface 276 (.pointer (some ⟨w.heap.size, 0, none⟩))]) ∧ w.alloc (.cells #[.int .i64 0, .int .i64 2] 279) = w' := by
  have hd : (v / 4294967296 != 0) = true := by rw [bne_iff_ne]; omega
  have hz : (!sizeB 4) = false := by decide
  go_enter Tryz.func167, Tryz.ntmps167
  go_wp2_with fail
  refine (pack_size _ _).mono ?_; rintro e w' ⟨rfl, rfl⟩
  go_wp2_with fail
  refine (pack_fail _ _ _).mono ?_; rintro e w' ⟨rfl, rfl⟩
  go_wp2_with fail
  go_ret2
  exact ⟨rfl, rfl⟩
theorem pack_num (v n : Int) (h0 : 0 ≤ v) (h1 : v < 18446744073709551616) (w : World) : Calls Tryz.prog 167 #[.int .u64 v, .int .i64 n] w fun e w' =>
    ∃ ev, e = .returned (.tuple #[.string (numR v n).1, ev]) ∧ ErrIs w' ev (numR v n).2 ∧ Below w.heap.size w w' := by
  have ok : ∀ k : Nat, numR v n = (strOfNums (lowBE v k), 0) → (Calls Tryz.prog 167 #[.int .u64 v, .int .i64 n] w fun e w' => e = .returned (.tuple #[.string (strOfNums (lowBE v k)), .nilIface]) ∧ Below w.heap.size w w') → Calls Tryz.prog 167 #[.int .u64 v, .int .i64 n] w fun e w' =>
    ∃ ev, e = .returned (.tuple #[.string (numR v n).1, ev]) ∧ ErrIs w' ev (numR v n).2 ∧ Below w.heap.size w w' :=
    fun k hk h => h.mono fun e w' ⟨he, hb⟩ => ⟨_, by rw [hk]; exact he, by rw [hk]; exact ErrIs.nil _, hb⟩
  have bad : ∀ c : Int, c ≠ 0 → numR v n = (⟨#[]⟩, c) → (Calls Tryz.prog 167 #[.int .u64 v, .int .i64 n] w fun e w' => e = .returned (.tuple #[.string ⟨#[]⟩, .iface 276 (.pointer (some ⟨w.heap.size, 0, none⟩))]) ∧ w.alloc (.cells #[.int .i64 0, .int .i64 c] 279) = w') → Calls Tryz.prog 167 #[.int .u64 v, .int .i64 n] w fun e w' =>
    ∃ ev, e = .returned (.tuple #[.string (numR v n).1, ev]) ∧ ErrIs w' ev (numR v n).2 ∧ Below w.heap.size w w' :=
    fun c hc hk h => h.mono fun e w' ⟨he, hb⟩ => ⟨_, by rw [hk]; exact he, by rw [hk, ← hb]; exact ErrIs.new _ _ _ hc, by rw [← hb]; exact below_alloc1 _ _⟩
  cases hs : sizeB n with
  | false => exact bad 1 (by decide) (by simp [numR, hs]) (pack_num_arg v n hs w)
  | true =>
    rcases sizeB_cases hs with rfl | rfl | rfl | rfl
    · by_cases hv : v < 256
      · have hn : ¬ (256 : Int) ≤ v := by omega
        exact ok 1 (by simp [numR, hs, hn]) (pack_num1 v h0 hv w)
      · have hn : (256 : Int) ≤ v := by omega
        exact bad 2 (by decide) (by simp [numR, hs, hn]) (pack_num1_long v hn w)
    · by_cases hv : v < 65536
      · have hn : ¬ (65536 : Int) ≤ v := by omega
        exact ok 2 (by simp [numR, hs, hn]) (pack_num2 v h0 hv w)
      · have hn : (65536 : Int) ≤ v := by omega
        exact bad 2 (by decide) (by simp [numR, hs, hn]) (pack_num2_long v hn w)
    · by_cases hv : v < 4294967296
      · have hn : ¬ (4294967296 : Int) ≤ v := by omega
        exact ok 4 (by simp [numR, hs, hn]) (pack_num4 v h0 hv w)
      · have hn : (4294967296 : Int) ≤ v := by omega
        exact bad 2 (by decide) (by simp [numR, hs, hn]) (pack_num4_long v hn w)
    · exact ok 8 (by simp [numR, hs]) (pack_num8 v h0 h1 w)
theorem pack_Num (v n : Int) (h0 : 0 ≤ v) (h1 : v < 18446744073709551616) (w : World) (he : EtIs w) : Calls Tryz.prog 144 #[.int .u64 v, .int .i64 n] w fun e w' =>
    e = .returned (.tuple #[.string (numR v n).1, .int .i64 (numR v n).2]) ∧ Below w.heap.size w w' := by
  go_enter Tryz.func144, Tryz.ntmps144
  go_wp2_with fail
  refine (pack_num _ _ h0 h1 _).mono ?_; rintro e w1 ⟨ev, rfl, hev, hb⟩
  go_wp2_with fail
  refine (told_any _ _ _ (he.below hb) hev).mono ?_; rintro e w2 ⟨rfl, hb2⟩
  go_wp2_with fail
  go_ret2
  exact ⟨rfl, hb.trans (hb2.mono hb.size)⟩

/-! ### Text -/
theorem pack_Text (s : ByteArray) (hs : s.size ≤ 140737488351232) (w : World) (he : EtIs w) : Calls Tryz.prog 145 #[.string s] w fun e w' =>
    e = .returned (.tuple #[.string (textR s).1, .int .i64 (textR s).2]) ∧ Below w.heap.size w w' := by
  by_cases hl : 65535 < s.size
  · have hr : textR s = (⟨#[]⟩, 2) := by simp [textR, hl]
    have Hr := Lib.hid hr; clear hr
    have hl' : (65535 : Int) < (s.size : Int) := by omega
    go_enter Tryz.func145, Tryz.ntmps145
    go_wp2_with fail
    go_ret2
    exact ⟨by rw [Hr.out]; rfl, Below.refl _ _⟩
  · have hr : textR s = (strOfNums (lowBE s.size 2) ++ s, 0) := by simp [textR, hl]
    have hn : numR s.size 2 = (strOfNums (lowBE s.size 2), 0) := by
      have : ¬ (65536 : Int) ≤ (s.size : Int) := by omega
      simp [numR, sizeB, this]
    have Hr := Lib.hid hr; clear hr
    have Hn := Lib.hid hn; clear hn
    have hl' : ¬ (65535 : Int) < (s.size : Int) := by omega
    have hz : (strOfNums (lowBE (s.size : Int) 2)).size = 2 := by simp [strOfNums_size, lowBE]
    have Hz := Lib.hid hz; clear hz
    go_enter Tryz.func145, Tryz.ntmps145
    go_wp2_with fail
    refine (pack_num _ _ (by omega) (by omega) _).mono ?_; rintro e w1 ⟨ev, rfl, hev, hb⟩
    rw [Hn.out] at hev ⊢
    generalize hx : strOfNums (lowBE (s.size : Int) 2) = x at *
    have hx2 : x.size = 2 := Hz.out
    have hx3 : x.size + s.size ≤ 9223372036854775807 := by omega
    have Hx := Lib.hid hx; clear hx hx2
    go_wp2_with fail
    refine (told_any _ _ _ (he.below hb) hev).mono ?_; rintro e w2 ⟨rfl, hb2⟩
    go_wp2_with fail
    go_ret2
    exact ⟨by rw [Hr.out]; rfl, hb.trans (hb2.mono hb.size)⟩

end Go.Proofs.YtdbiebnnogjccaaGreatDoor

/- The walks of package pack: what stands at a place of bytes. -/
namespace Go.Proofs.YtdbiebnnogjccaaGreatDoor
open Go.RowKit

/-- One byte more behind a number. -/
theorem shl8_or (x c : Int) (h0 : 0 ≤ x) (h1 : x < 72057594037927936) (h2 : 0 ≤ c) (h3 : c < 256) : bits .or .u64 (IntKind.u64.wrap (x * 256)) (IntKind.u64.wrap c) = x * 256 + c := by
  rw [IntKind.wrap_u64, IntKind.wrap_u64, Int.emod_eq_of_lt (by omega) (by omega), Int.emod_eq_of_lt (by omega) (by omega), u64_or _ _ (by omega) (by omega) (by omega) (by omega)]
  obtain ⟨X, rfl⟩ := Int.eq_ofNat_of_zero_le h0
  obtain ⟨C, rfl⟩ := Int.eq_ofNat_of_zero_le h2
  have e : ((X : Int) * 256).toNat = X <<< 8 := by rw [Nat.shiftLeft_eq]; omega
  have : X <<< 8 ||| C = X <<< 8 + C := by rw [Nat.shiftLeft_add_eq_or_of_lt (by omega)]
  rw [e, Int.toNat_natCast, this, Nat.shiftLeft_eq]
  omega
theorem pack_take_arg (b : ByteArray) (a n : Int) (hn : sizeB n = false) (w : World) : Calls Tryz.prog 169 #[.string b, .int .i64 a, .int .i64 n] w fun e w' =>
    e = .returned (.tuple #[.int .u64 0, .int .i64 0, .iface 276 (.pointer (some ⟨w.heap.size, 0, none⟩))]) ∧ w.alloc (.cells #[.int .i64 a, .int .i64 1] 279) = w' := by
  go_enter Tryz.func169, Tryz.ntmps169
  go_wp2_with fail
  refine (pack_size _ _).mono ?_; rintro e w' ⟨rfl, rfl⟩
  go_wp2_with fail
  refine (pack_fail _ _ _).mono ?_; rintro e w' ⟨rfl, rfl⟩
  go_wp2_with fail
  go_ret3
  exact ⟨rfl, rfl⟩

theorem pack_take_form (b : ByteArray) (a n : Int) (hb : b.size ≤ 140737488351232) (hn : sizeB n = true) (h : a < 0 ∨ (b.size : Int) < a ∨ (b.size : Int) - a < n) (w : World) : Calls Tryz.prog 169 #[.string b, .int .i64 a, .int .i64 n] w fun e w' =>
    e = .returned (.tuple #[.int .u64 0, .int .i64 0, .iface 276 (.pointer (some ⟨w.heap.size, 0, none⟩))]) ∧ w.alloc (.cells #[.int .i64 a, .int .i64 11] 279) = w' := by
  have hn' : (!sizeB n) = false := by rw [hn]; rfl
  have H := Lib.hid h; clear h
  by_cases h1 : a < 0
  · go_enter Tryz.func169, Tryz.ntmps169
    go_wp2_with fail
    refine (pack_size _ _).mono ?_; rintro e w' ⟨rfl, rfl⟩
    go_wp2_with fail
    refine (pack_fail _ _ _).mono ?_; rintro e w' ⟨rfl, rfl⟩
    go_wp2_with fail
    go_ret3
    exact ⟨rfl, rfl⟩
  · by_cases h2 : (b.size : Int) < a
    · go_enter Tryz.func169, Tryz.ntmps169
      go_wp2_with fail
      refine (pack_size _ _).mono ?_; rintro e w' ⟨rfl, rfl⟩
      go_wp2_with fail
      refine (pack_fail _ _ _).mono ?_; rintro e w' ⟨rfl, rfl⟩
      go_wp2_with fail
      go_ret3
      exact ⟨rfl, rfl⟩
    · have h3 : (b.size : Int) - a < n := by have := H.out; omega
      go_enter Tryz.func169, Tryz.ntmps169
      go_wp2_with fail
      refine (pack_size _ _).mono ?_; rintro e w' ⟨rfl, rfl⟩
      go_wp2_with fail
      refine (pack_fail _ _ _).mono ?_; rintro e w' ⟨rfl, rfl⟩
      go_wp2_with fail
      go_ret3
      exact ⟨rfl, rfl⟩

set_option maxRecDepth 100000 in
set_option maxHeartbeats 1000000 in
theorem pack_take_ok (b : ByteArray) (a n : Nat) (hb : b.size ≤ 140737488351232) (hn : sizeB n = true) (h : a + n ≤ b.size) (w : World) : Calls Tryz.prog 169 #[.string b, .int .i64 a, .int .i64 n] w fun e w' =>
    e = .returned (.tuple #[.int .u64 (valBE ((b.data.toList.drop a).take n)), .int .i64 ((a : Int) + n), .nilIface]) ∧ Below w.heap.size w w' := by
  have hn' : (!sizeB n) = false := by rw [hn]; rfl
  have h1 : ¬ (a : Int) < 0 := by omega
  have h2 : ¬ (b.size : Int) < (a : Int) := by omega
  have h3 : ¬ (b.size : Int) - (a : Int) < (n : Int) := by omega
  have hsl : ∀ W : World, (Instr.slice 9 (.string b) (some (.int .i64 (a : Int))) (some (.int .i64 ((a : Int) + (n : Int)))) none).run Tryz.prog W = .ok (.string (b.extract a (a + n))) W := fun W => by
    rw [run_slice_string W 9 b .i64 .i64 _ _ Tryz.underlying9 (by omega) (by omega) (by omega)]; congr 3 <;> omega
  obtain ⟨x, hx, hxs, hxl⟩ : ∃ x, b.extract a (a + n) = x ∧ x.size = n ∧ x.data.toList = (b.data.toList.drop a).take n := ⟨_, rfl, by simp; omega, by simp [List.extract_eq_take_drop]⟩
  rw [hx] at hsl
  clear hx
  have Hxl := Lib.hid hxl; clear hxl
  obtain ⟨c, w1, hcv, hcl, hbl⟩ : ∃ (c : Nat) (w1 : World), (convert 9 23 (.string x)).run Tryz.prog w = .ok (.slice (some ⟨w.heap.size, 0, none⟩) n c) w1 ∧ (∀ j, j < n → w1.cell? ⟨w.heap.size, j, none⟩ = some (.int .u8 (x.data.toList.getD j 0).toNat)) ∧ Below w.heap.size w w1 := by
    refine ⟨_, _, by rw [Lib.run_convert_string_bytes w 9 23 5 x Tryz.underlying9 Tryz.underlying23 Tryz.underlying5, hxs], fun j hj => Lib.bytesWorld_cell w _ x j (by omega), ?_⟩
    exact ⟨rfl, rfl, rfl, by rw [Lib.bytesWorld_size]; omega, fun k hk => Lib.bytesWorld_at_old w _ x k hk⟩
  have hln : x.data.toList.length = n := by rw [Array.length_toList, ByteArray.size_data]; exact hxs
  have Hln := Lib.hid hln; clear hxs hln
  go_enter Tryz.func169, Tryz.ntmps169
  go_wp2_with fail
  refine (pack_size _ _).mono ?_; rintro e w' ⟨rfl, rfl⟩
  go_wp2_with fail
  go_loop [9, 45] (fun v i => ∃ k : Nat, k ≤ n ∧ i = .int .i64 k ∧ v = .int .u64 (valBE (x.data.toList.take k))) (fun _ i => n - (intOf i).toNat)
  case atStart => exact ⟨0, Nat.zero_le _, rfl, rfl⟩
  case round =>
    obtain ⟨k, hk, rfl, rfl⟩ := hrel
    by_cases hlt : k < n
    · have hc := hcl k hlt
      have hbd := valBE_bd k (x.data.toList.take k) (by rw [List.length_take, Hln.out]; omega)
      have hp : (256 : Int) ^ k ≤ 72057594037927936 := by
        have hk7 : k ≤ 7 := by have := sizeB_cases hn; omega
        have : (256 : Nat) ^ k ≤ 256 ^ 7 := Nat.pow_le_pow_right (by decide) hk7
        have e : ((256 ^ k : Nat) : Int) = (256 : Int) ^ k := by simp
        omega
      have hst := shl8_or (valBE (x.data.toList.take k)) ((x.data.toList.getD k 0).toNat : Int) hbd.1 (by omega) (by omega) (by have := (x.data.toList.getD k 0).toNat_lt; omega)
      have hsn := take_snocB x.data.toList k (by rw [Hln.out]; omega)
      have HS : Hid (bits .or .u64 (IntKind.u64.wrap (valBE (x.data.toList.take k) * 256)) (IntKind.u64.wrap ((x.data.toList.getD k 0).toNat : Int)) = valBE (x.data.toList.take (k + 1))) := by rw [hsn, valBE_snoc]; exact hst
      clear hbd hp hst hsn
      go_wp2
      go_round
      case rel => exact ⟨k + 1, by omega, by go_num, by have := HS.out; simp at this ⊢; exact this⟩
      case measure => simp [intOf]; omega
    · go_wp2
      go_ret3
      obtain rfl : k = n := by omega
      exact ⟨by rw [← Hxl.out, List.take_of_length_le (by rw [Hln.out]; omega)]; rfl, hbl⟩

theorem pack_take (b : ByteArray) (a n : Int) (hb : b.size ≤ 140737488351232) (w : World) : Calls Tryz.prog 169 #[.string b, .int .i64 a, .int .i64 n] w fun e w' =>
    ∃ ev, e = .returned (.tuple #[.int .u64 (takeR b a n).1, .int .i64 (takeR b a n).2.1, ev]) ∧ ErrIs w' ev (takeR b a n).2.2 ∧ Below w.heap.size w w' := by
  have bad : ∀ c : Int, c ≠ 0 → takeR b a n = (0, 0, c) → (Calls Tryz.prog 169 #[.string b, .int .i64 a, .int .i64 n] w fun e w' => e = .returned (.tuple #[.int .u64 0, .int .i64 0, .iface 276 (.pointer (some ⟨w.heap.size, 0, none⟩))]) ∧ w.alloc (.cells #[.int .i64 a, .int .i64 c] 279) = w') → Calls Tryz.prog 169 #[.string b, .int .i64 a, .int .i64 n] w fun e w' =>
    ∃ ev, e = .returned (.tuple #[.int .u64 (takeR b a n).1, .int .i64 (takeR b a n).2.1, ev]) ∧ ErrIs w' ev (takeR b a n).2.2 ∧ Below w.heap.size w w' :=
    fun c hc hk h => h.mono fun e w' ⟨he, hb⟩ => ⟨_, by rw [hk]; exact he, by rw [hk, ← hb]; exact ErrIs.new _ _ _ hc, by rw [← hb]; exact below_alloc1 _ _⟩
  cases hs : sizeB n with
  | false => exact bad 1 (by decide) (by simp [takeR, hs]) (pack_take_arg b a n hs w)
  | true =>
    by_cases h : a < 0 ∨ (b.size : Int) < a ∨ (b.size : Int) - a < n
    · exact bad 11 (by decide) (by rw [takeR, if_neg (by simp [hs]), if_pos h]) (pack_take_form b a n hb hs h w)
    · have hn := sizeB_cases hs
      obtain ⟨A, rfl⟩ := Int.eq_ofNat_of_zero_le (show 0 ≤ a by omega)
      obtain ⟨N, rfl⟩ := Int.eq_ofNat_of_zero_le (show 0 ≤ n by omega)
      have e1 : takeR b A N = (valBE ((b.data.toList.drop A).take N), (A : Int) + N, 0) := by rw [takeR, if_neg (by simp [hs]), if_neg h]; rfl
      rw [e1]
      exact (pack_take_ok b A N hb hs (by omega) w).mono fun e w' ⟨he, hb⟩ => ⟨.nilIface, he, ErrIs.nil _, hb⟩

theorem pack_Take (b : ByteArray) (a n : Int) (hb : b.size ≤ 140737488351232) (w : World) (he : EtIs w) : Calls Tryz.prog 146 #[.string b, .int .i64 a, .int .i64 n] w fun e w' =>
    e = .returned (.tuple #[.int .u64 (takeR b a n).1, .int .i64 (takeR b a n).2.1, .int .i64 (takeR b a n).2.2]) ∧ Below w.heap.size w w' := by
  go_enter Tryz.func146, Tryz.ntmps146
  go_wp2_with fail
  refine (pack_take _ _ _ hb _).mono ?_; rintro e w1 ⟨ev, rfl, hev, hb1⟩
  go_wp2_with fail
  refine (told_any _ _ _ (he.below hb1) hev).mono ?_; rintro e w2 ⟨rfl, hb2⟩
  go_wp2_with fail
  go_ret3
  exact ⟨rfl, hb1.trans (hb2.mono hb1.size)⟩

/-! ### Cut -/
theorem pack_cut (b : ByteArray) (a most : Int) (hb : b.size ≤ 140737488351232) (w : World) : Calls Tryz.prog 170 #[.string b, .int .i64 a, .int .i64 most] w fun e w' =>
    ∃ ev, e = .returned (.tuple #[.string (cutR b a most).1, .int .i64 (cutR b a most).2.1, ev]) ∧ ErrIs w' ev (cutR b a most).2.2 ∧ Below w.heap.size w w' := by
  by_cases ht : (takeR b a 2).2.2 = 0
  · obtain ⟨h0, h1, h2, h3, h4⟩ := takeR2_ok ht
    obtain ⟨V, hV⟩ : ∃ V, V = valBE ((b.data.toList.drop a.toNat).take 2) := ⟨_, rfl⟩
    rw [← hV] at h2 h3 h4
    clear hV
    have hc : cutR b a most = if (b.size : Int) - (a + 2) < V then (⟨#[]⟩, 0, 11) else if most < V then (⟨#[]⟩, 0, 2) else (b.extract (a + 2).toNat (a + 2 + V).toNat, a + 2 + V, 0) := by
      simp [cutR, h2]
    rw [hc]
    have H2 := Lib.hid h2
    clear h2 hc ht
    have Ht := pack_take b a 2 hb w
    rw [H2.out] at Ht
    have HT := Lib.hid Ht; clear Ht
    by_cases c1 : (b.size : Int) - (a + 2) < V
    · simp only [if_pos c1]
      go_enter Tryz.func170, Tryz.ntmps170
      go_wp2_with fail
      refine HT.out.mono ?_; rintro e w1 ⟨ev, rfl, hev, hb1⟩
      obtain rfl : ev = .nilIface := by rcases hev with ⟨_, h⟩ | ⟨h, _⟩; exact h; exact absurd rfl h
      clear hev
      go_wp2_with fail
      refine (pack_fail _ _ _).mono ?_; rintro e w2 ⟨rfl, rfl⟩
      go_wp2_with fail
      go_ret3
      exact ⟨_, rfl, ErrIs.new _ _ _ (by decide), hb1.trans ((below_alloc1 _ _).mono hb1.size)⟩
    · by_cases c2 : most < V
      · simp only [if_neg c1, if_pos c2]
        go_enter Tryz.func170, Tryz.ntmps170
        go_wp2_with fail
        refine HT.out.mono ?_; rintro e w1 ⟨ev, rfl, hev, hb1⟩
        obtain rfl : ev = .nilIface := by rcases hev with ⟨_, h⟩ | ⟨h, _⟩; exact h; exact absurd rfl h
        clear hev
        go_wp2_with fail
        refine (pack_fail _ _ _).mono ?_; rintro e w2 ⟨rfl, rfl⟩
        go_wp2_with fail
        go_ret3
        exact ⟨_, rfl, ErrIs.new _ _ _ (by decide), hb1.trans ((below_alloc1 _ _).mono hb1.size)⟩
      · simp only [if_neg c1, if_neg c2]
        have hsl : ∀ W : World, (Instr.slice 9 (.string b) (some (.int .i64 (a + 2))) (some (.int .i64 (a + 2 + V))) none).run Tryz.prog W = .ok (.string (b.extract (a + 2).toNat (a + 2 + V).toNat)) W := fun W =>
          run_slice_string W 9 b .i64 .i64 _ _ Tryz.underlying9 (by omega) (by omega) (by omega)
        go_enter Tryz.func170, Tryz.ntmps170
        go_wp2_with fail
        refine HT.out.mono ?_; rintro e w1 ⟨ev, rfl, hev, hb1⟩
        obtain rfl : ev = .nilIface := by rcases hev with ⟨_, h⟩ | ⟨h, _⟩; exact h; exact absurd rfl h
        clear hev
        go_wp2_with fail
        go_ret3
        exact ⟨_, rfl, ErrIs.nil _, hb1⟩
  · have hc : cutR b a most = (⟨#[]⟩, 0, (takeR b a 2).2.2) := by simp [cutR, ht]
    rw [hc]
    have Ht := Lib.hid ht
    clear hc ht
    go_enter Tryz.func170, Tryz.ntmps170
    go_wp2_with fail
    refine (pack_take b a 2 hb _).mono ?_; rintro e w1 ⟨ev, rfl, hev, hb1⟩
    have hev' := hev
    rcases hev with ⟨h, _⟩ | ⟨_, x, rfl, _, _⟩
    · exact absurd h Ht.out
    · have Hev := Lib.hid hev'
      clear hev'
      go_wp2_with fail
      go_ret3
      exact ⟨_, rfl, Hev.out, hb1⟩
theorem pack_Cut (b : ByteArray) (a most : Int) (hb : b.size ≤ 140737488351232) (w : World) (he : EtIs w) : Calls Tryz.prog 147 #[.string b, .int .i64 a, .int .i64 most] w fun e w' =>
    e = .returned (.tuple #[.string (cutR b a most).1, .int .i64 (cutR b a most).2.1, .int .i64 (cutR b a most).2.2]) ∧ Below w.heap.size w w' := by
  go_enter Tryz.func147, Tryz.ntmps147
  go_wp2_with fail
  refine (pack_cut _ _ _ hb _).mono ?_; rintro e w1 ⟨ev, rfl, hev, hb1⟩
  go_wp2_with fail
  refine (told_any _ _ _ (he.below hb1) hev).mono ?_; rintro e w2 ⟨rfl, hb2⟩
  go_wp2_with fail
  go_ret3
  exact ⟨rfl, hb1.trans (hb2.mono hb1.size)⟩

/-! ### the same, with the answer by an equation -/
theorem pack_Num_eq {v n : Int} {r : ByteArray} {c : Int} (hr : numR v n = (r, c)) (h0 : 0 ≤ v) (h1 : v < 18446744073709551616) (w : World) (he : EtIs w) : Calls Tryz.prog 144 #[.int .u64 v, .int .i64 n] w fun e w' =>
    e = .returned (.tuple #[.string r, .int .i64 c]) ∧ Below w.heap.size w w' := by
  have := pack_Num v n h0 h1 w he
  rw [hr] at this; exact this
theorem pack_Text_eq {s r : ByteArray} {c : Int} (hr : textR s = (r, c)) (hs : s.size ≤ 140737488351232) (w : World) (he : EtIs w) : Calls Tryz.prog 145 #[.string s] w fun e w' =>
    e = .returned (.tuple #[.string r, .int .i64 c]) ∧ Below w.heap.size w w' := by
  have := pack_Text s hs w he
  rw [hr] at this; exact this
theorem pack_Take_eq {b : ByteArray} {a n r t c : Int} (hr : takeR b a n = (r, t, c)) (hb : b.size ≤ 140737488351232) (w : World) (he : EtIs w) : Calls Tryz.prog 146 #[.string b, .int .i64 a, .int .i64 n] w fun e w' =>
    e = .returned (.tuple #[.int .u64 r, .int .i64 t, .int .i64 c]) ∧ Below w.heap.size w w' := by
  have := pack_Take b a n hb w he
  rw [hr] at this; exact this
theorem pack_Cut_eq {b r : ByteArray} {a n t c : Int} (hr : cutR b a n = (r, t, c)) (hb : b.size ≤ 140737488351232) (w : World) (he : EtIs w) : Calls Tryz.prog 147 #[.string b, .int .i64 a, .int .i64 n] w fun e w' =>
    e = .returned (.tuple #[.string r, .int .i64 t, .int .i64 c]) ∧ Below w.heap.size w w' := by
  have := pack_Cut b a n hb w he
  rw [hr] at this; exact this
end Go.Proofs.YtdbiebnnogjccaaGreatDoor
