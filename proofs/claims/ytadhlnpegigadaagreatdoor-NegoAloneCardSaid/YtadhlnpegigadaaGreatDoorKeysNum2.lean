/- strconv.ParseUint; keys.number, keys.Numeral. -/
import Derived.Test.YtadhlnpegigadaaGreatDoorKeysNum
import Derived.Deep.RegionHeld3
namespace Go.Proofs.YtadhlnpegigadaaGreatDoor
open Go.ChangeShapes Go.WideShapes Go.ChangeAt Go.RowKit Go.Shelf
set_option linter.unusedVariables false
set_option linter.unusedSimpArgs false
def PubIs (b : Nat) (l : List UInt8) (e : Ending) : Prop := match numB b l with
  | some n => e = .returned (.tuple #[.int .u64 n, .nilIface])
  | none => ∃ (v : Int) (t : TypeId) (x : Value), e = .returned (.tuple #[.int .u64 v, .iface t x])
theorem PubIs_none {b : Nat} {l : List UInt8} {v : Int} {t : TypeId} {x : Value} (h : numB b l = none) : PubIs b l (.returned (.tuple #[.int .u64 v, .iface t x])) := by
  unfold PubIs
  rw [h]
  exact ⟨v, t, x, rfl⟩
theorem PubIs_some {b : Nat} {l : List UInt8} {n : Nat} (h : numB b l = some n) : PubIs b l (.returned (.tuple #[.int .u64 n, .nilIface])) := by
  unfold PubIs
  rw [h]
theorem toErr (fn s : ByteArray) (b k c : Int) (w : World) (E : Errs w) (hs : s.size ≤ 1000000) (hc : c = 1 ∨ c = 2) : Calls Tryz.prog 83 #[.string fn, .string s, .int .i64 b, .int .i64 k, .iface 181 (.int .i64 c)] w fun e w' => ∃ t x, e = .returned (.iface t x) ∧ Below w.heap.size w w' := by
  obtain ⟨⟨t1, p1, h1⟩, ⟨t2, p2, h2⟩⟩ := E
  rcases hc with rfl | rfl
  · refine (Tryz.strconv_toError_range fn s b k _ w (by omega) h2 (.inr ⟨_, _, rfl⟩)).mono ?_
    rintro e w' ⟨N, rfl, _, _, hb⟩
    exact ⟨_, _, rfl, hb⟩
  · refine (Tryz.strconv_toError_syntax fn s b k _ w (by omega) h1 (.inr ⟨_, _, rfl⟩)).mono ?_
    rintro e w' ⟨N, rfl, _, _, hb⟩
    exact ⟨_, _, rfl, hb⟩
theorem pubUint_any (b : Nat) (hb : b = 10 ∨ b = 16) (s : ByteArray) (hs : s.size ≤ 1000000) (w : World) (E : Errs w) : Calls Tryz.prog 90 #[.string s, .int .i64 b, .int .i64 40] w fun e w' => PubIs b s.data.toList e ∧ Below w.heap.size w w' := by
  rcases hn : numB b s.data.toList with _ | n
  · go_enter Tryz.func90, Tryz.ntmps90
    go_wp2_with fail
    refine (puint_any b hb s hs _).mono ?_
    rintro e w1 ⟨hp, hb1⟩
    unfold PuIs at hp
    rw [hn] at hp
    obtain ⟨v, c, rfl, hc⟩ := hp
    have HN := Lib.hid hn
    clear hn
    go_wp2_with fail
    refine (toErr _ s b 40 c _ (E.on hb1) hs hc).mono ?_
    rintro e w2 ⟨t, x, rfl, hb2⟩
    go_wp2_with fail
    go_ret2
    exact ⟨PubIs_none HN.out, below_step hb1 hb2⟩
  · go_enter Tryz.func90, Tryz.ntmps90
    go_wp2_with fail
    refine (puint_any b hb s hs _).mono ?_
    rintro e w1 ⟨hp, hb1⟩
    unfold PuIs at hp
    rw [hn] at hp
    obtain rfl : e = _ := hp
    have HN := Lib.hid hn
    clear hn
    go_wp2_with fail
    go_ret2
    exact ⟨PubIs_some HN.out, hb1⟩
theorem pubUint_some (b : Nat) (hb : b = 10 ∨ b = 16) (s : ByteArray) (n : Nat) (hn : numB b s.data.toList = some n) (hs : s.size ≤ 1000000) (w : World) (E : Errs w) : Calls Tryz.prog 90 #[.string s, .int .i64 b, .int .i64 40] w fun e w' => e = .returned (.tuple #[.int .u64 n, .nilIface]) ∧ Below w.heap.size w w' := by
  refine (pubUint_any b hb s hs w E).mono ?_
  rintro e w' ⟨hp, hb⟩
  unfold PubIs at hp
  rw [hn] at hp
  exact ⟨hp, hb⟩
theorem pubUint_none (b : Nat) (hb : b = 10 ∨ b = 16) (s : ByteArray) (hn : numB b s.data.toList = none) (hs : s.size ≤ 1000000) (w : World) (E : Errs w) : Calls Tryz.prog 90 #[.string s, .int .i64 b, .int .i64 40] w fun e w' => ∃ (v : Int) (t : TypeId) (x : Value), e = .returned (.tuple #[.int .u64 v, .iface t x]) ∧ Below w.heap.size w w' := by
  refine (pubUint_any b hb s hs w E).mono ?_
  rintro e w' ⟨hp, hb⟩
  unfold PubIs at hp
  rw [hn] at hp
  obtain ⟨v, t, x, rfl⟩ := hp
  exact ⟨v, t, x, rfl, hb⟩
theorem numFrom_lt : ∀ (b acc : Nat) (l : List UInt8) (n : Nat), acc < 1099511627776 → numFrom b acc l = some n → n < 1099511627776
  | b, acc, [], n, ha, h => by rw [numFrom, Option.some.injEq] at h; omega
  | b, acc, c :: l, n, ha, h => by
    rw [numFrom] at h
    split at h
    · cases h
    · split at h
      · exact numFrom_lt b _ l n (by assumption) h
      · cases h
theorem numFrom_hex : ∀ (b acc : Nat) (l : List UInt8) (n : Nat), numFrom b acc l = some n → ∀ c ∈ l, (hexVal c).isSome = true
  | b, acc, [], n, h => fun c hc => by cases hc
  | b, acc, c :: l, n, h => by
    rw [numFrom] at h
    split at h
    · cases h
    · rename_i d hd
      split at h
      · intro x hx
        rcases List.mem_cons.1 hx with rfl | hx
        · unfold digV at hd
          rcases hv : hexVal x with _ | v
          · rw [hv] at hd; cases hd
          · rfl
        · exact numFrom_hex b _ l n h x hx
      · cases h
theorem numB_lt {b : Nat} {l : List UInt8} {n : Nat} (h : numB b l = some n) : n < 1099511627776 := by
  unfold numB at h
  split at h
  · cases h
  · exact numFrom_lt b 0 l n (by decide) h
theorem numB_hex {b : Nat} {l : List UInt8} {n : Nat} (h : numB b l = some n) : l ≠ [] ∧ ∀ c ∈ l, (hexVal c).isSome = true := by
  unfold numB at h
  split at h
  · cases h
  · exact ⟨by assumption, numFrom_hex b 0 l n h⟩
theorem hex_ascii : ∀ c : Fin 256, (hexVal (UInt8.ofNat c.val)).isSome = true → c.val < 128 ∧ c.val ≠ 95 ∧ c.val ≠ 43 ∧ c.val ≠ 45 := by decide +kernel
theorem hex_asc {c : UInt8} (h : (hexVal c).isSome = true) : c.toNat < 128 ∧ c ≠ 95 ∧ c ≠ 43 ∧ c ≠ 45 := by
  have := hex_ascii ⟨c.toNat, c.toNat_lt⟩ (by simpa using h)
  refine ⟨this.1, ?_, ?_, ?_⟩ <;> rintro rfl <;> simp at this
theorem hex_none : ∀ (l : List UInt8), (∀ c ∈ l, (hexVal c).isSome = true) → Lib.indexAny l [95, 43, 45] = -1
  | [], _ => rfl
  | c :: l, h => by
    obtain ⟨_, h1, h2, h3⟩ := hex_asc (h c (List.mem_cons_self ..))
    have ih := hex_none l fun x hx => h x (List.mem_cons_of_mem _ hx)
    unfold Lib.indexAny
    rw [if_neg (by simp [h1, h2, h3]), ih]
    rfl
theorem contains_no (s : ByteArray) (b n : Nat) (hn : numB b s.data.toList = some n) (hs : s.size ≤ 1000000) (w : World) : Calls Tryz.prog 91 #[.string s, .string ⟨#[95, 43, 45]⟩] w fun e w' => e = .returned (.bool false) ∧ Below w.heap.size w w' := by
  obtain ⟨_, hx⟩ := numB_hex hn
  have h := Tryz.strings_ContainsAny_laid s ⟨#[95, 43, 45]⟩ w (by omega) (by decide) (fun j b hj => (hex_asc (hx b (List.mem_of_getElem? hj))).1) (fun j b hj => by
    have := List.mem_of_getElem? hj
    simp at this
    rcases this with rfl | rfl | rfl <;> decide)
  rw [show Lib.containsAny s.data.toList (⟨#[95, 43, 45]⟩ : ByteArray).data.toList = false by
    unfold Lib.containsAny
    rw [show (⟨#[95, 43, 45]⟩ : ByteArray).data.toList = [95, 43, 45] from rfl, hex_none _ hx]
    decide] at h
  exact h
theorem prefix_hex (l : List UInt8) : Lib.hasPrefix l [48, 120] = isHex l ∧ Lib.trimPrefix l [48, 120] = if isHex l then l.drop 2 else l := by
  have h : Lib.hasPrefix l [48, 120] = isHex l := by
    unfold Lib.hasPrefix isHex
    rcases l with _ | ⟨a, _ | ⟨b, l⟩⟩
    · rfl
    · simp [List.isPrefixOf]
    · have hc : ∀ x y : UInt8, (x == y) = (y == x) := fun x y => by
        rw [Bool.eq_iff_iff, beq_iff_eq, beq_iff_eq]
        exact eq_comm
      simp only [List.isPrefixOf, List.take_succ_cons, List.take_zero, Bool.and_true]
      rw [hc 48 a, hc 120 b]
      simp
  exact ⟨h, by unfold Lib.trimPrefix; rw [h]; rfl⟩
theorem cut_hex (s : ByteArray) (w : World) : Calls Tryz.prog 89 #[.string s, .string ⟨#[48, 120]⟩] w fun e w' => e = .returned (.tuple #[.string ⟨(if isHex s.data.toList then s.data.toList.drop 2 else s.data.toList).toArray⟩, .bool (isHex s.data.toList)]) ∧ w = w' := by
  have h := Tryz.strings_CutPrefix s ⟨#[48, 120]⟩ w
  rw [show (⟨#[48, 120]⟩ : ByteArray).data.toList = [48, 120] from rfl, (prefix_hex _).1, (prefix_hex _).2] at h
  exact h.mono fun e w' hh => ⟨hh.1, hh.2.symm⟩
theorem conv_u64 (n : Nat) (h : n < 1099511627776) : IntKind.i64.wrap (n : Int) = (n : Int) := by rw [IntKind.wrap_i64]; omega
set_option maxHeartbeats 6000000 in
theorem number_some (s : ByteArray) (n : Nat) (hn : numP s.data.toList = some n) (hs : s.size ≤ 1000000) (w : World) (E : Errs w) : Calls Tryz.prog 72 #[.string s] w fun e w' => e = .returned (.tuple #[.int .i64 n, .bool true]) ∧ Below w.heap.size w w' := by
  unfold numP at hn
  rcases hx : isHex s.data.toList with _ | _
  · rw [hx] at hn
    simp only [Bool.false_eq_true, if_false] at hn
    rcases hb : numB 10 s.data.toList with _ | m
    · rw [hb] at hn; cases hn
    rw [hb] at hn
    simp only at hn
    split at hn
    rotate_left
    · cases hn
    rename_i hhead
    obtain rfl : m = n := Option.some.inj hn
    have hlt := numB_lt hb
    have hne := (numB_hex hb).1
    have hz : 0 < s.size := by
      rw [← len_of]
      exact List.length_pos_iff.2 hne
    have hcut := cut_hex s w
    rw [hx] at hcut
    simp only [Bool.false_eq_true, if_false] at hcut
    rw [← str_of] at hcut
    have hm1 : (m : Int) ≤ 1099511627775 := by omega
    have hcv : IntKind.i64.wrap (m : Int) = (m : Int) := conv_u64 m hlt
    have HB := Lib.hid hb
    have HCUT := Lib.hid hcut
    have hr0 : Below w.heap.size w w.drew := (Below.refl _ _).drew
    clear hb hcut hx hn hlt hne
    by_cases h48 : s.data.toList = [48]
    · have e0 : (s.toList == [48]) = true := by rw [toList_of, h48]; rfl
      have a0 : ((s[0]'hz).toNat : Int) = 48 := by
        have h3 : s.data.toList[0]? = some (s[0]'hz) := by
          rw [List.getElem?_eq_getElem (by rw [len_of]; exact hz)]
          rfl
        rw [h48] at h3
        rw [← Option.some.inj h3]
        rfl
      have hz0 : (0 : Int) < s.size := by omega
      clear h48 hhead
      go_enter Tryz.func72, Tryz.ntmps72
      go_wp2_with fail
      refine HCUT.out.mono ?_
      rintro e w' ⟨rfl, rfl⟩
      go_wp2_with fail
      refine (pubUint_some 10 (.inl rfl) s m HB.out hs _ E).mono ?_
      rintro e w1 ⟨rfl, hb1⟩
      have hr1 : Below w1.heap.size w1 w1.drew := (Below.refl _ _).drew
      go_wp2_with fail
      refine wp_region_held_drew (S := fun _ => True) (by kernel_rfl) trivial (fun hHeld => ?_)
      refine wpAnyH_take (i := 0) (v := ?_) rfl (by kernel_rfl) (by kernel_rfl) (by kernel_rfl) (fun _ _ _ h => h) (Or.inl ⟨by kernel_rfl, ?_⟩) (by assumption) ?_
      rotate_left
      · intro wq hSq
        (try dsimp only at hSq)
        go_simp
        all_goals with_reducible rfl
      try simp only [Act.put, List.setIfInBounds_toArray, List.set_cons_zero, List.set_cons_succ]
      refine wpAnyH_take (i := 1) (v := ?_) rfl (by kernel_rfl) (by kernel_rfl) (by kernel_rfl) (fun _ _ _ h => h) (Or.inl ⟨by kernel_rfl, ?_⟩) (by assumption) ?_
      rotate_left
      · intro wq hSq
        (try dsimp only at hSq)
        go_simp
        all_goals with_reducible rfl
      try simp only [Act.put, List.setIfInBounds_toArray, List.set_cons_zero, List.set_cons_succ]
      refine wpAnyH_take (i := 2) (v := ?_) rfl (by kernel_rfl) (by kernel_rfl) (by kernel_rfl) (fun _ _ _ h => h) (Or.inl ⟨by kernel_rfl, ?_⟩) (by assumption) ?_
      rotate_left
      · intro wq hSq
        (try dsimp only at hSq)
        go_simp
        all_goals with_reducible rfl
      try simp only [Act.put, List.setIfInBounds_toArray, List.set_cons_zero, List.set_cons_succ]
      refine wpAnyH_take (i := 3) (v := ?_) rfl (by kernel_rfl) (by kernel_rfl) (by kernel_rfl) (fun _ _ _ h => h) (Or.inl ⟨by kernel_rfl, ?_⟩) (by assumption) ?_
      rotate_left
      · intro wq hSq
        (try dsimp only at hSq)
        go_simp
        all_goals with_reducible rfl
      try simp only [Act.put, List.setIfInBounds_toArray, List.set_cons_zero, List.set_cons_succ]
      refine wpAnyH_take (i := 4) (v := ?_) rfl (by kernel_rfl) (by kernel_rfl) (by kernel_rfl) (fun _ _ _ h => h) (Or.inl ⟨by kernel_rfl, ?_⟩) (by assumption) ?_
      rotate_left
      · intro wq hSq
        (try dsimp only at hSq)
        go_simp
        all_goals with_reducible rfl
      try simp only [Act.put, List.setIfInBounds_toArray, List.set_cons_zero, List.set_cons_succ]
      refine wpAnyH_take (i := 5) (v := ?_) rfl (by kernel_rfl) (by kernel_rfl) (by kernel_rfl) (fun _ _ _ h => h) (Or.inl ⟨by kernel_rfl, ?_⟩) (by assumption) ?_
      rotate_left
      · intro wq hSq
        (try dsimp only at hSq)
        go_simp
        all_goals with_reducible rfl
      try simp only [Act.put, List.setIfInBounds_toArray, List.set_cons_zero, List.set_cons_succ]
      refine wpAnyH_ready (rs := [6]) (by kernel_rfl) (by simp) ?_
      refine AllReadyH.cons rfl (fun K hK => ?_) AllReadyH.nil
      go_simp
      go_at_call 91
      refine (contains_no s 10 m HB.out hs _).mono ?_
      rintro e w2 ⟨rfl, hb2⟩
      go_wp2_with fail
      refine hK.out _ _ trivial (fun hHeld => ?_)
      try simp only [Act.put, List.setIfInBounds_toArray, List.set_cons_zero, List.set_cons_succ]
      refine wpAnyH_take (i := 7) (v := ?_) rfl (by kernel_rfl) (by kernel_rfl) (by kernel_rfl) (fun _ _ _ h => h) (Or.inl ⟨by kernel_rfl, ?_⟩) (by assumption) ?_
      rotate_left
      · intro wq hSq
        (try dsimp only at hSq)
        go_simp
        all_goals with_reducible rfl
      try simp only [Act.put, List.setIfInBounds_toArray, List.set_cons_zero, List.set_cons_succ]
      refine wpAnyH_take (i := 8) (v := ?_) rfl (by kernel_rfl) (by kernel_rfl) (by kernel_rfl) (fun _ _ _ h => h) (Or.inl ⟨by kernel_rfl, ?_⟩) (by assumption) ?_
      rotate_left
      · intro wq hSq
        (try dsimp only at hSq)
        go_simp
        all_goals with_reducible rfl
      try simp only [Act.put, List.setIfInBounds_toArray, List.set_cons_zero, List.set_cons_succ]
      refine wpAnyH_take (i := 9) (v := ?_) rfl (by kernel_rfl) (by kernel_rfl) (by kernel_rfl) (fun _ _ _ h => h) (Or.inl ⟨by kernel_rfl, ?_⟩) (by assumption) ?_
      rotate_left
      · intro wq hSq
        (try dsimp only at hSq)
        go_simp
        all_goals with_reducible rfl
      try simp only [Act.put, List.setIfInBounds_toArray, List.set_cons_zero, List.set_cons_succ]
      refine wpAnyH_take (i := 10) (v := ?_) rfl (by kernel_rfl) (by kernel_rfl) (by kernel_rfl) (fun _ _ _ h => h) (Or.inl ⟨by kernel_rfl, ?_⟩) (by assumption) ?_
      rotate_left
      · intro wq hSq
        (try dsimp only at hSq)
        go_simp
        all_goals with_reducible rfl
      try simp only [Act.put, List.setIfInBounds_toArray, List.set_cons_zero, List.set_cons_succ]
      refine wpAnyH_take (i := 11) (v := ?_) rfl (by kernel_rfl) (by kernel_rfl) (by kernel_rfl) (fun _ _ _ h => h) (Or.inl ⟨by kernel_rfl, ?_⟩) (by assumption) ?_
      rotate_left
      · intro wq hSq
        (try dsimp only at hSq)
        go_simp
        all_goals with_reducible rfl
      try simp only [Act.put, List.setIfInBounds_toArray, List.set_cons_zero, List.set_cons_succ]
      refine wpAnyH_take (i := 12) (v := ?_) rfl (by kernel_rfl) (by kernel_rfl) (by kernel_rfl) (fun _ _ _ h => h) (Or.inl ⟨by kernel_rfl, ?_⟩) (by assumption) ?_
      rotate_left
      · intro wq hSq
        (try dsimp only at hSq)
        go_simp
        all_goals with_reducible rfl
      try simp only [Act.put, List.setIfInBounds_toArray, List.set_cons_zero, List.set_cons_succ]
      refine wpAnyH_take (i := 13) (v := undef) rfl (by kernel_rfl) (by kernel_rfl) (by kernel_rfl) (fun _ _ _ h => h) (Or.inr ⟨by kernel_rfl, rfl⟩) (by assumption) ?_
      try simp only [Act.put, List.setIfInBounds_toArray, List.set_cons_zero, List.set_cons_succ]
      refine wpAnyH_take (i := 14) (v := undef) rfl (by kernel_rfl) (by kernel_rfl) (by kernel_rfl) (fun _ _ _ h => h) (Or.inr ⟨by kernel_rfl, rfl⟩) (by assumption) ?_
      try simp only [Act.put, List.setIfInBounds_toArray, List.set_cons_zero, List.set_cons_succ]
      refine wpAnyH_take (i := 15) (v := undef) rfl (by kernel_rfl) (by kernel_rfl) (by kernel_rfl) (fun _ _ _ h => h) (Or.inr ⟨by kernel_rfl, rfl⟩) (by assumption) ?_
      try simp only [Act.put, List.setIfInBounds_toArray, List.set_cons_zero, List.set_cons_succ]
      refine wpAnyH_take (i := 16) (v := ?_) rfl (by kernel_rfl) (by kernel_rfl) (by kernel_rfl) (fun _ _ _ h => h) (Or.inl ⟨by kernel_rfl, ?_⟩) (by assumption) ?_
      rotate_left
      · intro wq hSq
        (try dsimp only at hSq)
        go_simp
        all_goals with_reducible rfl
      try simp only [Act.put, List.setIfInBounds_toArray, List.set_cons_zero, List.set_cons_succ]
      refine wpAnyH_take (i := 17) (v := ?_) rfl (by kernel_rfl) (by kernel_rfl) (by kernel_rfl) (fun _ _ _ h => h) (Or.inl ⟨by kernel_rfl, ?_⟩) (by assumption) ?_
      rotate_left
      · intro wq hSq
        (try dsimp only at hSq)
        go_simp
        all_goals with_reducible rfl
      try simp only [Act.put, List.setIfInBounds_toArray, List.set_cons_zero, List.set_cons_succ]
      refine wpAnyH_take (i := 18) (v := ?_) rfl (by kernel_rfl) (by kernel_rfl) (by kernel_rfl) (fun _ _ _ h => h) (Or.inl ⟨by kernel_rfl, ?_⟩) (by assumption) ?_
      rotate_left
      · intro wq hSq
        (try dsimp only at hSq)
        go_simp
        all_goals with_reducible rfl
      try simp only [Act.put, List.setIfInBounds_toArray, List.set_cons_zero, List.set_cons_succ]
      refine wpAnyH_take (i := 19) (v := ?_) rfl (by kernel_rfl) (by kernel_rfl) (by kernel_rfl) (fun _ _ _ h => h) (Or.inl ⟨by kernel_rfl, ?_⟩) (by assumption) ?_
      rotate_left
      · intro wq hSq
        (try dsimp only at hSq)
        go_simp
        all_goals with_reducible rfl
      try simp only [Act.put, List.setIfInBounds_toArray, List.set_cons_zero, List.set_cons_succ]
      refine wpAnyH_done (by kernel_rfl) ?_ _
      try simp only [Act.put, List.getElem_toArray, List.getElem_cons_succ, List.getElem_cons_zero, List.setIfInBounds_toArray, List.set_cons_zero, List.set_cons_succ]
      go_wp2_with fail
      go_ret2
      exact ⟨by simp, below_step hb1 (hr1.trans hb2)⟩
    · have e0 : (s.toList == [48]) = false := by rw [toList_of]; simpa using h48
      have e1 : ((s[0]'hz).toNat : Int) ≠ 48 := by
        rcases hhead with h | h
        · exact absurd h h48
        · intro h2
          apply h
          have h3 : s.data.toList[0]? = some (s[0]'hz) := by
            rw [List.getElem?_eq_getElem (by rw [len_of]; exact hz)]
            rfl
          rw [List.head?_eq_getElem?, h3]
          congr 1
          apply UInt8.toNat_inj.1
          have : (s[0]'hz).toNat = 48 := by omega
          exact this
      obtain ⟨B0, hB0⟩ : ∃ B0 : Nat, (s[0]'hz).toNat = B0 := ⟨_, rfl⟩
      have a0 : ((s[0]'hz).toNat : Int) = (B0 : Int) := by rw [hB0]
      rw [a0] at e1
      have e2 : ((B0 : Int) != 48) = true := by simpa using e1
      have hBl : B0 < 256 := by rw [← hB0]; exact UInt8.toNat_lt _
      clear e1 hB0
      have hz0 : (0 : Int) < s.size := by omega
      clear h48 hhead
      go_enter Tryz.func72, Tryz.ntmps72
      go_wp2_with fail
      refine HCUT.out.mono ?_
      rintro e w' ⟨rfl, rfl⟩
      go_wp2_with fail
      refine (pubUint_some 10 (.inl rfl) s m HB.out hs _ E).mono ?_
      rintro e w1 ⟨rfl, hb1⟩
      have hr1 : Below w1.heap.size w1 w1.drew := (Below.refl _ _).drew
      go_wp2_with fail
      go_region_held3 (fun _ => True) (trivial) ((go_at_call 91; refine (contains_no s 10 m HB.out hs _).mono ?_; rintro e w2 ⟨rfl, hb2⟩))
      go_wp2_with fail
      go_ret2
      exact ⟨by simp, below_step hb1 (hr1.trans hb2)⟩
  · rw [hx] at hn
    simp only [if_true] at hn
    have hlt := numB_lt hn
    have hcut := cut_hex s w
    rw [hx] at hcut
    simp only [if_true] at hcut
    obtain ⟨R, hR⟩ : ∃ R : ByteArray, (⟨(s.data.toList.drop 2).toArray⟩ : ByteArray) = R := ⟨_, rfl⟩
    have hRl : R.data.toList = s.data.toList.drop 2 := by rw [← hR]
    rw [hR] at hcut
    rw [← hRl] at hn
    have hRz : R.size ≤ 1000000 := by rw [← len_of, hRl, List.length_drop, len_of]; omega
    have hcv : IntKind.i64.wrap (n : Int) = (n : Int) := conv_u64 n hlt
    have hm1 : (n : Int) ≤ 1099511627775 := by omega
    have HB := Lib.hid hn
    have HCUT := Lib.hid hcut
    clear hn hcut hx hlt hR hRl
    go_enter Tryz.func72, Tryz.ntmps72
    go_wp2_with fail
    refine HCUT.out.mono ?_
    rintro e w' ⟨rfl, rfl⟩
    go_wp2_with fail
    refine (pubUint_some 16 (.inr rfl) R n HB.out hRz _ E).mono ?_
    rintro e w1 ⟨rfl, hb1⟩
    go_wp2_with fail
    refine (contains_no R 16 n HB.out hRz _).mono ?_
    rintro e w2 ⟨rfl, hb2⟩
    go_wp2_with fail
    go_ret2
    exact ⟨by simp, below_step hb1 hb2⟩
set_option maxHeartbeats 6000000 in
theorem number_none (s : ByteArray) (hn : numP s.data.toList = none) (hs : s.size ≤ 1000000) (w : World) (E : Errs w) : Calls Tryz.prog 72 #[.string s] w fun e w' => ∃ x : Int, e = .returned (.tuple #[.int .i64 x, .bool false]) ∧ Below w.heap.size w w' := by
  unfold numP at hn
  rcases hx : isHex s.data.toList with _ | _
  · rw [hx] at hn
    simp only [Bool.false_eq_true, if_false] at hn
    have hcut := cut_hex s w
    rw [hx] at hcut
    simp only [Bool.false_eq_true, if_false] at hcut
    rw [← str_of] at hcut
    have HCUT := Lib.hid hcut
    clear hcut hx
    rcases hb : numB 10 s.data.toList with _ | m
    · have HB := Lib.hid hb
      clear hb hn
      go_enter Tryz.func72, Tryz.ntmps72
      go_wp2_with fail
      refine HCUT.out.mono ?_
      rintro e w' ⟨rfl, rfl⟩
      go_wp2_with fail
      refine (pubUint_none 10 (.inl rfl) s HB.out hs _ E).mono ?_
      rintro e w1 ⟨v, t, x, rfl, hb1⟩
      have hr1 : Below w1.heap.size w1 w1.drew := (Below.refl _ _).drew
      go_wp2_with fail
      go_region
      go_wp2_with fail
      all_goals
        go_ret2
        exact ⟨_, rfl, below_step hb1 hr1⟩
    · rw [hb] at hn
      simp only at hn
      split at hn
      · cases hn
      rename_i hhead
      have hlt := numB_lt hb
      have hne := (numB_hex hb).1
      have hz : 0 < s.size := by
        rw [← len_of]
        exact List.length_pos_iff.2 hne
      have h48 : ¬ s.data.toList = [48] := fun h => hhead (.inl h)
      have e0 : (s.toList == [48]) = false := by rw [toList_of]; simpa using h48
      have e1 : (s[0]'hz).toNat = 48 := by
        have h3 : s.data.toList[0]? = some (s[0]'hz) := by
          rw [List.getElem?_eq_getElem (by rw [len_of]; exact hz)]
          rfl
        have h4 : s.data.toList.head? = some 48 := by
          rcases hh : s.data.toList.head? with _ | y
          · rw [List.head?_eq_none_iff] at hh; exact absurd hh hne
          · by_cases hy : y = 48
            · rw [hy]
            · exact absurd (.inr (by rw [hh]; simpa using hy)) hhead
        rw [List.head?_eq_getElem?, h3] at h4
        rw [Option.some.inj h4]
        rfl
      have a0 : ((s[0]'hz).toNat : Int) = 48 := by rw [e1]; rfl
      have hz0 : (0 : Int) < s.size := by omega
      have hm1 : (m : Int) ≤ 1099511627775 := by omega
      have hcv : IntKind.i64.wrap (m : Int) = (m : Int) := conv_u64 m hlt
      have HB := Lib.hid hb
      clear hb hn hhead h48 hne e1 hlt
      go_enter Tryz.func72, Tryz.ntmps72
      go_wp2_with fail
      refine HCUT.out.mono ?_
      rintro e w' ⟨rfl, rfl⟩
      go_wp2_with fail
      refine (pubUint_some 10 (.inl rfl) s m HB.out hs _ E).mono ?_
      rintro e w1 ⟨rfl, hb1⟩
      have hr1 : Below w1.heap.size w1 w1.drew := (Below.refl _ _).drew
      go_wp2_with fail
      go_region_held3 (fun _ => True) (trivial) ((go_at_call 91; refine (contains_no s 10 m HB.out hs _).mono ?_; rintro e w2 ⟨rfl, hb2⟩))
      go_wp2_with fail
      go_ret2
      exact ⟨_, rfl, below_step hb1 (hr1.trans hb2)⟩
  · rw [hx] at hn
    simp only [if_true] at hn
    have hcut := cut_hex s w
    rw [hx] at hcut
    simp only [if_true] at hcut
    obtain ⟨R, hR⟩ : ∃ R : ByteArray, (⟨(s.data.toList.drop 2).toArray⟩ : ByteArray) = R := ⟨_, rfl⟩
    have hRl : R.data.toList = s.data.toList.drop 2 := by rw [← hR]
    rw [hR] at hcut
    rw [← hRl] at hn
    have hRz : R.size ≤ 1000000 := by rw [← len_of, hRl, List.length_drop, len_of]; omega
    have HB := Lib.hid hn
    have HCUT := Lib.hid hcut
    clear hn hcut hx hR hRl
    go_enter Tryz.func72, Tryz.ntmps72
    go_wp2_with fail
    refine HCUT.out.mono ?_
    rintro e w' ⟨rfl, rfl⟩
    go_wp2_with fail
    refine (pubUint_none 16 (.inr rfl) R HB.out hRz _ E).mono ?_
    rintro e w1 ⟨v, t, x, rfl, hb1⟩
    go_wp2_with fail
    go_ret2
    exact ⟨_, rfl, hb1⟩
/- the number that a value is, and what is wrong with it -/
def numeralV (v : List UInt8) (low high : Int) : Value := match numP v with
  | none => .tuple #[.int .i64 0, errv 3]
  | some n => if (n : Int) < low ∨ high < n then .tuple #[.int .i64 0, errv 2] else .tuple #[.int .i64 n, .nilIface]
theorem numeral_any (s : ByteArray) (low high : Int) (hs : s.size ≤ 1000000) (w : World) (E : Errs w) : Calls Tryz.prog 64 #[.string s, .int .i64 low, .int .i64 high] w fun e w' => e = .returned (numeralV s.data.toList low high) ∧ Below w.heap.size w w' := by
  unfold numeralV
  rcases hn : numP s.data.toList with _ | n
  · have HN := Lib.hid hn
    clear hn
    go_enter Tryz.func64, Tryz.ntmps64
    go_wp2_with fail
    refine (number_none s HN.out hs _ E).mono ?_
    rintro e w1 ⟨x, rfl, hb1⟩
    go_wp2_with fail
    go_ret2
    exact ⟨rfl, hb1⟩
  · have HN := Lib.hid hn
    clear hn
    simp only
    by_cases h1 : (n : Int) < low
    · rw [if_pos (.inl h1)]
      go_enter Tryz.func64, Tryz.ntmps64
      go_wp2_with fail
      refine (number_some s n HN.out hs _ E).mono ?_
      rintro e w1 ⟨rfl, hb1⟩
      go_wp2_with fail
      go_ret2
      exact ⟨rfl, hb1⟩
    · by_cases h2 : high < (n : Int)
      · rw [if_pos (.inr h2)]
        go_enter Tryz.func64, Tryz.ntmps64
        go_wp2_with fail
        refine (number_some s n HN.out hs _ E).mono ?_
        rintro e w1 ⟨rfl, hb1⟩
        go_wp2_with fail
        go_ret2
        exact ⟨rfl, hb1⟩
      · rw [if_neg (by omega)]
        go_enter Tryz.func64, Tryz.ntmps64
        go_wp2_with fail
        refine (number_some s n HN.out hs _ E).mono ?_
        rintro e w1 ⟨rfl, hb1⟩
        go_wp2_with fail
        go_ret2
        exact ⟨rfl, hb1⟩
end Go.Proofs.YtadhlnpegigadaaGreatDoor
