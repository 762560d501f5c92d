/-
  Several texts in one. No conditions.
-/
import Derived.Test.YtpdblmcflniomaaGreatDoorIv11
namespace Go.Proofs.YtpdblmcflniomaaGreatDoor
open Go.RowKit

def digB (d : Int) : ByteArray := ⟨#[UInt8.ofNat (48 + d.toNat)]⟩
theorem itB_low {n : Int} (h0 : 0 ≤ n) (h : n < 10) : itB n = digB n := by
  obtain ⟨u, rfl⟩ := Int.eq_ofNat_of_zero_le h0
  rw [itB_nat, Lib.decDigits, dif_pos (by omega)]; rfl
theorem itB_high {n : Int} (h : 10 ≤ n) : itB n = itB (n / 10) ++ digB (n % 10) := by
  obtain ⟨u, rfl⟩ := Int.eq_ofNat_of_zero_le (by omega : 0 ≤ n)
  have e1 : (u : Int) / 10 = ((u / 10 : Nat) : Int) := by omega
  have e2 : ((u : Int) % 10).toNat = u % 10 := by omega
  rw [digB, e2, e1, itB_nat, itB_nat, Lib.decDigits, dif_neg (by omega)]
  apply ba_ext; simp
theorem conv1 (W : World) (b cap : Nat) (d : Int) (h0 : 0 ≤ d) (h1 : d ≤ 9) (hc : W.cell? ⟨b, 0, none⟩ = some (.int .u8 (48 + d))) :
    (convert 22 9 (.slice (some ⟨b, 0, none⟩) 1 cap)).run Tryz.prog W = .ok (.string (digB d)) W := by
  refine run_convert_bytes_back W 22 9 5 ⟨b, 0, none⟩ cap [UInt8.ofNat (48 + d.toNat)] Tryz.underlying22 Tryz.underlying5 Tryz.underlying9 ?_
  intro j hj
  have hj0 : j = 0 := by simpa using hj
  subst hj0
  have e : ((UInt8.ofNat (48 + d.toNat)).toNat : Int) = 48 + d := by rw [u8n (by omega)]; omega
  rw [addr_add]
  simp only [List.getElem_cons_zero, e]
  exact hc
set_option maxRecDepth 100000 in
set_option maxHeartbeats 4000000 in
theorem l1Num_upto (k : Nat) : ∀ (n : Int) (w : World), 0 ≤ n → n ≤ 1000000 → n.toNat ≤ k → Calls Tryz.prog 94 #[.int .i64 n] w fun e w' => e = .returned (.string (itB n)) ∧ Below w.heap.size w w' := by
  induction k with
  | zero =>
    intro n w h0 h1 hk
    obtain rfl : n = 0 := by omega
    have kc := conv1 (w.alloc (.cells #[.int .u8 48] 5)) w.heap.size 1 0 (by omega) (by omega) (by go_simp)
    go_enter Tryz.func94, Tryz.ntmps94
    go_wp2
    go_ret
    exact ⟨by rw [itB_low (by omega) (by omega)]; rfl, bl_alloc (bl_refl _) _⟩
  | succ k ih =>
    intro n w h0 h1 hk
    by_cases h : n < 10
    · have kc := conv1 (w.alloc (.cells #[.int .u8 (48 + n)] 5)) w.heap.size 1 n h0 (by omega) (by go_simp)
      go_enter Tryz.func94, Tryz.ntmps94
      go_wp2
      go_ret
      exact ⟨by rw [itB_low h0 h]; rfl, bl_alloc (bl_refl _) _⟩
    · have hg : 10 ≤ n := by omega
      have hi : ∀ W : World, Calls Tryz.prog 94 #[.int .i64 (n / 10)] W fun e w' => e = .returned (.string (itB (n / 10))) ∧ Below W.heap.size W w' := fun W => ih (n / 10) W (by omega) (by omega) (by omega)
      have hd0 : 0 ≤ n % 10 := by omega
      have hd1 : n % 10 ≤ 9 := by omega
      have kc := fun (W : World) (b : Nat) => conv1 W b 1 (n % 10) hd0 hd1
      have hs := it_len (n := n / 10) (by omega) 5 (by omega)
      have HI := Lib.hid hi
      have hds : (digB (n % 10)).size ≤ 1 := Nat.le_refl 1
      have w1 : n.tdiv 10 = n / 10 := Int.tdiv_eq_ediv_of_nonneg h0
      have w2 : n.tmod 10 = n % 10 := Int.tmod_eq_emod_of_nonneg h0
      have w3 : IntKind.i64.wrap (n / 10) = n / 10 := IntWalk.i64_in _ (by omega)
      have w4 : IntKind.i64.wrap (48 + n % 10) = 48 + n % 10 := IntWalk.i64_in _ (by omega)
      have w5 : IntKind.u8.wrap (48 + n % 10) = 48 + n % 10 := by rw [IntKind.wrap_u8]; omega
      have w6 : IntKind.i64.wrap (n % 10) = n % 10 := IntWalk.i64_in _ (by omega)
      clear hi ih hk h
      rw [itB_high hg]
      go_enter Tryz.func94, Tryz.ntmps94
      go_wp2_with fail
      go_region_with (first | (go_at_call 94; refine (HI.out _).mono ?_; rintro e V ⟨rfl, hb⟩; obtain hq : V.cell? ⟨w.heap.size, 0, none⟩ = some (.int .u8 (48 + n % 10)); focus (refine cell_later hb ?_; go_simp; done)) | (go_at_call 94; refine (HI.out _).mono ?_; rintro e V ⟨rfl, hb⟩))
      all_goals
        clear kc w1 w2 w3 w4 w5 w6
        go_wp2
        go_ret
        exact ⟨rfl, by first | exact bl_alloc (bl_trans (bl_drew (bl_refl w)) hb) _ | exact bl_trans (bl_drew (bl_refl w)) hb | exact bl_trans (bl_alloc (bl_drew (bl_refl w)) _) hb⟩
theorem l1Num_any (n : Int) (w : World) (h0 : 0 ≤ n) (h1 : n ≤ 1000000) : Calls Tryz.prog 94 #[.int .i64 n] w fun e w' => e = .returned (.string (itB n)) ∧ Below w.heap.size w w' := l1Num_upto n.toNat n w h0 h1 (Nat.le_refl _)
theorem sumL_bt {s : ByteArray} {k : Nat} (hk : k < s.size) : sumL (s.data.toList.take (k + 1)) = (31 * sumL (s.data.toList.take k) + Go.PlainAid.bt s k) % 99991 := by
  have h : k < s.data.toList.length := by rw [ba_len]; exact hk
  rw [sumL_take hk, List.getD_eq_getElem?_getD, List.getElem?_eq_getElem h, ← Go.PlainAid.get_bt s k hk]; rfl
end Go.Proofs.YtpdblmcflniomaaGreatDoor

namespace Go.Proofs.YtpdblmcflniomaaGreatDoor
open Go.RowKit Go.PlainAid

theorem el_strJ : Elem Tryz.prog 30 9 (Flat.sz ByteArray) := elem_mk Tryz.underlying30 (by kernel_rfl)
theorem bt_list {s : ByteArray} {k : Nat} (h : k < s.size) : s.data.toList[k]? = some (s[k]'h) := by
  rw [List.getElem?_eq_getElem (by rw [ba_len]; exact h)]; rfl
theorem bt_eq {s : ByteArray} {k : Nat} {c : UInt8} (h : k < s.size) (e : bt s k = (c.toNat : Int)) : s.data.toList[k]? = some c := by
  rw [bt_list h]; congr 1
  rw [← get_bt s k h] at e
  exact UInt8.toNat_inj.1 (by omega)
theorem bt_ne {s : ByteArray} {k : Nat} {c : UInt8} (h : k < s.size) (e : bt s k ≠ (c.toNat : Int)) : s.data.toList[k]? ≠ some c := fun he => by
  rw [bt_list h] at he; injection he with he
  exact e (by rw [← get_bt s k h, he])
theorem ex_list (s : ByteArray) (f : Nat) : (s.extract f s.size).data.toList = s.data.toList.drop f := by
  rw [ba_ex, List.take_of_length_le (by rw [List.length_drop, ba_len]; exact Nat.le_refl _)]
theorem notin_ex {s : ByteArray} {c : UInt8} {f k : Nat} (hk : k ≤ s.size) (hno : ∀ j, f ≤ j → j < k → bt s j ≠ (c.toNat : Int)) : c ∉ (s.data.toList.drop f).take (k - f) := fun hm => by
  obtain ⟨j, hj, e⟩ := List.getElem_of_mem hm
  rw [List.length_take, List.length_drop, ba_len] at hj
  refine bt_ne (s := s) (k := f + j) (by omega) (hno (f + j) (by omega) (by omega)) ?_
  rw [List.getElem_take, List.getElem_drop] at e
  rw [List.getElem?_eq_getElem (by rw [ba_len]; omega), e]
theorem cut_step {s : ByteArray} {c : UInt8} {f k : Nat} (hfk : f ≤ k) (hk : k < s.size) (hno : ∀ j, f ≤ j → j < k → bt s j ≠ (c.toNat : Int)) (he : bt s k = (c.toNat : Int)) :
    cutB c (s.extract f s.size) = s.extract f k :: cutB c (s.extract (k + 1) s.size) := by
  have h1 : s.data.toList.drop f = (s.data.toList.drop f).take (k - f) ++ c :: s.data.toList.drop (k + 1) := by
    have h2 : (s.data.toList.drop f)[k - f]? = some c := by rw [List.getElem?_drop, show f + (k - f) = k by omega]; exact bt_eq hk he
    have h3 := at_parts h2
    rw [List.drop_drop, show f + (k - f + 1) = k + 1 by omega] at h3
    exact h3
  unfold cutB
  rw [ex_list, ex_list, h1, cutL_app _ (notin_ex (by omega) hno), List.map_cons]
  congr 1
  apply ba_ext; rw [ba_mk, ba_ex]
theorem cut_last {s : ByteArray} {c : UInt8} {f : Nat} (hno : ∀ j, f ≤ j → j < s.size → bt s j ≠ (c.toNat : Int)) : cutB c (s.extract f s.size) = [s.extract f s.size] := by
  have h := notin_ex (Nat.le_refl s.size) hno
  rw [List.take_of_length_le (by rw [List.length_drop, ba_len]; exact Nat.le_refl _)] at h
  unfold cutB
  rw [ex_list, cutL_none h, List.map_cons, List.map_nil]
  congr 1
  apply ba_ext; rw [ba_mk, ex_list]
theorem cut_whole (s : ByteArray) : s.extract 0 s.size = s := by apply ba_ext; rw [ex_list]; rfl
set_option maxRecDepth 100000 in
set_option maxHeartbeats 2000000 in
theorem l1Split_any (s : ByteArray) (c : UInt8) (w : World) (hs : s.size ≤ 1048576) :
    Calls Tryz.prog 70 #[.string s, .int .u8 (c.toNat : Int)] w (RetOwn w 9 (cutB c s)) := by
  have hbt := get_bt s
  obtain ⟨d, hd⟩ : ∃ d : Int, d = (c.toNat : Int) := ⟨_, rfl⟩
  have HD := Lib.hid hd
  rw [← hd]
  clear hd
  go_enter Tryz.func70, Tryz.ntmps70
  go_wp2
  go_loopw [5, 6, 7] (fun v fr i wr => ∃ (k f q c' : Nat) (A' : Option Addr) (L : List ByteArray), f ≤ k ∧ k ≤ s.size ∧ i = .int .i64 k ∧ fr = .int .i64 f ∧ v = .slice A' q c' ∧ q ≤ k ∧ Own wr w.heap.size 9 (.slice A' q c') L ∧ Below w.heap.size w wr
    ∧ Hid (cutB c s = L ++ cutB c (s.extract f s.size)) ∧ Hid (∀ j, f ≤ j → j < k → bt s j ≠ (c.toNat : Int))) (fun _ _ i _ => s.size - (intOf i).toNat)
  case atStart => exact ⟨0, 0, 0, 0, none, [], Nat.le_refl _, Nat.zero_le _, rfl, rfl, rfl, Nat.le_refl _, Own.nil _ _ _, bl_refl _, by rw [Hid, cut_whole]; rfl, fun j _ h => absurd h (by omega)⟩
  case round =>
    obtain ⟨k, f, q, c', A', L, hfk, hk, rfl, rfl, rfl, hq, ho, hb, hL, hno⟩ := hrel
    have hfi : (0 : Int) ≤ (f : Int) := by omega
    have hfki : (f : Int) ≤ (k : Int) := by omega
    have hki : (k : Int) ≤ (s.size : Int) := by omega
    by_cases hlt : k < s.size
    · by_cases he : bt s k = d
      · have hst := Lib.hid (cut_step hfk hlt hno.out (by rw [he]; exact HD.out))
        have he' : (bt s k == d) = true := by simpa using he
        have he2 : decide (bt s k = d) = true := by simpa using he
        have HE := Lib.hid he
        clear he
        go_wp2_with ((at_builtin; refine wpList_app1g rfl (.tmp 19) (.tmp 24) _ _ rfl el_strJ (s.extract f k) rfl ho hb rfl (by simp) (by omega) ?_; intro A2 c2 w2 ho2 hb2 hg2))
        go_roundw
        case rel => exact ⟨k + 1, k + 1, q + 1, c2, A2, L ++ [s.extract f k], Nat.le_refl _, by omega, by go_num, by go_num, rfl, by omega, ho2, hb2, by rw [Hid, hL.out, hst.out]; simp, fun j h1 h2 => absurd h2 (by omega)⟩
        case measure => simp [intOf]; omega
      · have he' : (bt s k == d) = false := by simpa using he
        have he2 : decide (bt s k = d) = false := by simpa using he
        have HE := Lib.hid he
        clear he
        go_wp2
        go_roundw
        case rel => exact ⟨k + 1, f, q, c', A', L, by omega, by omega, by go_num, rfl, rfl, by omega, ho, hb, hL, fun j h1 h2 => by
          by_cases e : j = k
          · rw [e, ← HD.out]; exact HE.out
          · exact hno.out j h1 (by omega)⟩
        case measure => simp [intOf]; omega
    · obtain rfl : k = s.size := by omega
      have hst := Lib.hid (cut_last hno.out)
      go_wp2_with ((at_builtin; refine wpList_app1g rfl (.tmp 28) (.tmp 32) _ _ rfl el_strJ (s.extract f s.size) rfl ho hb rfl (by simp) (by omega) ?_; intro A2 c2 w2 ho2 hb2 hg2))
      go_ret
      have hl := ho2.sl.1
      have e : L ++ [s.extract f s.size] = cutB c s := by rw [hL.out, hst.out]
      rw [e] at ho2 hl
      exact retOwn_mk hl ho2 hb2
end Go.Proofs.YtpdblmcflniomaaGreatDoor

namespace Go.Proofs.YtpdblmcflniomaaGreatDoor
open Go.RowKit Go.PlainAid

theorem size_list (s : ByteArray) {u : Nat} (e : s = itB (u : Int)) : s.size = (Lib.decDigits u).length := by rw [e, ← ba_len, itB_list]
theorem it_len_of {s : ByteArray} {u : Nat} (hu : u < 1000000) (e : s = itB (u : Int)) : 1 ≤ s.size ∧ s.size ≤ 6 := by
  rw [size_list s e]; exact ⟨digits_pos u, digits_len u 5 (by omega)⟩
theorem it_head {s : ByteArray} {u : Nat} (e : s = itB (u : Int)) (h : 1 < s.size) : bt s 0 ≠ 48 := by
  have hl := size_list s e
  have hu : 1 ≤ u := by
    rcases Nat.eq_zero_or_pos u with h0 | h0
    · subst h0; rw [Lib.decDigits, dif_pos (by omega)] at hl; simp at hl; omega
    · exact h0
  obtain ⟨b, l, e1, e2⟩ := digits_head u hu
  intro hb
  have h1 := bt_eq (s := s) (k := 0) (c := 48) (by omega) (by rw [hb]; rfl)
  rw [e, itB_list, e1] at h1
  simp at h1
  exact e2 (by rw [h1]; rfl)
theorem it_digs {s : ByteArray} {u : Nat} (e : s = itB (u : Int)) {k : Nat} (h : k < s.size) : 48 ≤ bt s k ∧ bt s k ≤ 57 := by
  have hm : s[k]'h ∈ Lib.decDigits u := by
    have h1 := bt_list h
    have h2 : s.data.toList = Lib.decDigits u := by rw [e, itB_list]
    rw [h2] at h1
    exact List.mem_of_getElem? h1
  have := digits_dig u _ hm
  rw [← get_bt s k h]; omega
theorem dec_step {s : ByteArray} {k n : Nat} (h : k < s.size) (hd : Lib.decFrom 0 (s.data.toList.take k) = some n) (h0 : 48 ≤ bt s k) (h1 : bt s k ≤ 57) :
    Lib.decFrom 0 (s.data.toList.take (k + 1)) = some (n * 10 + (bt s k - 48).toNat) := by
  refine Lib.decFrom_take _ _ _ _ _ _ hd (bt_list h) ?_
  rw [← get_bt s k h] at h0 h1 ⊢
  unfold Lib.digitVal
  rw [if_pos (by omega)]; congr 1; omega
theorem decFrom_ge (l : List UInt8) : ∀ acc n, Lib.decFrom acc l = some n → acc ≤ n := by
  induction l with
  | nil => intro acc n h; simp [Lib.decFrom] at h; omega
  | cons b l ih =>
    intro acc n h
    simp only [Lib.decFrom] at h
    cases hd : Lib.digitVal b with
    | none => rw [hd] at h; cases h
    | some d => rw [hd] at h; have := ih _ _ h; omega
theorem decFrom_one {b : UInt8} {l : List UInt8} {n : Nat} (h : Lib.decFrom 0 (b :: l) = some n) (hb : b.toNat ≠ 48) : 1 ≤ n := by
  simp only [Lib.decFrom] at h
  cases hd : Lib.digitVal b with
  | none => rw [hd] at h; cases h
  | some d =>
    rw [hd] at h
    have := decFrom_ge _ _ _ h
    unfold Lib.digitVal at hd
    split at hd
    · injection hd with hd; omega
    · cases hd
theorem digit_byte {b : UInt8} {d : Nat} (h : Lib.digitVal b = some d) : d < 10 ∧ b = UInt8.ofNat (48 + d) := by
  unfold Lib.digitVal at h
  split at h
  · injection h with h
    refine ⟨by omega, ?_⟩
    apply UInt8.toNat_inj.1
    rw [u8n (by omega)]; omega
  · cases h
theorem digits_of (k : Nat) : ∀ (l : List UInt8) (n : Nat), l.length = k + 1 → Lib.decFrom 0 l = some n → (∀ b r, l = b :: r → r ≠ [] → b.toNat ≠ 48) → l = Lib.decDigits n := by
  induction k with
  | zero =>
    intro l n hl h _
    match l, hl with
    | [b], _ =>
      simp only [Lib.decFrom] at h
      cases hd : Lib.digitVal b with
      | none => rw [hd] at h; cases h
      | some d =>
        rw [hd] at h
        injection h with h
        obtain ⟨h1, h2⟩ := digit_byte hd
        rw [Lib.decDigits, dif_pos (by omega), h2]
        congr 2; omega
  | succ k ih =>
    intro l n hl h hc
    obtain ⟨l', b, rfl⟩ : ∃ l' b, l = l' ++ [b] := ⟨l.dropLast, l.getLast (fun e => by rw [e] at hl; simp at hl), (List.dropLast_concat_getLast _).symm⟩
    rw [decFrom_snoc] at h
    have hl' : l'.length = k + 1 := by simpa using hl
    cases h1 : Lib.decFrom 0 l' with
    | none => rw [h1] at h; cases h
    | some m =>
      rw [h1] at h
      simp only [Option.bind_some] at h
      cases hd : Lib.digitVal b with
      | none => rw [hd] at h; cases h
      | some d =>
        rw [hd] at h
        simp only [Option.map_some, Option.some.injEq] at h
        obtain ⟨h3, h4⟩ := digit_byte hd
        have e := ih l' m hl' h1 (fun c r hr hne => hc c (r ++ [b]) (by rw [hr]; rfl) (by simp))
        have hm : 1 ≤ m := by
          match l', hl' with
          | c :: r, _ => exact decFrom_one h1 (hc c (r ++ [b]) rfl (by simp))
        have h5 : Lib.decDigits (m * 10 + d) = Lib.decDigits m ++ [UInt8.ofNat (48 + d)] := by
          rw [Lib.decDigits, dif_neg (by omega : ¬ m * 10 + d < 10), show (m * 10 + d) / 10 = m by omega, show (m * 10 + d) % 10 = d by omega]
        rw [e, ← h, h5, h4]
open Classical in
/-- the number that a numeral below a million spells, or -1 -/
noncomputable def rdV (s : ByteArray) : Int := if h : ∃ u : Nat, u < 1000000 ∧ s = itB (u : Int) then (h.choose : Int) else -1
theorem rdV_it {s : ByteArray} {u : Nat} (hu : u < 1000000) (e : s = itB (u : Int)) : rdV s = (u : Int) := by
  have hx : ∃ v : Nat, v < 1000000 ∧ s = itB (v : Int) := ⟨u, hu, e⟩
  rw [rdV, dif_pos hx]
  have h1 := hx.choose_spec
  have h2 : itB (hx.choose : Int) = itB (u : Int) := by rw [← h1.2, e]
  exact it_inj (by omega) (by omega) (by omega) (by omega) h2
theorem rdV_no {s : ByteArray} (h : ∀ u : Nat, u < 1000000 → s ≠ itB (u : Int)) : rdV s = -1 := by
  rw [rdV, dif_neg]
  rintro ⟨u, h1, h2⟩; exact h u h1 h2
theorem rdV_bd (s : ByteArray) : -1 ≤ rdV s ∧ rdV s ≤ 999999 := by
  unfold rdV; split
  · rename_i h; have := h.choose_spec.1; omega
  · omega
theorem it_back {s : ByteArray} {a : Nat} (h1 : 1 ≤ s.size) (hd : Lib.decFrom 0 s.data.toList = some a) (hc : bt s 0 ≠ 48 ∨ s.size ≤ 1) : s = itB (a : Int) := by
  apply ba_ext
  rw [itB_list]
  refine digits_of (s.size - 1) _ _ (by rw [ba_len]; omega) hd (fun b r e hne => ?_)
  have h2 : 2 ≤ s.size := by
    rw [← ba_len, e]
    cases r with
    | nil => exact absurd rfl hne
    | cons _ _ => simp
  rcases hc with hc | hc
  · intro hb
    apply hc
    have h3 := bt_list (s := s) (k := 0) (by omega)
    rw [e] at h3
    injection h3 with h3
    rw [← get_bt s 0 (by omega), ← h3]; omega
  · omega
set_option maxRecDepth 100000 in
set_option maxHeartbeats 2000000 in
theorem l1Read_any (s : ByteArray) (w : World) (hs : s.size ≤ 1048576) : Calls Tryz.prog 100 #[.string s] w fun e w' => e = .returned (.int .i64 (rdV s)) ∧ w = w' := by
  have hbt := get_bt s
  by_cases hz : 1 ≤ s.size ∧ s.size ≤ 6
  · obtain ⟨hz1, hz2⟩ := hz
    have hin : inB (s.size : Int) 1 6 = true := inB_iff.2 ⟨by omega, by omega⟩
    have hz0 : 0 < s.size := by omega
    by_cases hh : bt s 0 = 48 ∧ 1 < s.size
    · obtain ⟨h1, h2⟩ := hh
      have h3 : decide ((s.size : Int) > 1) = true := by simp; omega
      have h4 : (bt s 0 == 48) = true := by simpa using h1
      have HF := Lib.hid (fun (u : Nat) (e : s = itB (u : Int)) => it_head e h2 h1)
      clear h1
      go_enter Tryz.func100, Tryz.ntmps100
      go_wp2_with (go_at_call 76; refine (l1In_any _ _ _ _).mono ?_; rintro e w' ⟨rfl, rfl⟩; rw [hin])
      go_ret
      exact ⟨by rw [rdV_no (fun u _ e => HF.out u e)]; rfl, rfl⟩
    · have hgo : (bt s 0 == 48) = false ∨ ((bt s 0 == 48) = true ∧ decide ((s.size : Int) > 1) = false) := by
        by_cases h1 : bt s 0 = 48
        · exact .inr ⟨by simpa using h1, by simp; omega⟩
        · exact .inl (by simpa using h1)
      have HC : Hid (bt s 0 ≠ 48 ∨ s.size ≤ 1) := by rw [Hid]; omega
      clear hh
      rcases hgo with h4 | ⟨h4, h3⟩
      all_goals
        go_enter Tryz.func100, Tryz.ntmps100
        go_wp2_with (go_at_call 76; refine (l1In_any _ _ _ _).mono ?_; rintro e w' ⟨rfl, rfl⟩; rw [hin])
        go_loop [3, 4] (fun vs vi => ∃ k a : Nat, k ≤ s.size ∧ vi = .int .i64 k ∧ vs = .int .i64 a ∧ a < 10 ^ k ∧ Hid (Lib.decFrom 0 (s.data.toList.take k) = some a)) (fun _ vi => s.size - (intOf vi).toNat)
        case atStart => exact ⟨0, 0, Nat.zero_le _, rfl, rfl, by simp, rfl⟩
        case round =>
          obtain ⟨k, a, hk, rfl, rfl, ha, hd⟩ := hrel
          have hp : 10 ^ k ≤ 10 ^ 6 := Nat.pow_le_pow_right (by omega) (by omega)
          have hp2 : 10 ^ 6 = 1000000 := rfl
          have hab : a < 1000000 := by omega
          clear hp hp2
          by_cases hlt : k < s.size
          · by_cases hdg : 48 ≤ bt s k ∧ bt s k ≤ 57
            · obtain ⟨g0, g1⟩ := hdg
              have hst := Lib.hid (dec_step hlt hd.out g0 g1)
              have hpw : a * 10 + (bt s k - 48).toNat < 10 ^ (k + 1) := by rw [Nat.pow_succ]; omega
              have HP := Lib.hid hpw
              have HA := Lib.hid ha
              have g4 : decide (bt s k > 57) = false := by simp; omega
              have g5 : decide (bt s k < 48) = false := by simp; omega
              clear hpw ha
              go_wp2
              go_round
              case rel => exact ⟨k + 1, a * 10 + (bt s k - 48).toNat, by omega, by go_num, by go_num, HP.out, hst⟩
              case measure => simp [intOf]; omega
            · have HF := Lib.hid (fun (u : Nat) (e : s = itB (u : Int)) => hdg (it_digs e hlt))
              have hno : bt s k < 48 ∨ (48 ≤ bt s k ∧ 57 < bt s k) := by omega
              have HA := Lib.hid ha
              clear hdg ha
              rcases hno with g0 | ⟨g0, g1⟩
              · have g5 : decide (bt s k < 48) = true := by simpa using g0
                go_wp2
                go_ret
                exact ⟨by rw [rdV_no (fun u _ e => HF.out u e)]; rfl, rfl⟩
              · have g5 : decide (bt s k < 48) = false := by simp; omega
                have g4 : decide (bt s k > 57) = true := by simpa using g1
                go_wp2
                go_ret
                exact ⟨by rw [rdV_no (fun u _ e => HF.out u e)]; rfl, rfl⟩
          · obtain rfl : k = s.size := by omega
            go_wp2
            go_ret
            have h1 := hd.out
            rw [List.take_of_length_le (by rw [ba_len]; exact Nat.le_refl _)] at h1
            have h2 := it_back hz1 h1 HC.out
            exact ⟨by rw [rdV_it hab h2]; rfl, rfl⟩
  · have hin : inB (s.size : Int) 1 6 = false := by
      cases h : inB (s.size : Int) 1 6 with
      | false => rfl
      | true => have := inB_iff.1 h; omega
    have HF := Lib.hid (fun (u : Nat) (hu : u < 1000000) (e : s = itB (u : Int)) => hz (it_len_of hu e))
    clear hz
    go_enter Tryz.func100, Tryz.ntmps100
    go_wp2_with (go_at_call 76; refine (l1In_any _ _ _ _).mono ?_; rintro e w' ⟨rfl, rfl⟩; rw [hin])
    go_ret
    exact ⟨by rw [rdV_no (fun u hu e => HF.out u hu e)]; rfl, rfl⟩
end Go.Proofs.YtpdblmcflniomaaGreatDoor
