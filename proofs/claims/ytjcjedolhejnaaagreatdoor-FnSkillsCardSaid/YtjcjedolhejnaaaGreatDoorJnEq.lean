/-
  The reference's reading of a numeral. No conditions.
-/
import Derived.Test.YtjcjedolhejnaaaGreatDoorJnDq
namespace Go.Proofs.YtjcjedolhejnaaaGreatDoor
open Go.RowKit Go.PlainAid

theorem size_list (s : ByteArray) {u : Nat} (e : s = itB (u : Int)) : s.size = (Lib.decDigits u).length := by rw [e, ← ba_len, itB_list]
theorem it_len_of {s : ByteArray} {u : Nat} (hu : u < 1000000) (e : s = itB (u : Int)) : 1 ≤ s.size ∧ s.size ≤ 6 := by
  rw [size_list s e]; exact ⟨digits_pos u, digits_len u 5 (by omega)⟩
theorem it_head {s : ByteArray} {u : Nat} (e : s = itB (u : Int)) (h : 1 < s.size) : bt s 0 ≠ 48 := by
  have hl := size_list s e
  have hu : 1 ≤ u := by
    rcases Nat.eq_zero_or_pos u with h0 | h0
    · subst h0; rw [Lib.decDigits, dif_pos (by omega)] at hl; simp at hl; omega
    · exact h0
  obtain ⟨b, l, e1, e2⟩ := digits_head u hu
  intro hb
  have h1 := bt_eq (s := s) (k := 0) (c := 48) (by omega) (by rw [hb]; rfl)
  rw [e, itB_list, e1] at h1
  simp at h1
  exact e2 (by rw [h1]; rfl)
theorem it_digs {s : ByteArray} {u : Nat} (e : s = itB (u : Int)) {k : Nat} (h : k < s.size) : 48 ≤ bt s k ∧ bt s k ≤ 57 := by
  have hm : s[k]'h ∈ Lib.decDigits u := by
    have h1 := bt_list h
    have h2 : s.data.toList = Lib.decDigits u := by rw [e, itB_list]
    rw [h2] at h1
    exact List.mem_of_getElem? h1
  have := digits_dig u _ hm
  rw [← get_bt s k h]; omega
theorem dec_step {s : ByteArray} {k n : Nat} (h : k < s.size) (hd : Lib.decFrom 0 (s.data.toList.take k) = some n) (h0 : 48 ≤ bt s k) (h1 : bt s k ≤ 57) :
    Lib.decFrom 0 (s.data.toList.take (k + 1)) = some (n * 10 + (bt s k - 48).toNat) := by
  refine Lib.decFrom_take _ _ _ _ _ _ hd (bt_list h) ?_
  rw [← get_bt s k h] at h0 h1 ⊢
  unfold Lib.digitVal
  rw [if_pos (by omega)]; congr 1; omega
theorem decFrom_ge (l : List UInt8) : ∀ acc n, Lib.decFrom acc l = some n → acc ≤ n := by
  induction l with
  | nil => intro acc n h; simp [Lib.decFrom] at h; omega
  | cons b l ih =>
    intro acc n h
    simp only [Lib.decFrom] at h
    cases hd : Lib.digitVal b with
    | none => rw [hd] at h; cases h
    | some d => rw [hd] at h; have := ih _ _ h; omega
theorem decFrom_one {b : UInt8} {l : List UInt8} {n : Nat} (h : Lib.decFrom 0 (b :: l) = some n) (hb : b.toNat ≠ 48) : 1 ≤ n := by
  simp only [Lib.decFrom] at h
  cases hd : Lib.digitVal b with
  | none => rw [hd] at h; cases h
  | some d =>
    rw [hd] at h
    have := decFrom_ge _ _ _ h
    unfold Lib.digitVal at hd
    split at hd
    · injection hd with hd; omega
    · cases hd
theorem digit_byte {b : UInt8} {d : Nat} (h : Lib.digitVal b = some d) : d < 10 ∧ b = UInt8.ofNat (48 + d) := by
  unfold Lib.digitVal at h
  split at h
  · injection h with h
    refine ⟨by omega, ?_⟩
    apply UInt8.toNat_inj.1
    rw [u8n (by omega)]; omega
  · cases h
theorem digits_of (k : Nat) : ∀ (l : List UInt8) (n : Nat), l.length = k + 1 → Lib.decFrom 0 l = some n → (∀ b r, l = b :: r → r ≠ [] → b.toNat ≠ 48) → l = Lib.decDigits n := by
  induction k with
  | zero =>
    intro l n hl h _
    match l, hl with
    | [b], _ =>
      simp only [Lib.decFrom] at h
      cases hd : Lib.digitVal b with
      | none => rw [hd] at h; cases h
      | some d =>
        rw [hd] at h
        injection h with h
        obtain ⟨h1, h2⟩ := digit_byte hd
        rw [Lib.decDigits, dif_pos (by omega), h2]
        congr 2; omega
  | succ k ih =>
    intro l n hl h hc
    obtain ⟨l', b, rfl⟩ : ∃ l' b, l = l' ++ [b] := ⟨l.dropLast, l.getLast (fun e => by rw [e] at hl; simp at hl), (List.dropLast_concat_getLast _).symm⟩
    rw [decFrom_snoc] at h
    have hl' : l'.length = k + 1 := by simpa using hl
    cases h1 : Lib.decFrom 0 l' with
    | none => rw [h1] at h; cases h
    | some m =>
      rw [h1] at h
      simp only [Option.bind_some] at h
      cases hd : Lib.digitVal b with
      | none => rw [hd] at h; cases h
      | some d =>
        rw [hd] at h
        simp only [Option.map_some, Option.some.injEq] at h
        obtain ⟨h3, h4⟩ := digit_byte hd
        have e := ih l' m hl' h1 (fun c r hr hne => hc c (r ++ [b]) (by rw [hr]; rfl) (by simp))
        have hm : 1 ≤ m := by
          match l', hl' with
          | c :: r, _ => exact decFrom_one h1 (hc c (r ++ [b]) rfl (by simp))
        have h5 : Lib.decDigits (m * 10 + d) = Lib.decDigits m ++ [UInt8.ofNat (48 + d)] := by
          rw [Lib.decDigits, dif_neg (by omega : ¬ m * 10 + d < 10), show (m * 10 + d) / 10 = m by omega, show (m * 10 + d) % 10 = d by omega]
        rw [e, ← h, h5, h4]
open Classical in
/-- the number that a numeral below a million spells, or -1 -/
noncomputable def rdV (s : ByteArray) : Int := if h : ∃ u : Nat, u < 1000000 ∧ s = itB (u : Int) then (h.choose : Int) else -1
theorem rdV_it {s : ByteArray} {u : Nat} (hu : u < 1000000) (e : s = itB (u : Int)) : rdV s = (u : Int) := by
  have hx : ∃ v : Nat, v < 1000000 ∧ s = itB (v : Int) := ⟨u, hu, e⟩
  rw [rdV, dif_pos hx]
  have h1 := hx.choose_spec
  have h2 : itB (hx.choose : Int) = itB (u : Int) := by rw [← h1.2, e]
  exact it_inj (by omega) (by omega) (by omega) (by omega) h2
theorem rdV_no {s : ByteArray} (h : ∀ u : Nat, u < 1000000 → s ≠ itB (u : Int)) : rdV s = -1 := by
  rw [rdV, dif_neg]
  rintro ⟨u, h1, h2⟩; exact h u h1 h2
theorem rdV_bd (s : ByteArray) : -1 ≤ rdV s ∧ rdV s ≤ 999999 := by
  unfold rdV; split
  · rename_i h; have := h.choose_spec.1; omega
  · omega
theorem it_back {s : ByteArray} {a : Nat} (h1 : 1 ≤ s.size) (hd : Lib.decFrom 0 s.data.toList = some a) (hc : bt s 0 ≠ 48 ∨ s.size ≤ 1) : s = itB (a : Int) := by
  apply ba_ext
  rw [itB_list]
  refine digits_of (s.size - 1) _ _ (by rw [ba_len]; omega) hd (fun b r e hne => ?_)
  have h2 : 2 ≤ s.size := by
    rw [← ba_len, e]
    cases r with
    | nil => exact absurd rfl hne
    | cons _ _ => simp
  rcases hc with hc | hc
  · intro hb
    apply hc
    have h3 := bt_list (s := s) (k := 0) (by omega)
    rw [e] at h3
    injection h3 with h3
    rw [← get_bt s 0 (by omega), ← h3]; omega
  · omega
set_option maxRecDepth 100000 in
set_option maxHeartbeats 2000000 in
theorem l1Read_any (s : ByteArray) (w : World) (hs : s.size ≤ 1048576) : Calls Tryz.prog 71 #[.string s] w fun e w' => e = .returned (.int .i64 (rdV s)) ∧ w = w' := by
  have hbt := get_bt s
  by_cases hz : 1 ≤ s.size ∧ s.size ≤ 6
  · obtain ⟨hz1, hz2⟩ := hz
    have hin : inB (s.size : Int) 1 6 = true := inB_iff.2 ⟨by omega, by omega⟩
    have hz0 : 0 < s.size := by omega
    by_cases hh : bt s 0 = 48 ∧ 1 < s.size
    · obtain ⟨h1, h2⟩ := hh
      have h3 : decide ((s.size : Int) > 1) = true := by simp; omega
      have h4 : (bt s 0 == 48) = true := by simpa using h1
      have HF := Lib.hid (fun (u : Nat) (e : s = itB (u : Int)) => it_head e h2 h1)
      clear h1
      go_enter Tryz.func71, Tryz.ntmps71
      go_wp2_with (go_at_call 53; refine (l1In_any _ _ _ _).mono ?_; rintro e w' ⟨rfl, rfl⟩; rw [hin])
      go_ret
      exact ⟨by rw [rdV_no (fun u _ e => HF.out u e)]; rfl, rfl⟩
    · have hgo : (bt s 0 == 48) = false ∨ ((bt s 0 == 48) = true ∧ decide ((s.size : Int) > 1) = false) := by
        by_cases h1 : bt s 0 = 48
        · exact .inr ⟨by simpa using h1, by simp; omega⟩
        · exact .inl (by simpa using h1)
      have HC : Hid (bt s 0 ≠ 48 ∨ s.size ≤ 1) := by rw [Hid]; omega
      clear hh
      rcases hgo with h4 | ⟨h4, h3⟩
      all_goals
        go_enter Tryz.func71, Tryz.ntmps71
        go_wp2_with (go_at_call 53; refine (l1In_any _ _ _ _).mono ?_; rintro e w' ⟨rfl, rfl⟩; rw [hin])
        go_loop [3, 4] (fun vs vi => ∃ k a : Nat, k ≤ s.size ∧ vi = .int .i64 k ∧ vs = .int .i64 a ∧ a < 10 ^ k ∧ Hid (Lib.decFrom 0 (s.data.toList.take k) = some a)) (fun _ vi => s.size - (intOf vi).toNat)
        case atStart => exact ⟨0, 0, Nat.zero_le _, rfl, rfl, by simp, rfl⟩
        case round =>
          obtain ⟨k, a, hk, rfl, rfl, ha, hd⟩ := hrel
          have hp : 10 ^ k ≤ 10 ^ 6 := Nat.pow_le_pow_right (by omega) (by omega)
          have hp2 : 10 ^ 6 = 1000000 := rfl
          have hab : a < 1000000 := by omega
          clear hp hp2
          by_cases hlt : k < s.size
          · by_cases hdg : 48 ≤ bt s k ∧ bt s k ≤ 57
            · obtain ⟨g0, g1⟩ := hdg
              have hst := Lib.hid (dec_step hlt hd.out g0 g1)
              have hpw : a * 10 + (bt s k - 48).toNat < 10 ^ (k + 1) := by rw [Nat.pow_succ]; omega
              have HP := Lib.hid hpw
              have HA := Lib.hid ha
              have g4 : decide (bt s k > 57) = false := by simp; omega
              have g5 : decide (bt s k < 48) = false := by simp; omega
              clear hpw ha
              go_wp2
              go_round
              case rel => exact ⟨k + 1, a * 10 + (bt s k - 48).toNat, by omega, by go_num, by go_num, HP.out, hst⟩
              case measure => simp [intOf]; omega
            · have HF := Lib.hid (fun (u : Nat) (e : s = itB (u : Int)) => hdg (it_digs e hlt))
              have hno : bt s k < 48 ∨ (48 ≤ bt s k ∧ 57 < bt s k) := by omega
              have HA := Lib.hid ha
              clear hdg ha
              rcases hno with g0 | ⟨g0, g1⟩
              · have g5 : decide (bt s k < 48) = true := by simpa using g0
                go_wp2
                go_ret
                exact ⟨by rw [rdV_no (fun u _ e => HF.out u e)]; rfl, rfl⟩
              · have g5 : decide (bt s k < 48) = false := by simp; omega
                have g4 : decide (bt s k > 57) = true := by simpa using g1
                go_wp2
                go_ret
                exact ⟨by rw [rdV_no (fun u _ e => HF.out u e)]; rfl, rfl⟩
          · obtain rfl : k = s.size := by omega
            go_wp2
            go_ret
            have h1 := hd.out
            rw [List.take_of_length_le (by rw [ba_len]; exact Nat.le_refl _)] at h1
            have h2 := it_back hz1 h1 HC.out
            exact ⟨by rw [rdV_it hab h2]; rfl, rfl⟩
  · have hin : inB (s.size : Int) 1 6 = false := by
      cases h : inB (s.size : Int) 1 6 with
      | false => rfl
      | true => have := inB_iff.1 h; omega
    have HF := Lib.hid (fun (u : Nat) (hu : u < 1000000) (e : s = itB (u : Int)) => hz (it_len_of hu e))
    clear hz
    go_enter Tryz.func71, Tryz.ntmps71
    go_wp2_with (go_at_call 53; refine (l1In_any _ _ _ _).mono ?_; rintro e w' ⟨rfl, rfl⟩; rw [hin])
    go_ret
    exact ⟨by rw [rdV_no (fun u hu e => HF.out u hu e)]; rfl, rfl⟩
end Go.Proofs.YtjcjedolhejnaaaGreatDoor
