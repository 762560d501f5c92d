/-
  Several texts in one. No conditions.
-/
import Derived.Test.YtfglmghcgoembaaGreatDoorHx1
import Derived.Test.YtfglmghcgoembaaGreatDoorHx3
namespace Go.Proofs.YtfglmghcgoembaaGreatDoor
open Go.RowKit

open Go.PlainAid
theorem nth_ge {α : Type} [Inhabited α] {xs : List α} {k : Nat} (h : k < xs.length) : xs[k] = nth xs k := (nth_get (List.getElem?_eq_getElem h)).symm
/-- a byte that may stand in a text -/
def lgN (x : Int) : Bool := inB x 97 122 || inB x 48 57 || (decide (x = 32) || (decide (x = 46) || (decide (x = 45) || decide (x = 58))))
def lgC (s : ByteArray) (k : Nat) : Bool := lgN (bt s k)
/-- the ends are no blanks -/
def endB (s : ByteArray) : Bool := inB s.size 1 40 && !decide (bt s 0 = 32) && !decide (bt s (s.size - 1) = 32)
def textB (s : ByteArray) : Bool := allB s.size (lgC s) && endB s
theorem textB_no {s : ByteArray} {k : Nat} (hk : k < s.size) (h : lgC s k = false) : textB s = false := by simp [textB, allB_false hk h]
theorem textB_all {s : ByteArray} (h : ∀ j, j < s.size → lgC s j = true) : textB s = endB s := by simp [textB, allB_true h]
theorem textB_size {s : ByteArray} (h : textB s = true) : 1 ≤ s.size ∧ s.size ≤ 40 := by
  simp only [textB, endB, Bool.and_eq_true] at h; have := inB_iff.1 h.2.1.1; omega
/-- an entry before another one: by Minute, then by Room, then by Number -/
def befB (a b : Entry) : Bool := decide (a.Minute < b.Minute ∨ (a.Minute = b.Minute ∧ (a.Room < b.Room ∨ (a.Room = b.Room ∧ a.Number < b.Number))))
theorem befB_iff {a b : Entry} : befB a b = true ↔ (a.Minute < b.Minute ∨ (a.Minute = b.Minute ∧ (a.Room < b.Room ∨ (a.Room = b.Room ∧ a.Number < b.Number)))) := by simp [befB]
theorem bef_tr {a b c : Entry} (h : befB a b = true) (k : befB b c = true) : befB a c = true := by rw [befB_iff] at *; omega
theorem bef_irr {a : Entry} : befB a a = false := by
  cases h : befB a a
  · rfl
  · rw [befB_iff] at h; omega
theorem bef_as {a b : Entry} (h : befB a b = true) : befB b a = false := by
  cases k : befB b a
  · rfl
  · have := bef_tr h k; rw [bef_irr] at this; cases this
/-- not before: the other way round or the same key -/
def leE (a b : Entry) : Bool := !befB b a
theorem leE_iff {a b : Entry} : leE a b = true ↔ ¬ (b.Minute < a.Minute ∨ (b.Minute = a.Minute ∧ (b.Room < a.Room ∨ (b.Room = a.Room ∧ b.Number < a.Number)))) := by
  unfold leE; rw [Bool.not_eq_true', ← Bool.not_eq_true, befB_iff]
theorem leE_tr {a b c : Entry} (h : leE a b = true) (k : leE b c = true) : leE a c = true := by rw [leE_iff] at *; omega
theorem bef_le {a b : Entry} (h : befB a b = true) : leE a b = true := by unfold leE; rw [bef_as h]; rfl
/-- strictly in order -/
def Srt (l : List Entry) : Prop := l.Pairwise (fun a b => befB a b = true)
theorem srt_unique : ∀ {l m : List Entry}, Srt l → m.Pairwise (fun a b => leE a b = true) → l.Perm m → l = m
  | [], m, _, _, h => by rw [List.nil_perm.1 h]
  | x :: l, [], _, _, h => absurd h.length_eq (by simp)
  | x :: l, y :: m, hl, hm, h => by
    have e : x = y := by
      rcases List.mem_cons.1 (h.mem_iff.1 List.mem_cons_self : x ∈ y :: m) with e | hx
      · exact e
      · rcases List.mem_cons.1 (h.mem_iff.2 List.mem_cons_self : y ∈ x :: l) with e | hy
        · exact e.symm
        · have h1 := List.rel_of_pairwise_cons hm hx
          have h2 := List.rel_of_pairwise_cons hl hy
          unfold leE at h1
          rw [h2] at h1; cases h1
    subst e
    exact congrArg (x :: ·) (srt_unique (List.pairwise_cons.1 hl).2 (List.pairwise_cons.1 hm).2 (List.Perm.cons_inv h))
theorem srt_le {l : List Entry} (h : Srt l) : l.Pairwise (fun a b => leE a b = true) := h.imp fun k => bef_le k
theorem srt_nodup {l : List Entry} (h : Srt l) : l.Nodup := h.imp fun k e => by subst e; rw [bef_irr] at k; cases k
/-- in order, told by neighbours -/
theorem le_of_steps {l : List Entry} (h : ∀ k, k + 1 < l.length → befB (nth l (k + 1)) (nth l k) = false) : l.Pairwise (fun a b => leE a b = true) := by
  have st : ∀ d i, i + d + 1 < l.length → leE (nth l i) (nth l (i + d + 1)) = true := by
    intro d
    induction d with
    | zero => intro i hi; unfold leE; rw [h i hi]; rfl
    | succ d ih => intro i hi; exact leE_tr (ih i (by omega)) (by unfold leE; have := h (i + d + 1) (by omega); rw [show i + (d + 1) + 1 = i + d + 1 + 1 by omega, this]; rfl)
  rw [List.pairwise_iff_getElem]
  intro i j hi hj hij
  rw [nth_ge hi, nth_ge hj]
  have := st (j - i - 1) i (by omega)
  rwa [show i + (j - i - 1) + 1 = j by omega] at this
theorem steps_of_le {l : List Entry} (h : l.Pairwise (fun a b => leE a b = true)) {k : Nat} (hk : k + 1 < l.length) : befB (nth l (k + 1)) (nth l k) = false := by
  have := List.pairwise_iff_getElem.1 h k (k + 1) (by omega) hk (by omega)
  rw [nth_ge, nth_ge] at this
  unfold leE at this
  cases e : befB (nth l (k + 1)) (nth l k)
  · rfl
  · rw [e] at this; cases this
/-- two logs in order -/
def mgL (f s : List Entry) : List Entry := List.merge f s befB
theorem mgL_nil_l (s : List Entry) : mgL [] s = s := by unfold mgL; simp
theorem mgL_nil_r (f : List Entry) : mgL f [] = f := by unfold mgL; simp
theorem mgL_cons (a : Entry) (f : List Entry) (b : Entry) (s : List Entry) : mgL (a :: f) (b :: s) = if befB a b = true then a :: mgL f (b :: s) else b :: mgL (a :: f) s := by
  unfold mgL; rw [List.cons_merge_cons]
theorem mgL_perm (f s : List Entry) : (mgL f s).Perm (f ++ s) := List.merge_perm_append _
theorem mgL_len (f s : List Entry) : (mgL f s).length = f.length + s.length := by rw [(mgL_perm f s).length_eq, List.length_append]
theorem mgL_mem {f s : List Entry} {e : Entry} : e ∈ mgL f s ↔ e ∈ f ∨ e ∈ s := by rw [(mgL_perm f s).mem_iff, List.mem_append]
/-- no key of the one is a key of the other -/
def Apart (f s : List Entry) : Prop := ∀ a, a ∈ f → ∀ b, b ∈ s → befB a b = false → befB b a = true
theorem mgL_srt : ∀ (f s : List Entry), Srt f → Srt s → Apart f s → Srt (mgL f s)
  | [], s, _, hs, _ => by rw [mgL_nil_l]; exact hs
  | a :: f, [], hf, _, _ => by rw [mgL_nil_r]; exact hf
  | a :: f, b :: s, hf, hs, hx => by
    rw [mgL_cons]
    cases h : befB a b
    · rw [if_neg (by simp)]
      have hba := hx a List.mem_cons_self b List.mem_cons_self h
      refine List.pairwise_cons.2 ⟨fun c hc => ?_, mgL_srt (a :: f) s hf (List.pairwise_cons.1 hs).2 (fun u hu v hv => hx u hu v (List.mem_cons_of_mem _ hv))⟩
      rcases mgL_mem.1 hc with hc | hc
      · rcases List.mem_cons.1 hc with rfl | hc
        · exact hba
        · exact bef_tr hba (List.rel_of_pairwise_cons hf hc)
      · exact List.rel_of_pairwise_cons hs hc
    · rw [if_pos rfl]
      refine List.pairwise_cons.2 ⟨fun c hc => ?_, mgL_srt f (b :: s) (List.pairwise_cons.1 hf).2 hs (fun u hu v hv => hx u (List.mem_cons_of_mem _ hu) v hv)⟩
      rcases mgL_mem.1 hc with hc | hc
      · exact List.rel_of_pairwise_cons hf hc
      · rcases List.mem_cons.1 hc with rfl | hc
        · exact h
        · exact bef_tr h (List.rel_of_pairwise_cons hs hc)
termination_by f s => f.length + s.length
/-- one valid entry -/
def entB (e : Entry) : Bool := inB e.Room 1 2 && inB e.Number 1 999 && inB e.Minute 0 99999 && textB e.Text
theorem entB_room {e : Entry} (h : entB e = true) : e.Room = 1 ∨ e.Room = 2 := by
  simp only [entB, Bool.and_eq_true, inB_iff] at h; omega
theorem entB_num {e : Entry} (h : entB e = true) : 1 ≤ e.Number ∧ e.Number ≤ 999 := by
  simp only [entB, Bool.and_eq_true, inB_iff] at h; omega
theorem entB_min {e : Entry} (h : entB e = true) : 0 ≤ e.Minute ∧ e.Minute ≤ 99999 := by
  simp only [entB, Bool.and_eq_true, inB_iff] at h; omega
theorem entB_text {e : Entry} (h : entB e = true) : textB e.Text = true := by
  simp only [entB, Bool.and_eq_true] at h; exact h.2
/-- the k-th one stands well in a log -/
def lgAt (l : List Entry) (k : Nat) : Bool := entB (nth l k) && decide ((nth l k).Number = (k : Int) + 1) && decide ((nth l k).Room = (nth l 0).Room) && !(decide (0 < k) && decide ((nth l k).Minute < (nth l (k - 1)).Minute))
/-- a valid log -/
def lgB (l : List Entry) : Bool := allB l.length (lgAt l) && decide (l.length ≤ 20)
structure Lg (l : List Entry) : Prop where
  one : ∀ k, k < l.length → entB (nth l k) = true
  num : ∀ k, k < l.length → (nth l k).Number = (k : Int) + 1
  room : ∀ k, k < l.length → (nth l k).Room = (nth l 0).Room
  mnt : ∀ k, 0 < k → k < l.length → (nth l (k - 1)).Minute ≤ (nth l k).Minute
  len : l.length ≤ 20
theorem lg_iff {l : List Entry} : lgB l = true ↔ Lg l := by
  unfold lgB
  rw [Bool.and_eq_true, allB_iff, decide_eq_true_eq]
  constructor
  · rintro ⟨h, hl⟩
    have k : ∀ j, j < l.length → ((entB (nth l j) = true ∧ (nth l j).Number = (j : Int) + 1) ∧ (nth l j).Room = (nth l 0).Room) ∧ (0 < j → ¬ (nth l j).Minute < (nth l (j - 1)).Minute) := fun j hj => by
      have := h j hj
      simpa only [lgAt, Bool.and_eq_true, decide_eq_true_eq, Bool.not_eq_true', Bool.and_eq_false_imp, decide_eq_false_iff_not] using this
    exact ⟨fun j hj => (k j hj).1.1.1, fun j hj => (k j hj).1.1.2, fun j hj => (k j hj).1.2, fun j h0 hj => by have := (k j hj).2 h0; omega, hl⟩
  · intro h
    refine ⟨fun j hj => ?_, h.len⟩
    simp only [lgAt, Bool.and_eq_true, decide_eq_true_eq, Bool.not_eq_true', Bool.and_eq_false_imp, decide_eq_false_iff_not]
    exact ⟨⟨⟨h.one j hj, h.num j hj⟩, h.room j hj⟩, fun h0 => by have := h.mnt j h0 hj; omega⟩
theorem Lg.min_le {l : List Entry} (h : Lg l) : ∀ d i, i + d < l.length → (nth l i).Minute ≤ (nth l (i + d)).Minute := by
  intro d
  induction d with
  | zero => intro i _; exact Int.le_refl _
  | succ d ih =>
    intro i hi
    have h1 := ih i (by omega)
    have h2 := h.mnt (i + (d + 1)) (by omega) hi
    rw [show i + (d + 1) - 1 = i + d by omega] at h2
    omega
theorem Lg.srt {l : List Entry} (h : Lg l) : Srt l := by
  rw [Srt, List.pairwise_iff_getElem]
  intro i j hi hj hij
  rw [nth_ge hi, nth_ge hj, befB_iff]
  have h1 := h.min_le (j - i) i (by omega)
  rw [show i + (j - i) = j by omega] at h1
  have h2 := h.num i hi
  have h3 := h.num j hj
  have h4 := h.room i hi
  have h5 := h.room j hj
  omega
theorem ix_of {α : Type} [Inhabited α] {l : List α} {e : α} (h : e ∈ l) : ∃ k, k < l.length ∧ nth l k = e := by
  obtain ⟨k, hk, e⟩ := List.getElem_of_mem h
  exact ⟨k, hk, by rw [← nth_ge hk, e]⟩
theorem Lg.room1 {l : List Entry} (h : Lg l) {a b : Entry} (ha : a ∈ l) (hb : b ∈ l) : a.Room = b.Room := by
  obtain ⟨i, hi, rfl⟩ := ix_of ha
  obtain ⟨j, hj, rfl⟩ := ix_of hb
  rw [h.room i hi, h.room j hj]
theorem Lg.nil : Lg [] := ⟨fun _ h => absurd h (by simp), fun _ h => absurd h (by simp), fun _ h => absurd h (by simp), fun _ _ h => absurd h (by simp), by simp⟩
/-- all of a room -/
def OfR (r : Int) (l : List Entry) : Prop := ∀ e, e ∈ l → e.Room = r
/-- the first one, if any, is of the room -/
def ofB (l : List Entry) (r : Int) : Bool := decide (l.length = 0) || decide ((nth l 0).Room = r)
theorem ofB_iff {l : List Entry} {r : Int} (h : Lg l) : ofB l r = true ↔ OfR r l := by
  unfold ofB
  rw [Bool.or_eq_true, decide_eq_true_eq, decide_eq_true_eq]
  constructor
  · rintro (h0 | h0) e he
    · rw [List.length_eq_zero_iff.1 h0] at he; cases he
    · obtain ⟨k, hk, rfl⟩ := ix_of he
      rw [h.room k hk, h0]
  · intro k
    by_cases h0 : l.length = 0
    · exact .inl h0
    · exact .inr (k _ (nth_mem (by omega)))
/-- those of a room -/
def fil (r : Int) (h : List Entry) : List Entry := h.filter (fun e => e.Room == r)
/-- those of another room -/
def filN (r : Int) (h : List Entry) : List Entry := h.filter (fun e => !(e.Room == r))
theorem fil_of {r : Int} {h : List Entry} : OfR r (fil r h) := fun e he => by
  have := (List.mem_filter.1 he).2; simpa using this
theorem apart_12 {f s : List Entry} (hf : OfR 1 f) (hs : OfR 2 s) : Apart f s := fun a ha b hb h => by
  have h1 := hf a ha
  have h2 := hs b hb
  have h3 : ¬ befB a b = true := by rw [h]; simp
  rw [befB_iff] at h3 ⊢
  omega
/-- a history, as the reference tells it -/
def hiB (h : List Entry) : Bool := lgB (fil 1 h) && lgB (filN 1 h) && ofB (filN 1 h) 2 && decide (h = mgL (fil 1 h) (filN 1 h))
structure Hi (h : List Entry) : Prop where
  f : Lg (fil 1 h)
  s : Lg (filN 1 h)
  o : OfR 2 (filN 1 h)
  e : h = mgL (fil 1 h) (filN 1 h)
theorem hi_iff {h : List Entry} : hiB h = true ↔ Hi h := by
  unfold hiB
  rw [Bool.and_eq_true, Bool.and_eq_true, Bool.and_eq_true, decide_eq_true_eq, lg_iff, lg_iff]
  constructor
  · rintro ⟨⟨⟨h1, h2⟩, h3⟩, h4⟩
    exact ⟨h1, h2, (ofB_iff h2).1 h3, h4⟩
  · rintro ⟨h1, h2, h3, h4⟩
    exact ⟨⟨⟨h1, h2⟩, (ofB_iff h2).2 h3⟩, h4⟩
theorem Hi.srt {h : List Entry} (k : Hi h) : Srt h := by
  rw [k.e]; exact mgL_srt _ _ k.f.srt k.s.srt (apart_12 fil_of k.o)
theorem filN_fil {h : List Entry} (k : OfR 2 (filN 1 h)) : filN 1 h = fil 2 h := by
  unfold filN fil
  refine List.filter_congr fun e he => ?_
  by_cases h1 : e.Room = 1
  · simp [h1]
  · have := k e (List.mem_filter.2 ⟨he, by simp [h1]⟩)
    simp [this]
theorem Hi.two {h : List Entry} (k : Hi h) : filN 1 h = fil 2 h := filN_fil k.o
theorem Hi.rooms {h : List Entry} (k : Hi h) {e : Entry} (he : e ∈ h) : e.Room = 1 ∨ e.Room = 2 := by
  by_cases h1 : e.Room = 1
  · exact .inl h1
  · exact .inr (k.o e (List.mem_filter.2 ⟨he, by simp [h1]⟩))
theorem Hi.ent {h : List Entry} (k : Hi h) {e : Entry} (he : e ∈ h) : entB e = true := by
  by_cases h1 : e.Room = 1
  · obtain ⟨i, hi, rfl⟩ := ix_of (List.mem_filter.2 ⟨he, by simp [h1]⟩ : e ∈ fil 1 h)
    exact k.f.one i hi
  · obtain ⟨i, hi, rfl⟩ := ix_of (List.mem_filter.2 ⟨he, by simp [h1]⟩ : e ∈ filN 1 h)
    exact k.s.one i hi
/-- a history, as the program tells it -/
theorem split_len (h : List Entry) : (fil 1 h).length + (fil 2 h).length ≤ h.length ∧ ((fil 1 h).length + (fil 2 h).length = h.length → OfR 2 (filN 1 h)) := by
  induction h with
  | nil => exact ⟨by simp [fil], fun _ e he => by simp [filN] at he⟩
  | cons x h ih =>
    unfold fil filN at *
    by_cases h1 : x.Room = 1
    · simp only [List.filter_cons, h1, List.length_cons]
      refine ⟨by simp; omega, fun hh e he => ?_⟩
      simp at hh he
      exact ih.2 (by omega) e (List.mem_filter.2 ⟨he.1, by simpa using he.2⟩)
    · by_cases h2 : x.Room = 2
      · simp only [List.filter_cons, h2, List.length_cons]
        refine ⟨by simp; omega, fun hh e he => ?_⟩
        simp at hh he
        rcases he with rfl | he
        · exact h2
        · exact ih.2 (by omega) e (List.mem_filter.2 ⟨he.1, by simpa using he.2⟩)
      · simp only [List.filter_cons, List.length_cons]
        simp only [beq_iff_eq, h1, h2, if_false]
        refine ⟨by omega, fun hh => by omega⟩
theorem fil_split (h : List Entry) : (fil 1 h ++ filN 1 h).Perm h := List.filter_append_perm _ _
/-- in order, told by neighbours -/
def stepB (h : List Entry) : Bool := allB (h.length - 1) (fun k => !befB (nth h (k + 1)) (nth h k))
def hiI (h : List Entry) : Bool := decide ((fil 1 h).length + (fil 2 h).length = h.length) && lgB (fil 1 h) && lgB (fil 2 h) && stepB h
theorem hiI_eq (h : List Entry) : hiI h = hiB h := by
  rw [Bool.eq_iff_iff, hi_iff]
  unfold hiI
  rw [Bool.and_eq_true, Bool.and_eq_true, Bool.and_eq_true, decide_eq_true_eq, lg_iff, lg_iff]
  constructor
  · rintro ⟨⟨⟨h1, h2⟩, h3⟩, h4⟩
    have ho := (split_len h).2 h1
    have e := filN_fil ho
    rw [← e] at h3
    refine ⟨h2, h3, ho, ?_⟩
    have hs : Srt (mgL (fil 1 h) (filN 1 h)) := mgL_srt _ _ h2.srt h3.srt (apart_12 fil_of ho)
    refine (srt_unique hs (le_of_steps fun k hk => ?_) ((mgL_perm _ _).trans (fil_split h))).symm
    have := allB_iff.1 h4 k (by omega)
    simpa using this
  · intro k
    have e := k.two
    refine ⟨⟨⟨?_, k.f⟩, by rw [← e]; exact k.s⟩, allB_iff.2 fun j hj => ?_⟩
    · rw [← e, ← List.length_append, (fil_split h).length_eq]
    · rw [steps_of_le (srt_le k.srt) (by omega)]; rfl
theorem fil_perm {l m : List Entry} (r : Int) (h : l.Perm m) : (fil r l).Perm (fil r m) := h.filter _
theorem fil_self {r : Int} {l : List Entry} (h : OfR r l) : fil r l = l := List.filter_eq_self.2 fun e he => by simp [h e he]
theorem fil_none {r q : Int} {l : List Entry} (h : OfR q l) (hn : q ≠ r) : fil r l = [] := List.filter_eq_nil_iff.2 fun e he => by rw [h e he]; simpa using hn
theorem fil_sub {r : Int} {l : List Entry} (h : Srt l) : Srt (fil r l) := List.Pairwise.filter _ h
theorem fil_app (r : Int) (l m : List Entry) : fil r (l ++ m) = fil r l ++ fil r m := List.filter_append ..
/-- the history of two logs -/
theorem hist_of {f s : List Entry} (hf : Lg f) (hs : Lg s) (h1 : OfR 1 f) (h2 : OfR 2 s) : Hi (mgL f s) ∧ fil 1 (mgL f s) = f ∧ fil 2 (mgL f s) = s := by
  have hS := mgL_srt f s hf.srt hs.srt (apart_12 h1 h2)
  have e1 : fil 1 (mgL f s) = f := srt_unique (fil_sub hS) (srt_le hf.srt) ((fil_perm 1 (mgL_perm f s)).trans (by rw [fil_app, fil_self h1, fil_none h2 (by omega), List.append_nil]))
  have e2 : fil 2 (mgL f s) = s := srt_unique (fil_sub hS) (srt_le hs.srt) ((fil_perm 2 (mgL_perm f s)).trans (by rw [fil_app, fil_self h2, fil_none h1 (by omega), List.nil_append]))
  have ho : OfR 2 (filN 1 (mgL f s)) := fun e he => by
    have h3 := List.mem_filter.1 he
    rcases mgL_mem.1 h3.1 with h4 | h4
    · have := h1 e h4
      rw [this] at h3
      simp at h3
    · exact h2 e h4
  have e3 := filN_fil ho
  exact ⟨⟨by rw [e1]; exact hf, by rw [e3, e2]; exact hs, ho, by rw [e3, e1, e2]⟩, e1, e2⟩
/-- a beginning -/
def begB (a b : List Entry) : Bool := decide (a.length ≤ b.length) && decide (a = b.take a.length)
theorem begB_iff {a b : List Entry} : begB a b = true ↔ ∃ t, b = a ++ t := by
  unfold begB
  rw [Bool.and_eq_true, decide_eq_true_eq, decide_eq_true_eq]
  constructor
  · rintro ⟨_, h⟩
    exact ⟨b.drop a.length, by conv => lhs; rw [← List.take_append_drop a.length b, ← h]⟩
  · rintro ⟨t, rfl⟩
    exact ⟨by simp, by simp⟩
/-- the longer one of two copies -/
def joF (a b : List Entry) : List Entry × Bool := if begB b a then (a, true) else if begB a b then (b, true) else ([], false)
theorem joF_1 {a b : List Entry} (h : begB b a = true) : joF a b = (a, true) := by unfold joF; rw [if_pos h]
theorem joF_2 {a b : List Entry} (h : begB b a = false) (k : begB a b = true) : joF a b = (b, true) := by unfold joF; rw [if_neg (by rw [h]; simp), if_pos k]
theorem joF_3 {a b : List Entry} (h : begB b a = false) (k : begB a b = false) : joF a b = ([], false) := by unfold joF; rw [if_neg (by rw [h]; simp), if_neg (by rw [k]; simp)]
theorem joF_law {a b j : List Entry} (h : joF a b = (j, true)) : (j = a ∨ j = b) ∧ (∃ t, j = a ++ t) ∧ (∃ t, j = b ++ t) := by
  cases h1 : begB b a
  · cases h2 : begB a b
    · rw [joF_3 h1 h2] at h; cases h
    · rw [joF_2 h1 h2] at h; injection h with h _; subst h
      exact ⟨.inr rfl, begB_iff.1 h2, ⟨[], by simp⟩⟩
  · rw [joF_1 h1] at h; injection h with h _; subst h
    exact ⟨.inl rfl, ⟨[], by simp⟩, begB_iff.1 h1⟩
theorem joF_comm {a b j : List Entry} (h : joF a b = (j, true)) : joF b a = (j, true) := by
  obtain ⟨h1, ⟨t, h2⟩, ⟨u, h3⟩⟩ := joF_law h
  cases k1 : begB a b
  · have k2 : begB b a = true := by
      rcases h1 with rfl | rfl
      · exact begB_iff.2 ⟨u, h3⟩
      · rw [begB_iff.2 ⟨t, h2⟩] at k1; cases k1
    rw [joF_2 k1 k2]
    rw [joF_1 k2] at h
    exact h
  · rw [joF_1 k1]
    obtain ⟨v, hv⟩ := begB_iff.1 k1
    rcases h1 with rfl | rfl
    · rw [hv] at h3
      have := congrArg List.length h3
      rw [List.length_append, List.length_append] at this
      have hv0 : v = [] := List.length_eq_zero_iff.1 (by omega)
      rw [hv, hv0]; simp
    · rfl
theorem joF_again {a b j : List Entry} (h : joF a b = (j, true)) : joF j a = (j, true) := joF_1 (begB_iff.2 (joF_law h).2.1)
/-- the history of the joined copies -/
def mhF (a b : List Entry) : List Entry × Bool :=
  if hiB a && hiB b && (joF (fil 1 a) (fil 1 b)).2 && (joF (fil 2 a) (fil 2 b)).2 then (mgL (joF (fil 1 a) (fil 1 b)).1 (joF (fil 2 a) (fil 2 b)).1, true) else ([], false)
/-- what lacks in a of b -/
def lackL (a b : List Entry) : List Entry := b.filter (fun e => !decide (e ∈ a))
def lkF (a b : List Entry) : List Entry × Bool := if hiB a && hiB b then (lackL a b, true) else ([], false)
theorem pair_of {α β : Type} {p : α × β} {b : β} (h : p.2 = b) : p = (p.1, b) := by rw [← h]
theorem mh_parts {a b M : List Entry} (h : mhF a b = (M, true)) : Hi a ∧ Hi b ∧ ∃ f s, joF (fil 1 a) (fil 1 b) = (f, true) ∧ joF (fil 2 a) (fil 2 b) = (s, true) ∧ M = mgL f s := by
  unfold mhF at h
  split at h
  · rename_i hc
    simp only [Bool.and_eq_true] at hc
    injection h with h _
    exact ⟨hi_iff.1 hc.1.1.1, hi_iff.1 hc.1.1.2, _, _, pair_of hc.1.2, pair_of hc.2, h.symm⟩
  · cases h
theorem mh_mk {a b f s : List Entry} (ha : Hi a) (hb : Hi b) (h1 : joF (fil 1 a) (fil 1 b) = (f, true)) (h2 : joF (fil 2 a) (fil 2 b) = (s, true)) : mhF a b = (mgL f s, true) := by
  unfold mhF
  rw [hi_iff.2 ha, hi_iff.2 hb, h1, h2]; rfl
theorem jo_lg {a b j : List Entry} (ha : Lg a) (hb : Lg b) (h : joF a b = (j, true)) : Lg j := by
  rcases (joF_law h).1 with rfl | rfl
  · exact ha
  · exact hb
theorem jo_of {r : Int} {a b j : List Entry} (ha : OfR r a) (hb : OfR r b) (h : joF a b = (j, true)) : OfR r j := by
  rcases (joF_law h).1 with rfl | rfl
  · exact ha
  · exact hb
theorem Hi.s2 {h : List Entry} (k : Hi h) : Lg (fil 2 h) := by rw [← k.two]; exact k.s
theorem Hi.perm {h : List Entry} (k : Hi h) : h.Perm (fil 1 h ++ fil 2 h) := by rw [← k.two]; exact (fil_split h).symm
theorem lack_part {r : Int} {a b j : List Entry} (h : joF (fil r a) (fil r b) = (j, true)) (hbs : Lg (fil r b)) : j.length = (fil r a).length + ((fil r b).filter (fun e => !decide (e ∈ a))).length := by
  have hsub : ∀ e, e ∈ fil r a → e ∈ a := fun e he => (List.mem_filter.1 he).1
  have hin : ∀ e, e ∈ fil r b → (e ∈ a ↔ e ∈ fil r a) := fun e he => ⟨fun h => List.mem_filter.2 ⟨h, by simp [fil_of e he]⟩, hsub e⟩
  obtain ⟨h1, ⟨t, h2⟩, ⟨u, h3⟩⟩ := joF_law h
  rcases h1 with h1 | h1
  · rw [h1] at h3
    have : (fil r b).filter (fun e => !decide (e ∈ a)) = [] := List.filter_eq_nil_iff.2 fun e he => by
      have : e ∈ a := (hin e he).2 (by rw [h3]; exact List.mem_append_left _ he)
      simp [this]
    rw [this, h1]; simp
  · rw [h1] at h2
    have hnd := srt_nodup hbs.srt
    rw [h2] at hnd hin
    rw [h1, h2, List.filter_append]
    have e1 : (fil r a).filter (fun e => !decide (e ∈ a)) = [] := List.filter_eq_nil_iff.2 fun e he => by simp [hsub e he]
    have e2 : t.filter (fun e => !decide (e ∈ a)) = t := List.filter_eq_self.2 fun e he => by
      have : ¬ e ∈ a := fun h => (List.nodup_append.1 hnd).2.2 e ((hin e (List.mem_append_right _ he)).1 h) e he rfl
      simp [this]
    rw [e1, e2]; simp
/-- the law on merged histories -/
theorem merge_law {a b M : List Entry} (h : mhF a b = (M, true)) : mhF b a = (M, true) ∧ mhF M a = (M, true) ∧ hiB M = true ∧ lkF a b = (lackL a b, true) ∧ M.length = a.length + (lackL a b).length ∧ lkF M a = ([], true) ∧ lkF M b = ([], true) := by
  obtain ⟨ha, hb, f, s, h1, h2, rfl⟩ := mh_parts h
  have l1 := jo_lg ha.f hb.f h1
  have l2 := jo_lg ha.s2 hb.s2 h2
  have o1 := jo_of fil_of fil_of h1
  have o2 := jo_of fil_of fil_of h2
  obtain ⟨hM, e1, e2⟩ := hist_of l1 l2 o1 o2
  have hmem : ∀ x, (x = a ∨ x = b) → Hi x → lkF (mgL f s) x = ([], true) := fun x hx hix => by
    unfold lkF
    rw [hi_iff.2 hM, hi_iff.2 hix, if_pos (show (true && true) = true from rfl)]
    have : lackL (mgL f s) x = [] := List.filter_eq_nil_iff.2 fun e he => by
      have hm : e ∈ mgL f s := by
        rw [mgL_mem]
        obtain ⟨_, ⟨t, h3⟩, ⟨u, h4⟩⟩ := joF_law h1
        obtain ⟨_, ⟨v, h5⟩, ⟨w, h6⟩⟩ := joF_law h2
        have := hix.perm.mem_iff.1 he
        rcases List.mem_append.1 this with hm | hm
        · refine .inl ?_
          rcases hx with rfl | rfl
          · rw [h3]; exact List.mem_append_left _ hm
          · rw [h4]; exact List.mem_append_left _ hm
        · refine .inr ?_
          rcases hx with rfl | rfl
          · rw [h5]; exact List.mem_append_left _ hm
          · rw [h6]; exact List.mem_append_left _ hm
      simp [hm]
    rw [this]
  refine ⟨mh_mk hb ha (joF_comm h1) (joF_comm h2), mh_mk hM ha (by rw [e1]; exact joF_again h1) (by rw [e2]; exact joF_again h2), hi_iff.2 hM, by unfold lkF; rw [hi_iff.2 ha, hi_iff.2 hb]; rfl, ?_, hmem a (.inl rfl) ha, hmem b (.inr rfl) hb⟩
  have p1 := lack_part h1 hb.f
  have p2 := lack_part h2 hb.s2
  have p3 : (lackL a b).length = ((fil 1 b).filter (fun e => !decide (e ∈ a))).length + ((fil 2 b).filter (fun e => !decide (e ∈ a))).length := by
    unfold lackL
    rw [(hb.perm.filter _).length_eq, List.filter_append, List.length_append]
  have p4 : a.length = (fil 1 a).length + (fil 2 a).length := by rw [ha.perm.length_eq, List.length_append]
  rw [mgL_len]; omega
/-- the logs of both rooms -/
def shF (h : List Entry) : List Entry × List Entry × Bool := if hiB h then (fil 1 h, fil 2 h, true) else ([], [], false)
def hoF (f s : List Entry) : List Entry × Bool := if lgB f && lgB s && ofB f 1 && ofB s 2 then (mgL f s, true) else ([], false)
/-- how often another room begins -/
def hoN (h : List Entry) (k : Nat) : Nat := ((List.range k).filter (fun i => decide (0 < i) && !decide ((nth h i).Room = (nth h (i - 1)).Room))).length
theorem hoN_succ (h : List Entry) (k : Nat) : hoN h (k + 1) = hoN h k + if decide (0 < k) && !decide ((nth h k).Room = (nth h (k - 1)).Room) then 1 else 0 := by
  unfold hoN
  rw [List.range_succ, List.filter_append, List.length_append]
  congr 1
  rw [List.filter_cons, List.filter_nil]
  split <;> rfl
theorem hoN_le (h : List Entry) (k : Nat) : hoN h k ≤ k := by
  unfold hoN
  have := List.length_filter_le (fun i => decide (0 < i) && !decide ((nth h i).Room = (nth h (i - 1)).Room)) (List.range k)
  rwa [List.length_range] at this
def hvF (h : List Entry) : Int × Bool := if hiB h then ((hoN h h.length : Int), true) else (0, false)
/-- the place of a room's entry with a number -/
def isP (r n : Int) (e : Entry) : Bool := e.Room == r && e.Number == n
def plF (h : List Entry) (r n : Int) : Int × Bool := if hiB h && inB r 1 2 && inB n 1 999 then (if indexF (isP r n) h < 0 then (0, false) else (indexF (isP r n) h, true)) else (0, false)
theorem lg_num {l : List Entry} (h : Lg l) : l.Pairwise (fun a b => a.Number < b.Number) := by
  rw [List.pairwise_iff_getElem]
  intro i j hi hj hij
  rw [nth_ge hi, nth_ge hj, h.num i hi, h.num j hj]; omega
theorem Hi.place {h : List Entry} (k : Hi h) {i j : Nat} (hij : i < j) (hj : j < h.length) (e1 : (nth h i).Room = (nth h j).Room) : (nth h i).Number < (nth h j).Number := by
  have hi : i < h.length := by omega
  have hp : ∀ r, Lg (fil r h) → (nth h j).Room = r → (nth h i).Number < (nth h j).Number := fun r hr er => by
    have := List.pairwise_filter.1 (lg_num hr)
    have := List.pairwise_iff_getElem.1 this i j hi hj hij
    rw [nth_ge, nth_ge] at this
    exact this (by rw [e1, er]; simp) (by rw [er]; simp)
  rcases k.rooms (nth_mem hj) with h1 | h1
  · exact hp 1 k.f h1
  · exact hp 2 k.s2 h1
theorem findIdx_at {α : Type} [Inhabited α] {p : α → Bool} {xs : List α} {i : Nat} (hi : i < xs.length) (h : p (nth xs i) = true) (hb : ∀ j, j < i → p (nth xs j) = false) : indexF p xs = (i : Int) := by
  unfold indexF
  have : xs.findIdx? p = some i := by
    rw [List.findIdx?_eq_some_iff_getElem]
    refine ⟨hi, by rw [nth_ge hi]; exact h, fun j hj => ?_⟩
    rw [nth_ge (by omega), hb j hj]; simp
  rw [this]
/-- the law on split histories -/
theorem split_law {h f s : List Entry} (hh : shF h = (f, s, true)) : hiB h = true ∧ hoF f s = (h, true) ∧ (0 < hoN h h.length → 0 < f.length ∧ 0 < s.length) ∧ (∀ i, i < h.length → plF h (nth h i).Room (nth h i).Number = ((i : Int), true)) ∧ h.length ≤ 40 := by
  unfold shF at hh
  split at hh
  · rename_i hc
    injection hh with h1 h2
    injection h2 with h2 _
    subst h1 h2
    have k := hi_iff.1 hc
    have hl : h.length = (fil 1 h).length + (fil 2 h).length := by rw [k.perm.length_eq, List.length_append]
    refine ⟨hc, ?_, fun hp => ?_, fun i hi => ?_, by have := k.f.len; have := k.s2.len; omega⟩
    · unfold hoF
      rw [lg_iff.2 k.f, lg_iff.2 k.s2, (ofB_iff k.f).2 fil_of, (ofB_iff k.s2).2 fil_of, if_pos (show (true && true && true && true) = true from rfl)]
      have := k.e; rw [k.two] at this; rw [← this]
    · have hne : ∀ r q, (∀ e, e ∈ h → e.Room = r ∨ e.Room = q) → (fil r h).length = 0 → False := fun r q hrq h0 => by
        have he := List.filter_eq_nil_iff.1 (List.length_eq_zero_iff.1 h0)
        have hq : ∀ e, e ∈ h → e.Room = q := fun e hm => by
          rcases hrq e hm with h1 | h1
          · exact absurd (by simpa using h1) (he e hm)
          · exact h1
        have : hoN h h.length = 0 := by
          unfold hoN
          rw [List.length_eq_zero_iff, List.filter_eq_nil_iff]
          intro i hi
          rw [List.mem_range] at hi
          rw [hq _ (nth_mem hi), hq _ (nth_mem (show i - 1 < h.length by omega))]
          simp
        omega
      constructor
      · exact Nat.pos_of_ne_zero fun h0 => hne 1 2 (fun e he => k.rooms he) h0
      · exact Nat.pos_of_ne_zero fun h0 => hne 2 1 (fun e he => (k.rooms he).symm) h0
    · have he := k.ent (nth_mem hi)
      have hx : indexF (isP (nth h i).Room (nth h i).Number) h = (i : Int) := findIdx_at hi (by simp [isP]) fun j hj => by
        by_cases e1 : (nth h j).Room = (nth h i).Room
        · have := k.place hj hi e1
          have hne : ¬ (nth h j).Number = (nth h i).Number := by omega
          simp [isP, hne]
        · simp [isP, e1]
      unfold plF
      rw [hc, hx, if_neg (by omega : ¬ ((i : Int) < 0))]
      simp only [entB, Bool.and_eq_true] at he
      rw [he.1.1.1, he.1.1.2]; rfl
  · cases hh
end Go.Proofs.YtfglmghcgoembaaGreatDoor

namespace Go.Proofs.YtfglmghcgoembaaGreatDoor
open Go.RowKit

theorem mg_stepF {f s : List Entry} {i k : Nat} (hi : i < f.length) (h : ¬ k < s.length ∨ (k < s.length ∧ befB (nth f i) (nth s k) = true)) : mgL (f.drop i) (s.drop k) = nth f i :: mgL (f.drop (i + 1)) (s.drop k) := by
  rw [drop_nth hi]
  rcases h with h | ⟨h1, h2⟩
  · rw [List.drop_eq_nil_of_le (show s.length ≤ k by omega), mgL_nil_r, mgL_nil_r]
  · rw [drop_nth h1, mgL_cons, if_pos h2]
theorem mg_stepS {f s : List Entry} {i k : Nat} (hk : k < s.length) (h : ¬ i < f.length ∨ (i < f.length ∧ befB (nth f i) (nth s k) = false)) : mgL (f.drop i) (s.drop k) = nth s k :: mgL (f.drop i) (s.drop (k + 1)) := by
  rw [drop_nth hk]
  rcases h with h | ⟨h1, h2⟩
  · rw [List.drop_eq_nil_of_le (show f.length ≤ i by omega), mgL_nil_l, mgL_nil_l]
  · rw [drop_nth h1, mgL_cons, if_neg (by rw [h2]; simp)]
theorem mg_end {f s : List Entry} {i k : Nat} (hi : ¬ i < f.length) (hk : ¬ k < s.length) : mgL (f.drop i) (s.drop k) = [] := by
  rw [List.drop_eq_nil_of_le (by omega), List.drop_eq_nil_of_le (by omega), mgL_nil_l]
theorem filter_take {p : Entry → Bool} {h : List Entry} {k : Nat} (hk : k < h.length) : (h.take (k + 1)).filter p = (h.take k).filter p ++ if p (nth h k) then [nth h k] else [] := by
  rw [take_succ hk, List.filter_append]
  congr 1
  rw [List.filter_cons, List.filter_nil]
theorem begB_no {a b : List Entry} (h : ¬ a.length ≤ b.length) : begB a b = false := by simp [begB, h]
theorem begB_at {a b : List Entry} {i : Nat} (hi : i < a.length) (h : nth a i ≠ nth b i) : begB a b = false := by
  cases e : begB a b
  · rfl
  · obtain ⟨t, rfl⟩ := begB_iff.1 e
    exfalso
    apply h
    exact (nth_get (by rw [List.getElem?_append_left hi]; exact get_nth hi)).symm
theorem begB_all {a b : List Entry} (hl : a.length ≤ b.length) (h : ∀ i, i < a.length → nth a i = nth b i) : begB a b = true := by
  unfold begB
  rw [Bool.and_eq_true, decide_eq_true_eq, decide_eq_true_eq]
  refine ⟨hl, List.ext_getElem (by rw [List.length_take]; omega) fun i h1 h2 => ?_⟩
  rw [List.getElem_take, nth_ge h1, nth_ge (by omega)]
  exact h i h1
theorem lgB_no {l : List Entry} {k : Nat} (hk : k < l.length) (h : lgAt l k = false) : lgB l = false := by simp [lgB, allB_false hk h]
theorem lgB_all {l : List Entry} (h : ∀ j, j < l.length → lgAt l j = true) : lgB l = decide (l.length ≤ 20) := by simp [lgB, allB_true h]
theorem lgAt_0 {l : List Entry} {k : Nat} (h : entB (nth l k) = false) : lgAt l k = false := by simp [lgAt, h]
theorem lgAt_1 {l : List Entry} {k : Nat} (h : ¬ (nth l k).Number = (k : Int) + 1) : lgAt l k = false := by simp [lgAt, h]
theorem lgAt_2 {l : List Entry} {k : Nat} (h : ¬ (nth l k).Room = (nth l 0).Room) : lgAt l k = false := by simp [lgAt, h]
theorem lgAt_3 {l : List Entry} {k : Nat} (h0 : 0 < k) (h : (nth l k).Minute < (nth l (k - 1)).Minute) : lgAt l k = false := by simp [lgAt, h0, h]
theorem lgAt_y {l : List Entry} {k : Nat} (h1 : entB (nth l k) = true) (h2 : (nth l k).Number = (k : Int) + 1) (h3 : (nth l k).Room = (nth l 0).Room) (h4 : ¬ 0 < k ∨ ¬ (nth l k).Minute < (nth l (k - 1)).Minute) : lgAt l k = true := by
  unfold lgAt
  rw [h1, decide_eq_true h2, decide_eq_true h3]
  rcases h4 with h | h
  · rw [decide_eq_false h]; rfl
  · rw [decide_eq_false h]; simp
theorem lgB_len {l : List Entry} (h : lgB l = true) : l.length ≤ 20 := (lg_iff.1 h).len
theorem lgB_ent {l : List Entry} (h : lgB l = true) {e : Entry} (he : e ∈ l) : entB e = true := by
  obtain ⟨k, hk, rfl⟩ := ix_of he
  exact (lg_iff.1 h).one k hk
theorem fil_len (r : Int) (h : List Entry) : (fil r h).length ≤ h.length := List.length_filter_le _ _
theorem filN_len (r : Int) (h : List Entry) : (filN r h).length ≤ h.length := List.length_filter_le _ _
theorem stepB_no {h : List Entry} {k : Nat} (hk : k + 1 < h.length) (e : befB (nth h (k + 1)) (nth h k) = true) : stepB h = false := allB_false (k := k) (by omega) (by rw [e]; rfl)
theorem stepB_yes {h : List Entry} (e : ∀ k, k + 1 < h.length → befB (nth h (k + 1)) (nth h k) = false) : stepB h = true := allB_true fun k hk => by rw [e k (by omega)]; rfl
theorem mhF_no {a b : List Entry} (h : (hiB a && hiB b) = false) : mhF a b = ([], false) := by unfold mhF; rw [h]; rfl
theorem mhF_at {a b : List Entry} (ha : hiB a = true) (hb : hiB b = true) {f s : List Entry} {x y : Bool} (h1 : joF (fil 1 a) (fil 1 b) = (f, x)) (h2 : joF (fil 2 a) (fil 2 b) = (s, y)) : mhF a b = if x && y then (mgL f s, true) else ([], false) := by
  unfold mhF; rw [ha, hb, h1, h2]; rfl
theorem lkF_no {a b : List Entry} (h : (hiB a && hiB b) = false) : lkF a b = ([], false) := by unfold lkF; rw [h]; rfl
theorem lkF_yes {a b : List Entry} (ha : hiB a = true) (hb : hiB b = true) : lkF a b = (lackL a b, true) := by unfold lkF; rw [ha, hb]; rfl
theorem shF_yes {h : List Entry} (k : hiB h = true) : shF h = (fil 1 h, fil 2 h, true) := by unfold shF; rw [if_pos k]
theorem shF_no {h : List Entry} (k : hiB h = false) : shF h = ([], [], false) := by unfold shF; rw [if_neg (by rw [k]; simp)]
theorem hvF_yes {h : List Entry} (k : hiB h = true) : hvF h = ((hoN h h.length : Int), true) := by unfold hvF; rw [if_pos k]
theorem hvF_no {h : List Entry} (k : hiB h = false) : hvF h = (0, false) := by unfold hvF; rw [if_neg (by rw [k]; simp)]
/-- those of both rooms are short -/
theorem hiB_len {h : List Entry} (k : hiB h = true) : h.length ≤ 40 := by
  have k := hi_iff.1 k
  have : h.length = (fil 1 h).length + (fil 2 h).length := by rw [k.perm.length_eq, List.length_append]
  have := k.f.len; have := k.s2.len; omega
theorem fil2_N {h : List Entry} (k : hiB h = true) : filN 1 h = fil 2 h := (hi_iff.1 k).two
/-- the texts of all are short -/
def SmE (l : List Entry) : Prop := ∀ e, e ∈ l → e.Text.size ≤ 48
theorem SmE.fil {l : List Entry} (h : SmE l) (r : Int) : SmE (fil r l) := fun e he => h e (List.mem_filter.1 he).1
theorem SmE.filN {l : List Entry} (h : SmE l) (r : Int) : SmE (filN r l) := fun e he => h e (List.mem_filter.1 he).1
theorem SmE.lack {a b : List Entry} (h : SmE b) : SmE (lackL a b) := fun e he => h e (List.mem_filter.1 he).1
theorem SmE.mg {f s : List Entry} (h : SmE f) (k : SmE s) : SmE (mgL f s) := fun e he => by
  rcases mgL_mem.1 he with h1 | h1
  · exact h e h1
  · exact k e h1
theorem SmE.jo {a b j : List Entry} {ok : Bool} (h : SmE a) (k : SmE b) (e : joF a b = (j, ok)) : SmE j := by
  unfold joF at e
  split at e
  · injection e with e _; subst e; exact h
  · split at e
    · injection e with e _; subst e; exact k
    · injection e with e _; subst e; exact fun x hx => by cases hx
end Go.Proofs.YtfglmghcgoembaaGreatDoor
