/-
  The program's checks and the document's are the same, seventh part: a text is a word for the document if it is one for the program. Conditions stand in each lemma.
  The program's checks and the document's are the same, eighth part: submissions, jobs, tables of jobs, what a plan asks of a state. Condition: sets of nodes are words; texts and rows are of a size that a machine holds.
  The program's checks and the document's are the same, ninth part: sets of nodes as the document makes them; what runs; what is resized. Conditions stand in each lemma.
  The program's checks and the document's are the same, tenth part: one change of size. Conditions stand in each lemma.
  The program's checks and the document's are the same, eleventh part: a change of size may be for the program if it may be for the document. Conditions stand in each lemma.
  The program's checks and the document's are the same, twelfth part: what state may be. Condition: sets of nodes are words; texts and rows are of a size that a machine holds.
  The program's checks and the document's are the same, last part: what state may be; a job's nodes; its resize; a new state. Condition: sets of nodes are words; texts and rows are of a size that a machine holds.
  The plain law of StateChecks: a state may be for the program if it may be for the document; its jobs' nodes and resizes, and a new state, are the document's. Condition: sets of nodes are words.
-/
import Derived.Test.YtoionleakeemlaaGreatDoorG15
import Derived.Test.YtoionleakeemlaaGreatDoorG14
namespace Go.Proofs.YtoionleakeemlaaGreatDoor
set_option linter.unusedSimpArgs false
set_option linter.unusedVariables false
open Go.Fw
theorem decode_blank (s : ByteArray) (h : (Utf8.decode s 0).1 = 9 ∨ (Utf8.decode s 0).1 = 32) : (s.get! 0).toNat = 9 ∨ (s.get! 0).toNat = 32 := by
  unfold Utf8.decode at h
  simp only [Nat.add_zero, Nat.zero_add, Utf8.runeError] at h
  repeat' split at h
  all_goals first | exact h | (simp only [ge_iff_le, Nat.not_le] at *; omega) | (simp_all; omega)
theorem first_line (s : ByteArray) (x : Int) (r : List Int) (h : lineOf s = x :: r) : x = ((Utf8.decode s 0).1 : Int) ∧ 0 < s.size := by
  unfold lineOf runeList at h
  cases hs : s.size with
  | zero => rw [hs] at h; cases h
  | succ n =>
    rw [hs, strRunes_cons (by rw [hs]; rfl)] at h
    simp only [List.map_cons, List.cons.injEq] at h
    exact ⟨h.1.symm, Nat.succ_pos n⟩
theorem get_first (s : ByteArray) (h : 0 < s.size) : ∃ b q, s.data.toList = b :: q ∧ s.get! 0 = b := by
  obtain ⟨d⟩ := s
  have hd : 0 < d.size := h
  refine ⟨d[0], d.toList.tail, ?_, ?_⟩
  · cases hl : d.toList with
    | nil => simp at hl; rw [hl] at hd; cases hd
    | cons a t => 
      have : d[0] = a := by rw [← Array.getElem_toList]; simp [hl]
      rw [this]; rfl
  · show d[0]! = d[0]
    exact getElem!_pos d 0 hd
theorem encode_letter (x : Int) (h : ref04_Class x = 2) : ∃ b q, (Utf8.encode x).data.toList = b :: q ∧ 65 ≤ b.toNat := by
  have hx : 65 ≤ x ∧ x ≤ 1114111 ∧ ¬ (55296 ≤ x ∧ x ≤ 57343) := by
    unfold ref04_Class at h
    grind
  have hv : Utf8.valid x = true := by
    unfold Utf8.valid
    simp only [Bool.or_eq_true, Bool.and_eq_true, decide_eq_true_eq]
    omega
  unfold Utf8.encode
  simp only [hv, if_true]
  have hc : ∃ c : Nat, x.toNat = c ∧ 65 ≤ c ∧ c ≤ 1114111 := ⟨x.toNat, rfl, by omega, by omega⟩
  obtain ⟨c, hcc, h1, h2⟩ := hc
  rw [hcc]
  repeat' split
  all_goals refine ⟨_, _, rfl, ?_⟩
  all_goals simp only [UInt8.toNat_ofNat']
  all_goals omega
theorem runesBytes_cons (x : Int) (r : List Int) : ∃ q, (runesBytes (x :: r)).data.toList = (Utf8.encode x).data.toList ++ q := by
  unfold runesBytes
  rw [List.foldl_cons]
  have : ∀ (l : List Int) (b : ByteArray), ∃ q, (l.foldl (fun r n => r ++ Utf8.encode n) b).data.toList = b.data.toList ++ q := by
    intro l
    induction l with
    | nil => exact fun b => ⟨[], by simp⟩
    | cons y t ih =>
      intro b
      obtain ⟨q, hq⟩ := ih (b ++ Utf8.encode y)
      exact ⟨(Utf8.encode y).data.toList ++ q, by rw [List.foldl_cons, hq]; simp⟩
  obtain ⟨q, hq⟩ := this r (ByteArray.empty ++ Utf8.encode x)
  exact ⟨q, by rw [hq]; simp⟩
theorem lower_first (x : Int) (r : List Int) (h : ref04_Class x = 2) : ∃ b q, (ref04_Lower (runesBytes (x :: r))).data.toList = b :: q ∧ 65 ≤ b.toNat := by
  obtain ⟨b, q, hb, h65⟩ := encode_letter x h
  obtain ⟨q', hq⟩ := runesBytes_cons x r
  rw [lower_ref, bytesStr_data]
  unfold bytesOf
  rw [hq, hb]
  refine ⟨UInt8.ofNat (lowB (b.toNat : Int)).toNat, _, rfl, ?_⟩
  have hlt := b.toNat_lt
  rw [UInt8.toNat_ofNat']
  unfold lowB
  split <;> omega
theorem no_blank_word (s : ByteArray) (y : Int) (q : List Int) (hl : lineOf s = y :: q) (hy : blankP y = true) (x : Int) (r : List Int) (hx : ref04_Class x = 2) : ref04_Lower (runesBytes (x :: r)) ≠ s := by
  intro e
  obtain ⟨b, t, hb, h65⟩ := lower_first x r hx
  rw [e] at hb
  obtain ⟨h1, h2⟩ := first_line s y q hl
  obtain ⟨b', t', hb', hg⟩ := get_first s h2
  have hy' : (Utf8.decode s 0).1 = 9 ∨ (Utf8.decode s 0).1 = 32 := by
    unfold blankP ref04_Class at hy
    subst h1
    grind
  have := decode_blank s hy'
  rw [hg] at this
  rw [hb] at hb'
  cases hb'
  omega
theorem end_go (L : List Int) (hL : L.length ≤ 400) (a : Nat) (ha : ref04_Class (L.getD a 0) = 2) : ∀ (m i : Nat), i ≤ L.length → L.length - i < m → ref05_end_g1 L (a : Int) m (i : Int) = ((i + ((L.drop i).takeWhile wordP).length : Nat) : Int)
  | 0, _, _, h => absurd h (by omega)
  | m + 1, i, hi, hm => by
    rw [ref05_end_g1]
    simp only [Int.toNat_natCast, ha]
    rcases Nat.lt_or_ge i L.length with h | h
    · have hg : L.getD i 0 = L[i] := by simp [List.getD, List.getElem?_eq_getElem h]
      rw [decide_eq_true (show (i : Int) < (L.length : Int) by omega), hg, List.drop_eq_getElem_cons h, List.takeWhile_cons]
      have e : (((((((2 : Int) == 2) && ((ref04_Class L[i]) != 2)) && ((ref04_Class L[i]) != 3)) && (L[i] != 45)) && (L[i] != 95))) = !(wordP L[i]) := by
        unfold wordP bne
        cases (ref04_Class L[i] == 2) <;> cases (ref04_Class L[i] == 3) <;> cases (L[i] == 45) <;> cases (L[i] == 95) <;> rfl
      rw [e]
      cases hw : wordP L[i] with
      | false => simp
      | true =>
        have hww : w64 ((i : Int) + 1) = ((i + 1 : Nat) : Int) := wr (by omega)
        have e3 : ((2 : Int) == 3) = false := rfl
        simp only [Bool.not_true, cond_false, cond_true, e3, Bool.false_and, if_true]
        rw [hww, end_go L hL a ha m (i + 1) (by omega) (by omega), List.length_cons]
        congr 1
        omega
    · rw [decide_eq_false (show ¬ (i : Int) < (L.length : Int) by omega), List.drop_eq_nil_of_le h]
      simp
theorem end_eq (L : List Int) (hL : L.length ≤ 400) (a : Nat) (hlt : a < L.length) (ha : ref04_Class (L.getD a 0) = 2) : ref05_end L (a : Int) = ((a + ((L.drop a).takeWhile wordP).length : Nat) : Int) := by
  unfold ref05_end
  have hw : w64 ((a : Int) + 1) = ((a + 1 : Nat) : Int) := wr (by omega)
  rw [hw, end_go L hL a ha _ (a + 1) (by omega) (by omega), List.drop_eq_getElem_cons hlt, List.takeWhile_cons]
  have hg : L.getD a 0 = L[a] := by simp [List.getD, List.getElem?_eq_getElem hlt]
  have : wordP L[a] = true := by unfold wordP; rw [← hg, ha]; rfl
  rw [this]
  simp only [if_true, List.length_cons]
  congr 1
  omega
theorem text_kind (L : List Int) (a : Int) : ∀ (m : Nat) (i : Int), (ref05_text_g1 L a m i).1.kind ≠ 1
  | 0, i => by simp [ref05_text_g1, Token.zero]
  | m + 1, i => by
    rw [ref05_text_g1]
    simp only [Bool.cond_eq_ite]
    repeat' split
    all_goals first | exact text_kind L a m _ | (simp [Token.zero]; done)
theorem one_kind (L : List Int) (a : Int) (h : (ref04_Class (L.getD (Int.toNat a) 0) == 2) = false) : (ref05_one L a).1.kind ≠ 1 := by
  unfold ref05_one ref05_one_k1
  rw [h]
  simp only [cond_false, Bool.cond_eq_ite]
  repeat' split
  all_goals first | exact text_kind L a _ _ | (simp [Token.zero]; done) | simp_all
theorem one_word (L : List Int) (hL : L.length ≤ 400) (a : Nat) (hlt : a < L.length) (ha : ref04_Class (L.getD a 0) = 2) :
    ref05_one L (a : Int) = (⟨1, ref04_Lower (runesBytes ((L.drop a).takeWhile wordP)), 0, (a : Int)⟩, ((a + ((L.drop a).takeWhile wordP).length : Nat) : Int), 0, 0) := by
  unfold ref05_one
  simp only [Int.toNat_natCast, ha, end_eq L hL a hlt ha]
  rw [take_run]
  rfl
section
variable (s : ByteArray)
theorem rtokens_pre : ∀ (m : Nat) (out : List Token) (i : Int), (ref05_Tokens_g1 s m out i).1 = [] ∨ out <+: (ref05_Tokens_g1 s m out i).1
  | 0, _, _ => .inl rfl
  | m + 1, out, i => by
    rw [ref05_Tokens_g1]
    cases (decide (i < ((ref05_Runes s).length : Int))) with
    | false => exact .inr (List.prefix_refl _)
    | true =>
      simp only [cond_true]
      cases ((ref04_Class ((ref05_Runes s).getD (Int.toNat i) 0)) == 1) with
      | true => exact rtokens_pre m out _
      | false =>
        simp only [cond_false]
        cases ((ref05_one (ref05_Runes s) i).2.2.2 != 0) with
        | true => exact .inl rfl
        | false =>
          rcases rtokens_pre m (out ++ [(ref05_one (ref05_Runes s) i).1]) ((ref05_one (ref05_Runes s) i).2.1) with h | h
          · exact .inl h
          · exact .inr (List.IsPrefix.trans (List.prefix_append _ _) h)
theorem rskip (hL : (lineOf s).length ≤ 400) : ∀ (k m : Nat) (out : List Token) (i : Nat), i + k ≤ (lineOf s).length → (∀ y ∈ ((lineOf s).drop i).take k, blankP y = true) → ref05_Tokens_g1 s (m + k) out (i : Int) = ref05_Tokens_g1 s m out ((i + k : Nat) : Int)
  | 0, _, _, _, _, _ => rfl
  | k + 1, m, out, i, h, hb => by
    have hi : i < (lineOf s).length := by omega
    rw [show m + (k + 1) = (m + k) + 1 by omega, ref05_Tokens_g1, runes_line, decide_eq_true (show (i : Int) < ((lineOf s).length : Int) by omega), Int.toNat_natCast]
    have hg : (lineOf s).getD i 0 = (lineOf s)[i] := by simp [List.getD, List.getElem?_eq_getElem hi]
    rw [List.drop_eq_getElem_cons hi, List.take_succ_cons] at hb
    have hc : ((ref04_Class (lineOf s)[i]) == 1) = true := hb _ (List.mem_cons_self ..)
    have hw : w64 ((i : Int) + 1) = ((i + 1 : Nat) : Int) := wr (by omega)
    rw [hg, hc, hw]
    simp only [cond_true]
    rw [rskip hL k m out (i + 1) (by omega) (fun y hy => hb y (List.mem_cons_of_mem _ hy))]
    congr 2
    omega
theorem rskipB (hL : (lineOf s).length ≤ 400) (m : Nat) (out : List Token) (a : Nat) (ha : a ≤ (lineOf s).length) (hm : (lineOf s).length - a < m) :
    ∃ m', (lineOf s).length - skipB (lineOf s) a < m' ∧ ref05_Tokens_g1 s m out (a : Int) = ref05_Tokens_g1 s m' out ((skipB (lineOf s) a : Nat) : Int) := by
  have hle := skipB_le (lineOf s) a ha
  have hk : skipB (lineOf s) a = a + (((lineOf s).drop a).takeWhile blankP).length := rfl
  refine ⟨m - (((lineOf s).drop a).takeWhile blankP).length, by omega, ?_⟩
  rw [hk, ← rskip s hL _ (m - (((lineOf s).drop a).takeWhile blankP).length) out a (by omega) ?_]
  · congr 1
    omega
  · intro y hy
    have : ((lineOf s).drop a).take (((lineOf s).drop a).takeWhile blankP).length = ((lineOf s).drop a).takeWhile blankP := (List.prefix_iff_eq_take.1 (List.takeWhile_prefix blankP)).symm
    rw [this] at hy
    exact List.all_eq_true.1 (List.all_takeWhile ..) y hy
theorem rstep (m : Nat) (out : List Token) (a : Nat) (ha : a < (lineOf s).length) (hb : blankP ((lineOf s).getD a 0) = false) :
    ref05_Tokens_g1 s (m + 1) out (a : Int) = bif ((ref05_one (lineOf s) (a : Int)).2.2.2 != 0) then ([], (ref05_one (lineOf s) (a : Int)).2.2.1, (ref05_one (lineOf s) (a : Int)).2.2.2) else ref05_Tokens_g1 s m (out ++ [(ref05_one (lineOf s) (a : Int)).1]) (ref05_one (lineOf s) (a : Int)).2.1 := by
  rw [ref05_Tokens_g1, runes_line, decide_eq_true (show (a : Int) < ((lineOf s).length : Int) by omega), Int.toNat_natCast]
  have : ((ref04_Class ((lineOf s).getD a 0)) == 1) = false := hb
  rw [this]
  rfl
theorem rend (m : Nat) (out : List Token) : ref05_Tokens_g1 s (m + 1) out ((lineOf s).length : Int) = (out, ((lineOf s).length : Int), 0) := by
  rw [ref05_Tokens_g1, runes_line, decide_eq_false (by omega)]
  rfl
theorem skip_no (L : List Int) (a : Nat) (h : skipB L a < L.length) : blankP (L.getD (skipB L a) 0) = false := by
  unfold skipB at *
  have hd : (L.drop a)[((L.drop a).takeWhile blankP).length]? = some (L.getD (a + ((L.drop a).takeWhile blankP).length) 0) := by
    rw [List.getElem?_drop, List.getD, List.getElem?_eq_getElem h]
    rfl
  have hsp : L.drop a = (L.drop a).takeWhile blankP ++ (L.drop a).dropWhile blankP := (List.takeWhile_append_dropWhile).symm
  generalize hX : (L.drop a).takeWhile blankP = X at *
  generalize hY : (L.drop a).dropWhile blankP = Y at *
  rw [hsp, List.getElem?_append_right (Nat.le_refl _), Nat.sub_self] at hd
  cases hc : Y with
  | nil => rw [hc] at hd; cases hd
  | cons y t =>
    rw [hc] at hd
    simp only [List.getElem?_cons_zero, Option.some.injEq] at hd
    rw [← hd]
    have := List.head_dropWhile_not blankP (l := L.drop a) (by rw [hY, hc]; simp)
    simpa [hY, hc] using this
end
theorem word_ref (s : ByteArray) : ref08_Word s = true ↔ Wd s := by
  rcases Nat.lt_or_ge 400 s.size with hs | hs
  · constructor
    · intro h
      unfold ref08_Word ref05_Tokens at h
      rw [decide_eq_true (show (s.size : Int) > 400 by omega)] at h
      cases h
    · rintro ⟨h, _⟩
      omega
  have hL : (lineOf s).length ≤ 400 := Nat.le_trans (line_len s) hs
  have e0 : ref05_Tokens s = ref05_Tokens_g1 s ((lineOf s).length + 1) [] ((0 : Nat) : Int) := by
    unfold ref05_Tokens
    rw [decide_eq_false (show ¬ (s.size : Int) > 400 by omega), runes_line]
    rfl
  obtain ⟨m1, hm1, e1⟩ := rskipB s hL ((lineOf s).length + 1) [] 0 (by omega) (by omega)
  rw [e1] at e0
  have hle0 := skipB_le (lineOf s) 0 (by omega)
  obtain ⟨m2, rfl⟩ : ∃ m2, m1 = m2 + 1 := ⟨m1 - 1, by omega⟩
  unfold Wd ref08_Word
  constructor
  · intro h
    cases h1 : (((ref05_Tokens s).2.2 != 0) || ((((ref05_Tokens s).1).length : Int) != 1)) with
    | true => rw [h1] at h; cases h
    | false =>
      rw [h1] at h
      simp only [cond_false] at h
      have hleni : ((ref05_Tokens s).1.length : Int) = 1 := by simpa using (or_f h1).2
      have hlen : (ref05_Tokens s).1.length = 1 := by omega
      cases h2 : ((((((ref05_Tokens s).1).getD 0 Token.zero).kind != 1) || (!(ByteArray.toList (((ref05_Tokens s).1).getD 0 Token.zero).text == ByteArray.toList s))) || ((((ref05_Tokens s).1).getD 0 Token.zero).num != 0)) with
      | true => rw [h2] at h; cases h
      | false =>
        obtain ⟨h3, _⟩ := or_f h2
        obtain ⟨hk, ht⟩ := or_f h3
        have hk : ((ref05_Tokens s).1.getD 0 Token.zero).kind = 1 := by simpa using hk
        have ht : ((ref05_Tokens s).1.getD 0 Token.zero).text = s := by
          have : (ByteArray.toList (((ref05_Tokens s).1).getD 0 Token.zero).text == ByteArray.toList s) = true := by simpa using ht
          exact (bytes_inj _ _).1 this
        rcases Nat.eq_or_lt_of_le hle0 with hb | hb
        · rw [hb, rend] at e0
          rw [e0] at hlen
          cases hlen
        · have hnb := skip_no _ _ hb
          rw [rstep s m2 [] _ hb hnb] at e0
          cases he : ((ref05_one (lineOf s) ((skipB (lineOf s) 0 : Nat) : Int)).2.2.2 != 0) with
          | true =>
            rw [he] at e0
            rw [e0] at hlen
            cases hlen
          | false =>
            rw [he] at e0
            simp only [cond_false, List.nil_append] at e0
            have hp : ∀ o i m, ref05_Tokens s = ref05_Tokens_g1 s m o i → (ref05_Tokens s).1 = [] ∨ o <+: (ref05_Tokens s).1 := fun o i m e => by rw [e]; exact rtokens_pre s _ _ _
            rcases hp _ _ _ e0 with h' | h'
            · rw [h'] at hlen; cases hlen
            · have hhead : (ref05_Tokens s).1.getD 0 Token.zero = (ref05_one (lineOf s) ((skipB (lineOf s) 0 : Nat) : Int)).1 := by
                obtain ⟨q, hq⟩ := h'
                rw [← hq]
                rfl
              rw [hhead] at hk ht
              have hcl : (ref04_Class ((lineOf s).getD (skipB (lineOf s) 0) 0) == 2) = true := by
                cases hcc : (ref04_Class ((lineOf s).getD (skipB (lineOf s) 0) 0) == 2) with
                | true => rfl
                | false => exact absurd hk (one_kind _ _ (by rw [Int.toNat_natCast]; exact hcc))
              have hcl' := eq_of_beq hcl
              rw [one_word _ hL _ hb hcl'] at e0 ht
              simp only at e0 ht
              -- the line begins with the word
              have hfirst : (lineOf s).drop (skipB (lineOf s) 0) = (lineOf s).getD (skipB (lineOf s) 0) 0 :: (lineOf s).drop (skipB (lineOf s) 0 + 1) := by
                rw [List.drop_eq_getElem_cons hb]
                congr 1
                simp [List.getD, List.getElem?_eq_getElem hb]
              have hwp : wordP ((lineOf s).getD (skipB (lineOf s) 0) 0) = true := by unfold wordP; rw [hcl']; rfl
              have hz : skipB (lineOf s) 0 = 0 := by
                rcases Nat.eq_zero_or_pos (skipB (lineOf s) 0) with hz | hz
                · exact hz
                · exfalso
                  cases hl : lineOf s with
                  | nil => rw [hl] at hb; exact absurd hb (by simp)
                  | cons y q =>
                    have hy : blankP y = true := by
                      cases hbl : blankP y with
                      | true => rfl
                      | false =>
                        have : skipB (lineOf s) 0 = 0 := by
                          unfold skipB
                          rw [List.drop_zero, hl, List.takeWhile_cons, hbl]
                          rfl
                        omega
                    rw [hfirst, List.takeWhile_cons, hwp] at ht
                    exact no_blank_word s y q hl hy _ _ hcl' ht
              rw [hz] at e0 ht hcl' hb
              simp only [List.drop_zero, Nat.zero_add] at e0 ht
              cases hl : lineOf s with
              | nil => rw [hl] at hb; exact absurd hb (by simp)
              | cons x r =>
                rw [← hl]
                refine ⟨hs, x, r, hl, by rw [hl] at hcl'; exact hcl', ht, ?_⟩
                have hle : ((lineOf s).takeWhile wordP).length ≤ (lineOf s).length := (List.takeWhile_prefix wordP).length_le
                have hpos : 0 < ((lineOf s).takeWhile wordP).length := by
                  rw [hl, List.takeWhile_cons]
                  have hcx : ref04_Class x = 2 := by rw [hl] at hcl'; exact hcl'
                  have : wordP x = true := by unfold wordP; rw [hcx]; rfl
                  rw [this]
                  simp
                obtain ⟨m3, hm3, e3⟩ := rskipB s hL m2 [⟨1, ref04_Lower (runesBytes ((lineOf s).takeWhile wordP)), 0, ((0 : Nat) : Int)⟩] ((lineOf s).takeWhile wordP).length hle (by omega)
                rw [e3] at e0
                have hle2 := skipB_le (lineOf s) _ hle
                rcases Nat.eq_or_lt_of_le hle2 with hq | hq
                · exact hq
                · exfalso
                  obtain ⟨m4, rfl⟩ : ∃ m4, m3 = m4 + 1 := ⟨m3 - 1, by omega⟩
                  rw [rstep s m4 _ _ hq (skip_no _ _ hq)] at e0
                  cases he2 : ((ref05_one (lineOf s) ((skipB (lineOf s) ((lineOf s).takeWhile wordP).length : Nat) : Int)).2.2.2 != 0) with
                  | true =>
                    rw [he2] at e0
                    rw [e0] at hlen
                    cases hlen
                  | false =>
                    rw [he2] at e0
                    simp only [cond_false] at e0
                    rcases hp _ _ _ e0 with h'' | h''
                    · rw [h''] at hlen; cases hlen
                    · have := h''.length_le
                      rw [hlen] at this
                      simp at this
  · rintro ⟨_, x, r, hl, hx, ht, hsk⟩
    have hz : skipB (lineOf s) 0 = 0 := by
      unfold skipB
      rw [List.drop_zero, hl, List.takeWhile_cons]
      have : blankP x = false := by unfold blankP; rw [hx]; rfl
      rw [this]
      rfl
    have hb : 0 < (lineOf s).length := by rw [hl]; simp
    have hg : (lineOf s).getD 0 0 = x := by rw [hl]; rfl
    rw [hz] at e0 hm1
    have hnb : blankP ((lineOf s).getD 0 0) = false := by rw [hg]; unfold blankP; rw [hx]; rfl
    rw [rstep s m2 [] 0 hb hnb, one_word _ hL 0 hb (by rw [hg]; exact hx)] at e0
    simp only [List.drop_zero, Nat.zero_add, List.nil_append] at e0
    have e00 : ((0 : Int) != 0) = false := rfl
    rw [e00] at e0
    simp only [cond_false] at e0
    have hle : ((lineOf s).takeWhile wordP).length ≤ (lineOf s).length := (List.takeWhile_prefix wordP).length_le
    have hpos : 0 < ((lineOf s).takeWhile wordP).length := by
      rw [hl, List.takeWhile_cons]
      have : wordP x = true := by unfold wordP; rw [hx]; rfl
      rw [this]
      simp
    obtain ⟨m3, hm3, e3⟩ := rskipB s hL m2 [⟨1, ref04_Lower (runesBytes ((lineOf s).takeWhile wordP)), 0, ((0 : Nat) : Int)⟩] ((lineOf s).takeWhile wordP).length hle (by omega)
    rw [e3, hsk, ht] at e0
    obtain ⟨m4, rfl⟩ : ∃ m4, m3 = m4 + 1 := ⟨m3 - 1, by omega⟩
    rw [rend] at e0
    rw [e0]
    simp
theorem word_eq (s : ByteArray) : cmd_word s = ref08_Word s := by
  rw [Bool.eq_iff_iff, word_prog, word_ref]
end Go.Proofs.YtoionleakeemlaaGreatDoor
namespace Go.Proofs.YtoionleakeemlaaGreatDoor
set_option linter.unusedSimpArgs false
set_option linter.unusedVariables false
open Go.Fw
theorem alts_le {s : Shape} (h : (shape_Check s == 0) = true) : s.alts.length ≤ 6 := by
  have h := eq_of_beq h
  unfold shape_Check shape_Check_k1 at h
  by_cases h1 : s.kind = 1
  · simp only [h1, beq_self_eq_true, cond_true] at h
    grind
  by_cases h2 : s.kind = 2
  · have : ((2 : Int) == 1) = false := rfl
    simp only [h2, beq_self_eq_true, cond_true, this, cond_false] at h
    grind
  by_cases h3 : s.kind = 3
  · have e1 : ((3 : Int) == 1) = false := rfl
    have e2 : ((3 : Int) == 2) = false := rfl
    simp only [h3, beq_self_eq_true, cond_true, e1, e2, cond_false] at h
    grind
  have e1 : (s.kind == 1) = false := by simpa using h1
  have e2 : (s.kind == 2) = false := by simpa using h2
  have e3 : (s.kind == 3) = false := by simpa using h3
  rw [e1, e2, e3] at h
  cases h
theorem deps_le {l : List Dep} (h : cmd_deps l = true) : l.length ≤ 4 := by
  rcases Nat.lt_or_ge 4 l.length with h' | h'
  · unfold cmd_deps at h
    rw [deps_long l h'] at h
    cases h
  · exact h'
theorem cmd_self (c : Cmd) : cmd_Same c c = true := by
  unfold cmd_Same
  rw [(shape_same _ _).2 rfl, (equal_Dep _ _).2 rfl]
  simp
theorem submission_eq (n u a : ByteArray) (sh : Shape) (p : Int) (l : List Dep) :
    cmd_Check ⟨1, 0, n, u, a, sh, p, true, 0, false, l, 0, 0, 0⟩ = ref08_Check ⟨1, 0, n, u, a, sh, p, true, 0, false, l, 0, 0, 0⟩ := by
  have hbare : cmd_bare ⟨1, 0, n, u, a, sh, p, true, 0, false, l, 0, 0, 0⟩ = ⟨1, 0, n, u, a, sh, p, true, 0, false, l, 0, 0, 0⟩ := rfl
  have hf : cmd_fits ⟨1, 0, n, u, a, sh, p, true, 0, false, l, 0, 0, 0⟩ = ((ref08_in p 0 100) && (((((((cmd_name n) && (cmd_name u)) && (cmd_name a)) && (cmd_word u)) && (cmd_word a)) && (cmd_deps l)) && ((shape_Check sh) == 0))) := by
    unfold cmd_fits
    show (bif ((((true && (!(ref08_in p 0 100))) || false) || false) || false) then false else _) = _
    cases (ref08_in p 0 100) <;> rfl
  have hr : ref08_Check ⟨1, 0, n, u, a, sh, p, true, 0, false, l, 0, 0, 0⟩ = bif !((((((((ref08_Name n) && (ref08_Name u)) && (ref08_Name a)) && (ref08_Word u)) && (ref08_Word a)) && (ref08_waits l)) && ((ref07_Check sh) == 0)) && (ref08_in p 0 100)) then 80 else 0 := by
    unfold ref08_Check ref08_Check_k1 ref08_Check_k4 ref08_Check_k5 ref08_none
    simp
  rw [hr]
  unfold cmd_Check
  rw [hbare, cmd_self, hf, ← name_eq, ← name_eq, ← name_eq, ← word_eq, ← word_eq, ← deps_eq, ← shape_Check_eq]
  cases hd : cmd_deps l with
  | false => cases (ref08_in p 0 100) <;> simp
  | true =>
    cases hs : (shape_Check sh == 0) with
    | false => cases (ref08_in p 0 100) <;> simp
    | true =>
      have h1 := alts_le hs
      have h2 := deps_le hd
      have e1 : decide ((sh.alts.length : Int) > 6) = false := decide_eq_false (by omega)
      have e2 : decide ((l.length : Int) > 4) = false := decide_eq_false (by omega)
      show (bif (((decide ((sh.alts.length : Int) > 6)) || (decide ((l.length : Int) > 4))) || _) || _ then (80 : Int) else 0) = _
      rw [e1, e2]
      cases (ref08_in p 0 100) <;> cases cmd_name n <;> cases cmd_name u <;> cases cmd_name a <;> cases cmd_word u <;> cases cmd_word a <;> rfl
theorem opt_wall (s : Shape) : ∀ x ∈ ref07_Options s, 1 ≤ x.wall ∧ x.wall ≤ 100000 := by
  intro x hx
  cases hc : (ref07_Check s != 0) with
  | true =>
    unfold ref07_Options at hx
    rw [hc] at hx
    cases hx
  | false =>
    have hz : ref07_Check s = 0 := by simpa using hc
    cases hk : (s.kind == 3) with
    | true =>
      have hk3 : s.kind = 3 := by simpa using hk
      have hw : 1 ≤ s.wall ∧ s.wall ≤ 100000 := by
        unfold ref07_Check at hz
        simp only [hk3, beq_self_eq_true, cond_true] at hz
        cases hq : (((((decide ((s.alts.length : Int) > 0)) || (!(ref07_size s.min))) || (!(ref07_size s.max))) || (decide (s.max < s.min))) || (!(ref07_wall s.wall))) with
        | true => rw [hq] at hz; cases hz
        | false =>
          have := (or_f hq).2
          unfold ref07_wall at this
          simp at this
          omega
      rw [← options_eq] at hx
      unfold shape_Options at hx
      rw [shape_Check_eq, hc, hk] at hx
      simp only [cond_false, cond_true] at hx
      rcases List.mem_append.1 hx with hx | hx
      · have h0 : s.alts.length = 0 := by
          unfold ref07_Check at hz
          simp only [hk3, beq_self_eq_true, cond_true] at hz
          cases hq : (((((decide ((s.alts.length : Int) > 0)) || (!(ref07_size s.min))) || (!(ref07_size s.max))) || (decide (s.max < s.min))) || (!(ref07_wall s.wall))) with
          | true => rw [hq] at hz; cases hz
          | false =>
            have := of_decide_eq_false (or_f (or_f (or_f (or_f hq).1).1).1).1
            omega
        rw [List.eq_nil_of_length_eq_zero h0] at hx
        cases hx
      · unfold shape_sizes at hx
        obtain ⟨i, _, rfl⟩ := List.mem_map.1 hx
        exact hw
    | false =>
      have hk' : (s.kind != 3) = true := by unfold bne; rw [hk]; rfl
      have hx' : x ∈ s.alts := by
        unfold ref07_Options at hx
        rw [hc, hk'] at hx
        exact hx
      have hg : ref07_Check_g2 s s.alts 0 = 0 := by
        unfold ref07_Check ref07_Check_k1 at hz
        rw [hk] at hz
        simp only [cond_false] at hz
        grind
      have := ((g2_eq s s.alts 0 (by simp)).1.1 hg).1 x hx'
      unfold okAlt ref07_wall at this
      simp at this
      omega
theorem option_wall (v : Job) (c : Int) : (job_view_option v c).2 = decide (ref14_wall v.shape c > 0) ∧ ((job_view_option v c).2 = false ↔ ref14_wall v.shape c = 0) ∧ ((job_view_option v c).2 = true → (job_view_option v c).1.wall = ref14_wall v.shape c ∧ 1 ≤ ref14_wall v.shape c ∧ ref14_wall v.shape c ≤ 100000) := by
  unfold job_view_option ref14_wall
  rw [options_eq]
  cases hb : ((decide (c < 0)) || (decide (c ≥ ((ref07_Options v.shape).length : Int)))) with
  | true => exact ⟨rfl, ⟨fun _ => rfl, fun _ => rfl⟩, fun h => (by cases h)⟩
  | false =>
    obtain ⟨h1, h2⟩ := or_f hb
    have h1 := of_decide_eq_false h1
    have h2 := of_decide_eq_false h2
    simp only [cond_false]
    have hm : (ref07_Options v.shape).getD (Int.toNat c) Alt.zero ∈ ref07_Options v.shape := by
      rw [List.getD, List.getElem?_eq_getElem (show Int.toNat c < (ref07_Options v.shape).length by omega)]
      exact List.getElem_mem _
    have hw := opt_wall v.shape _ hm
    exact ⟨(decide_eq_true (by omega)).symm, ⟨fun h => (by cases h), fun h => by omega⟩, fun _ => ⟨trivial, hw⟩⟩
theorem nodes_few {s : Int} (hs : U64 s) : job_nodes s = ref14_Few s := by
  obtain ⟨au, ab⟩ := nodeset_All_bits (n := 48) (by decide)
  have au : U64 (nodeset_All 48) := au
  have ab : ∀ k, tb (nodeset_All 48) k = decide (k < 48) := ab
  unfold job_nodes ref14_Few
  rw [Bool.eq_iff_iff, eq_zero_iff (wu64_U _), decide_eq_true_eq]
  have ht : ∀ k, tb (wu64 (BitVec.ofInt 64 s &&& ~~~(BitVec.ofInt 64 (nodeset_All 48))).toNat) k = (tb s k && !decide (k < 48)) := fun k => by rw [tb_andnot hs au, ab]
  have p48 : (2 : Nat) ^ 48 = 281474976710656 := by decide
  constructor
  · intro h
    have : s.toNat < 2 ^ 48 := by
      refine Nat.lt_pow_two_of_testBit _ fun k hk => ?_
      rcases Nat.lt_or_ge k 64 with hk' | hk'
      · have := h k hk'
        rw [ht, decide_eq_false (show ¬ k < 48 by omega)] at this
        simpa [tb] using this
      · exact tb_high hs hk'
    rw [p48] at this
    unfold U64 at hs
    omega
  · intro h k _
    rw [ht]
    rcases Nat.lt_or_ge k 48 with hk | hk
    · rw [decide_eq_true hk]; simp
    · have : tb s k = false := by
        unfold tb
        refine Nat.testBit_lt_two_pow (Nat.lt_of_lt_of_le (m := 2 ^ 48) ?_ (Nat.pow_le_pow_right (by decide) hk))
        rw [p48]
        unfold U64 at hs
        omega
      rw [this]
      rfl
theorem queued_eq {v : Job} (h : v.state = 1) : job_view_queued v = ref14_state v := by
  unfold ref14_state
  rw [h]
  simp only [beq_self_eq_true, cond_true]
  unfold job_view_queued
  rw [(option_wall v v.choice).1]
  have et : job_tick = ref14_Tick := rfl
  rw [et]
  cases hp : (v.promise == (-1)) with
  | true =>
    have : v.promise = -1 := by simpa using hp
    have hT : ref14_Tick v.promise = false := by rw [this]; rfl
    rw [hT]
    unfold bne
    cases (v.start == 0) <;> cases (v.limit == 0) <;> cases (v.nodes == 0) <;> simp
  | false =>
    unfold bne
    cases (v.start == 0) <;> cases (v.limit == 0) <;> cases (v.nodes == 0) <;> simp
theorem running_eq {v : Job} (h : v.state = 2) (hn : U64 v.nodes) : job_view_running v = ref14_state v := by
  unfold ref14_state
  rw [h]
  have e1 : ((2 : Int) == 1) = false := rfl
  simp only [beq_self_eq_true, cond_true, e1, cond_false]
  unfold job_view_running
  rw [nodes_few hn, allows_eq, count_list hn]
  have et : job_tick = ref14_Tick := rfl
  rw [et]
  obtain ⟨_, o2, o3⟩ := option_wall v v.choice
  cases ho : (job_view_option v v.choice).2 with
  | false =>
    rw [o2.1 ho]
    rfl
  | true =>
    obtain ⟨w1, w2, w3⟩ := o3 ho
    have hw0 : (ref14_wall v.shape v.choice == 0) = false := by simp; omega
    rw [hw0, w1]
    simp only [Bool.not_true, Bool.false_or]
    cases v.held with
    | true => rfl
    | false =>
      cases hs : ref14_Tick v.start with
      | false => rfl
      | true =>
        cases ref14_Tick v.promise with
        | false => rfl
        | true =>
          have : decide (v.promise < v.start) = decide (v.start > v.promise) := rfl
          rw [this]
          cases decide (v.start > v.promise) with
          | true => rfl
          | false =>
            cases hl : ref14_Tick v.limit with
            | false => rfl
            | true =>
              unfold ref14_Tick at hs hl
              simp only [Bool.and_eq_true, decide_eq_true_eq] at hs hl
              have q1 : w64 (v.limit - v.start) = v.limit - v.start := wr (by omega)
              have q2 : w64 (v.start + ref14_wall v.shape v.choice) = v.start + ref14_wall v.shape v.choice := wr (by omega)
              rw [q1, q2]
              have : (v.limit - v.start != ref14_wall v.shape v.choice) = (v.limit != v.start + ref14_wall v.shape v.choice) := by
                rw [Bool.eq_iff_iff]
                simp only [bne_iff_ne]
                omega
              rw [this]
theorem over_eq {v : Job} (h1 : (v.state == 1) = false) (h2 : (v.state == 2) = false) : (job_ended v.state && job_view_over v) = ref14_state v := by
  unfold ref14_state
  rw [h1, h2]
  have et : job_tick = ref14_Tick := rfl
  have ee : job_ended = ref14_Ended := rfl
  unfold job_view_over
  rw [et, ee]
  simp only [cond_false, Bool.and_assoc]
theorem ref14_go (j : Job) : ∀ (l : List Dep) (i : Nat), ref14_Check_g1 j l i = bif l.any (fun y => decide (y.job ≥ j.id)) then 140 else (bif !(ref14_state j) then 140 else 0)
  | [], i => rfl
  | x :: r, i => by
    rw [ref14_Check_g1, List.any_cons]
    cases decide (x.job ≥ j.id) with
    | true => rfl
    | false => simpa using ref14_go j r (i + 1)
theorem job_eq (j : Job) (hn : U64 j.nodes) : job_Check j = ref14_Check j := by
  unfold job_Check ref14_Check
  rw [ref14_go, any_Dep]
  have es : cmd_Check (job_view_submission j) = ref08_Check ⟨1, 0, j.name, j.user, j.account, j.shape, j.prio, true, 0, false, j.after, 0, 0, 0⟩ := submission_eq _ _ _ _ _ _
  rw [es]
  have et : job_tick = ref14_Tick := rfl
  rw [et]
  have eu : (j.used != sat_Usage j.used) = (decide (j.used < 0) || decide (j.used > 1000000000000)) := by
    unfold sat_Usage sat_within_int
    grind
  rw [eu]
  have est : (bif (j.state == 1) then (bif (!(job_view_queued j)) then (140 : Int) else 0) else bif (j.state == 2) then (bif (!(job_view_running j)) then 140 else 0) else bif (!(job_ended j.state)) then 140 else bif (!(job_view_over j)) then 140 else 0) = (bif !(ref14_state j) then 140 else 0) := by
    cases h1 : (j.state == 1) with
    | true =>
      rw [queued_eq (by simpa using h1)]
      rfl
    | false =>
      cases h2 : (j.state == 2) with
      | true =>
        rw [running_eq (by simpa using h2) hn]
        rfl
      | false =>
        rw [← over_eq h1 h2]
        cases job_ended j.state <;> cases job_view_over j <;> rfl
  rw [est]
  generalize (bif !(ref14_state j) then (140 : Int) else 0) = Z
  generalize (List.any j.after fun y => decide (y.job ≥ j.id)) = A
  generalize ((ref08_Check ⟨1, 0, j.name, j.user, j.account, j.shape, j.prio, true, 0, false, j.after, 0, 0, 0⟩) != 0) = B
  generalize decide (j.id < 1) = C
  generalize decide (j.id > 99999) = D
  generalize ref14_Tick j.born = E
  generalize decide (j.used < 0) = F
  generalize decide (j.used > 1000000000000) = G
  cases A <;> cases B <;> cases C <;> cases D <;> cases E <;> cases F <;> cases G <;> rfl
theorem table_eq (l : List Job) (hl : l.length ≤ 4294967296) (hn : ∀ x ∈ l, U64 x.nodes) : table_Check l = ref15_Check l := by
  have h := ord_eq Job.zero (·.id) (fun x => job_Check x != 0) 140 40 l hl (table_Check_g1 l) ref15_Check_g1 (fun _ => rfl) (fun _ _ _ _ => rfl) (fun _ _ => rfl) (fun x hx r last i _ => by
      rw [ref15_Check_g1, job_eq x (hn x hx)]
      rfl) (fun x hx => (job_bounds (by simpa using hx)).1) l 0 0 (by simp) (by omega) (by omega) (fun _ => rfl) (fun h => absurd h (by omega))
  unfold table_Check ref15_Check
  rw [← h]
  have e : decide ((l.length : Int) > 40) = decide (l.length > 40) := by rw [Bool.eq_iff_iff]; simp only [decide_eq_true_eq]; omega
  rw [e]
theorem room_eq (s : State) (hs : s.sz) (hn : ∀ x ∈ s.jobs, U64 x.nodes) : room_Check s = ref20_Check s := by
  unfold room_Check ref20_Check
  rw [fleet_Check_eq, table_eq s.jobs hs.2.1 hn, book_Check_eq s.books hs.2.2.2.2.1]
  unfold ref14_Tick
  have : (decide (s.now < 0) || decide (s.now > 1000000)) = !(decide (s.now ≥ 0) && decide (s.now ≤ 1000000)) := by
    rw [Bool.eq_iff_iff]
    simp only [Bool.or_eq_true, decide_eq_true_eq, Bool.not_eq_true', Bool.and_eq_false_iff, decide_eq_false_iff_not]
    omega
  rw [this]
theorem plan_eq (s : State) (hs : s.sz) (hn : ∀ x ∈ s.jobs, U64 x.nodes) : plan_Check s = ref21_Check s := by
  unfold plan_Check ref21_Check
  rw [room_eq s hs hn, ledger_Check_eq s.ledger hs.2.2.2.2.2.1]
end Go.Proofs.YtoionleakeemlaaGreatDoor
namespace Go.Proofs.YtoionleakeemlaaGreatDoor
set_option linter.unusedSimpArgs false
set_option linter.unusedVariables false
open Go.Fw
theorem pow_step (i : Nat) (h : i < 63) : wu64 ((2 : Int) ^ i * 2) = (2 : Int) ^ (i + 1) := by
  rw [← Int.pow_succ]
  exact wu64_id (pow_U (by omega))
theorem bit09_go (n : Nat) (hn : n ≤ 63) : ∀ (m i : Nat), i ≤ n → n - i < m → (ref09_bit_g1 (n : Int) m ((2 : Int) ^ i) i).1 = (2 : Int) ^ n
  | 0, _, _, h => absurd h (by omega)
  | m + 1, i, hi, hm => by
    rw [ref09_bit_g1]
    rcases Nat.lt_or_ge i n with h | h
    · rw [decide_eq_true (show (i : Int) < (n : Int) by omega), pow_step i (by omega)]
      exact bit09_go n hn m (i + 1) (by omega) (by omega)
    · obtain rfl : i = n := by omega
      rw [decide_eq_false (by omega)]
      rfl
theorem bit09 (n : Nat) (hn : n ≤ 63) : ref09_bit (n : Int) = (2 : Int) ^ n := by
  unfold ref09_bit ref09_bit_k1
  have := bit09_go n hn (Int.toNat ((n : Int) - (0 : Int)) + 1) 0 (by omega) (by omega)
  simpa using this
theorem bit12_go (n : Nat) (hn : n ≤ 63) : ∀ (m i : Nat), i ≤ n → n - i < m → (ref12_bit_g1 (n : Int) m ((2 : Int) ^ i) i).1 = (2 : Int) ^ n
  | 0, _, _, h => absurd h (by omega)
  | m + 1, i, hi, hm => by
    rw [ref12_bit_g1]
    rcases Nat.lt_or_ge i n with h | h
    · rw [decide_eq_true (show (i : Int) < (n : Int) by omega), Int.mul_comm, pow_step i (by omega)]
      exact bit12_go n hn m (i + 1) (by omega) (by omega)
    · obtain rfl : i = n := by omega
      rw [decide_eq_false (by omega)]
      rfl
theorem bit12 (n : Nat) (hn : n ≤ 63) : ref12_bit (n : Int) = (2 : Int) ^ n := by
  unfold ref12_bit ref12_bit_k1
  have := bit12_go n hn (Int.toNat ((n : Int) - (0 : Int)) + 1) 0 (by omega) (by omega)
  simpa using this
theorem has_eq {s : Int} (hs : U64 s) (n : Nat) : ref09_Has s (n : Int) = nodeset_Has s (n : Int) := by
  rw [nodeset_Has_eq hs]
  unfold ref09_Has
  rcases Nat.lt_or_ge n 64 with h | h
  · rw [decide_eq_false (show ¬ (n : Int) < 0 by omega), decide_eq_false (show ¬ (n : Int) > 63 by omega), decide_eq_true h, bit09 n (by omega)]
    simp only [Bool.or_false, cond_false, Bool.true_and]
    obtain ⟨q, rfl⟩ : ∃ q : Nat, s = (q : Int) := ⟨s.toNat, by unfold U64 at hs; omega⟩
    obtain ⟨p, e, e'⟩ := two_pow_cast n
    have e1 : Int.tdiv (q : Int) (p : Int) = ((q / p : Nat) : Int) := rfl
    have hq : q / p < 18446744073709551616 := by
      have := Nat.div_le_self q p
      unfold U64 at hs
      omega
    rw [e, e1, tb, Int.toNat_natCast, Nat.testBit_eq_decide_div_mod_eq, e']
    generalize q / p = w at *
    rw [wu64_id ⟨by omega, by omega⟩]
    have e2 : Int.tmod (w : Int) 2 = ((w % 2 : Nat) : Int) := rfl
    rw [e2, Bool.eq_iff_iff]
    simp
    omega
  · rw [decide_eq_true (show (n : Int) > 63 by omega), decide_eq_false (show ¬ n < 64 by omega)]
    simp
theorem of_go (job st : Int) (l : List Node) (hl : l.length ≤ 64) : ∀ (r : List Node) (i : Nat), r = l.drop i → i + r.length = l.length →
    (ref12_Of_g1 job st r (bitsUpto (fun k => ((l.getD k Node.zero).job == job) && ((l.getD k Node.zero).state == st)) i) i).1 = bitsUpto (fun k => ((l.getD k Node.zero).job == job) && ((l.getD k Node.zero).state == st)) l.length
  | [], i, hr, hlen => by
    have : i = l.length := by simpa using hlen
    subst this
    rfl
  | x :: r, i, hr, hlen => by
    simp only [List.length_cons] at hlen
    have hr' : r = l.drop (i + 1) := by rw [← List.drop_drop, ← hr]; rfl
    have hi : l[i]? = some x := by
      have := congrArg (fun q => q[0]?) hr
      simpa [List.getElem?_drop] using this.symm
    have hg : l.getD i Node.zero = x := by simp [List.getD, hi]
    have ih := of_go job st l hl r (i + 1) hr' (by omega)
    rw [ref12_Of_g1]
    rw [bitsUpto, hg] at ih
    cases hc : ((x.job == job) && (x.state == st)) with
    | true =>
      rw [hc] at ih
      simp only [cond_true] at ih ⊢
      have hlt := bitsUpto_lt (fun k => ((l.getD k Node.zero).job == job) && ((l.getD k Node.zero).state == st)) i
      have hu : U64 (bitsUpto (fun k => ((l.getD k Node.zero).job == job) && ((l.getD k Node.zero).state == st)) i + (2 : Int) ^ i) := by
        have := bitsUpto_U (fun k => ((l.getD k Node.zero).job == job) && ((l.getD k Node.zero).state == st)) (n := i + 1) (by omega)
        rw [bitsUpto] at this
        simp only [hg, hc, cond_true] at this
        exact this
      rw [bit12 i (by omega), wu64_id hu]
      exact ih
    | false =>
      rw [hc] at ih
      exact ih
theorem of_eq (l : List Node) (job st : Int) : fleet_Of l job st = ref12_Of l job st := by
  unfold ref12_Of
  rw [← fleet_Check_eq]
  cases hc : (fleet_Check l != 0) with
  | true =>
    unfold fleet_Of fleet_where
    rw [hc]
    rfl
  | false =>
    have hz : fleet_Check l = 0 := by simpa using hc
    have hl : l.length ≤ 64 := by
      unfold fleet_Check at hz
      cases h1 : (((decide ((l.length : Int) < 1)) || (decide ((l.length : Int) > 48))) || (slices_ContainsFunc_Node l (fun (y : Node) => (!(fleet_fine y))))) with
      | true => rw [h1] at hz; cases hz
      | false =>
        have := of_decide_eq_false (or_f (or_f h1).1).2
        omega
    obtain ⟨u, b⟩ := fleet_where_bits l (fun (y : Node) => ((y.job == job) && (y.state == st))) hz hl
    have h := of_go job st l hl l 0 (by simp) (by omega)
    simp only [cond_false, ref12_Of_k1]
    rw [bitsUpto] at h
    rw [h]
    refine tb_ext u (bitsUpto_U _ hl) fun k _ => ?_
    rw [tb_upto]
    exact b k
theorem state_where_bits (s : State) (is : Int → Node → Bool) (hl : s.nodes.length ≤ 64) : U64 (state_where s is) ∧ ∀ k, tb (state_where s is) k = (decide (k < s.nodes.length) && is (k : Int) (s.nodes.getD k Node.zero)) := by
  have e : state_where s is = (nodeset_Of (idxL (fun k x => is (k : Int) x) s.nodes 0)).1 := by
    unfold state_where state_where_k1
    rw [idx_loop (fun k x => is (k : Int) x) (state_where_g1 is) (fun _ _ => rfl) (fun _ _ _ _ => rfl), List.nil_append]
  rw [e]
  exact set_where (fun k x => is (k : Int) x) Node.zero s.nodes hl
theorem list_go {s : Int} (hs : U64 s) : ∀ (m : Nat) (out : List Int) (i : Nat), i ≤ 64 → 64 - i < m → nodeset_List_g1 s m out i = out ++ ((List.range' i (64 - i)).filter (tb s)).map fun (k : Nat) => (k : Int)
  | 0, _, _, _, h => absurd h (by omega)
  | m + 1, out, i, hi, hm => by
    rw [nodeset_List_g1]
    rcases Nat.lt_or_ge i 64 with h | h
    · have e : 64 - i = (64 - (i + 1)) + 1 := by omega
      rw [decide_eq_true (show (i : Int) < 64 by omega), and_one hs h, e, List.range'_succ, List.filter_cons]
      cases tb s i with
      | true =>
        simp only [cond_true, if_true, List.map_cons]
        rw [list_go hs m _ (i + 1) (by omega) (by omega), List.append_assoc]
        rfl
      | false =>
        simp only [cond_true, cond_false]
        rw [list_go hs m _ (i + 1) (by omega) (by omega)]
        rfl
    · rw [decide_eq_false (show ¬ (i : Int) < 64 by omega), show 64 - i = 0 by omega]
      simp
theorem list_mem {s : Int} (hs : U64 s) (x : Int) : x ∈ nodeset_List s ↔ ∃ k : Nat, k < 64 ∧ tb s k = true ∧ x = (k : Int) := by
  unfold nodeset_List nodeset_List_k1
  rw [list_go hs _ [] 0 (by omega) (by omega)]
  simp only [List.nil_append, List.mem_map, List.mem_filter, List.mem_range']
  constructor
  · rintro ⟨k, ⟨⟨j, hj, rfl⟩, hb⟩, rfl⟩
    exact ⟨_, by omega, hb, rfl⟩
  · rintro ⟨k, hk, hb, rfl⟩
    exact ⟨k, ⟨⟨k, by omega, by omega⟩, hb⟩, rfl⟩
theorem quiet_go (l : List Node) : ∀ (r : List Int) (i : Nat), alloc_Quiet_g1 l r i = r.all fun x => (decide (x < (l.length : Int))) && ((l.getD (Int.toNat x) Node.zero).want == 0)
  | [], i => rfl
  | x :: r, i => by
    rw [alloc_Quiet_g1, List.all_cons, quiet_go l r]
    cases ((decide (x < (l.length : Int))) && ((l.getD (Int.toNat x) Node.zero).want == 0)) <;> rfl
theorem quiet_iff {l : List Node} {s : Int} (hs : U64 s) (hc : fleet_Check l = 0) : alloc_Quiet l s = true ↔ ∀ k, k < 64 → tb s k = true → k < l.length ∧ (l.getD k Node.zero).want = 0 := by
  unfold alloc_Quiet
  rw [hc, quiet_go]
  show (nodeset_List s).all _ = true ↔ _
  rw [List.all_eq_true]
  constructor
  · intro h k hk hb
    have := h (k : Int) ((list_mem hs _).2 ⟨k, hk, hb, rfl⟩)
    simp only [Bool.and_eq_true, decide_eq_true_eq, beq_iff_eq, Int.toNat_natCast] at this
    exact ⟨by omega, this.2⟩
  · intro h x hx
    obtain ⟨k, hk, hb, rfl⟩ := (list_mem hs _).1 hx
    obtain ⟨h1, h2⟩ := h k hk hb
    simp only [Bool.and_eq_true, decide_eq_true_eq, beq_iff_eq, Int.toNat_natCast]
    exact ⟨by omega, h2⟩
theorem getM_set {α β : Type} [BEq α] [LawfulBEq α] (k k' : α) (v : β) : ∀ l : List (α × β), getM k (setM k' v l) = bif k == k' then some v else getM k l
  | [] => rfl
  | p :: r => by
    rw [setM]
    cases hp : k' == p.1 with
    | true =>
      have e := eq_of_beq hp
      simp only [cond_true, getM]
      rw [← e]
      cases k == k' <;> rfl
    | false =>
      simp only [cond_false, getM]
      rw [getM_set k k' v r]
      cases hk : k == k' with
      | true =>
        have e := eq_of_beq hk
        subst e
        rw [hp]
        rfl
      | false => rfl
theorem getM_run_none (id : Int) : ∀ (l : List Job) (i : Nat) (c : List (Int × Job)), (∀ x ∈ l, x.state = 2 → x.id ≠ id) → getM id (state_Check_g3 l i c) = getM id c
  | [], i, c, _ => rfl
  | x :: r, i, c, h => by
    rw [state_Check_g3]
    have ih := fun c => getM_run_none id r (i + 1) c fun y hy => h y (List.mem_cons_of_mem _ hy)
    cases hs : (x.state == 2) with
    | false => exact ih c
    | true =>
      have hne := h x (List.mem_cons_self ..) (by simpa using hs)
      show getM id (state_Check_g3 r (i + 1) (setM x.id x c)) = _
      have hb : (id == x.id) = false := by simpa using Ne.symm hne
      rw [ih, getM_set, hb]
      rfl
theorem getM_run_some (x : Job) (hs : x.state = 2) : ∀ (l : List Job) (i : Nat) (c : List (Int × Job)), x ∈ l → l.Pairwise (fun a b => a.id < b.id) → getM x.id (state_Check_g3 l i c) = some x
  | [], i, c, h, _ => nomatch h
  | y :: r, i, c, h, hp => by
    obtain ⟨h1, h2⟩ := List.pairwise_cons.1 hp
    rw [state_Check_g3]
    rcases List.mem_cons.1 h with rfl | h
    · rw [beq_iff_eq.2 hs]
      show getM x.id (state_Check_g3 r (i + 1) (setM x.id x c)) = _
      rw [getM_run_none x.id r (i + 1) _ (fun z hz _ => by have := h1 z hz; omega), getM_set, beq_self_eq_true]
      rfl
    · cases (y.state == 2) with
      | true => exact getM_run_some x hs r (i + 1) _ h h2
      | false => exact getM_run_some x hs r (i + 1) _ h h2
theorem at_go (id : Int) : ∀ (l : List Job) (i : Nat), (∀ x ∈ l, x.id ≠ id) → ref15_At_g1 id l i = -1
  | [], i, _ => rfl
  | x :: r, i, h => by
    rw [ref15_At_g1]
    have : (x.id == id) = false := by simpa using h x (List.mem_cons_self ..)
    rw [this]
    exact at_go id r (i + 1) fun y hy => h y (List.mem_cons_of_mem _ hy)
theorem at_some (x : Job) : ∀ (l : List Job) (p i : Nat), l[p]? = some x → l.Pairwise (fun a b => a.id < b.id) → ref15_At_g1 x.id l i = ((i + p : Nat) : Int)
  | [], p, i, h, _ => by simp at h
  | y :: r, p, i, h, hp => by
    obtain ⟨h1, h2⟩ := List.pairwise_cons.1 hp
    rw [ref15_At_g1]
    rcases p with _ | p
    · simp at h
      subst h
      simp
    · have hx : r[p]? = some x := by simpa using h
      have := h1 x (List.mem_of_getElem? hx)
      have hne : (y.id == x.id) = false := by simp; omega
      rw [hne]
      show ref15_At_g1 x.id r (i + 1) = _
      rw [at_some x r p (i + 1) hx h2]
      congr 1
      omega
theorem run_some {s : State} (hp : s.jobs.Pairwise (fun a b => a.id < b.id)) {x : Job} (hx : x ∈ s.jobs) : ref25_Run s x.id = if x.state = 2 then (x, true) else (Job.zero, false) := by
  obtain ⟨p, hpx⟩ := List.getElem?_of_mem hx
  unfold ref25_Run ref15_At
  rw [at_some x s.jobs p 0 hpx hp, Nat.zero_add]
  have hg : s.jobs.getD p Job.zero = x := by simp [List.getD, hpx]
  rw [Int.toNat_natCast, hg, decide_eq_false (show ¬ (p : Int) < 0 by omega)]
  by_cases h : x.state = 2
  · simp [h]
  · have : (x.state != 2) = true := by simpa using h
    rw [this, if_neg h]
    rfl
theorem run_none {s : State} (id : Int) (h : ∀ x ∈ s.jobs, x.id ≠ id) : ref25_Run s id = (Job.zero, false) := by
  unfold ref25_Run ref15_At
  rw [at_go id s.jobs 0 h]
  rfl
theorem run_get {s : State} (hp : s.jobs.Pairwise (fun a b => a.id < b.id)) (id : Int) : (getM id (state_Check_g3 s.jobs 0 [])).isSome = (ref25_Run s id).2 ∧ (getM id (state_Check_g3 s.jobs 0 [])).getD Job.zero = (ref25_Run s id).1 := by
  by_cases h : ∃ x ∈ s.jobs, x.id = id
  · obtain ⟨x, hx, rfl⟩ := h
    rw [run_some hp hx]
    by_cases hs : x.state = 2
    · rw [getM_run_some x hs s.jobs 0 [] hx hp, if_pos hs]
      exact ⟨rfl, rfl⟩
    · rw [getM_run_none x.id s.jobs 0 [], if_neg hs]
      · exact ⟨rfl, rfl⟩
      · intro y hy hys e
        obtain ⟨p, hpx⟩ := List.getElem?_of_mem hx
        obtain ⟨q, hqy⟩ := List.getElem?_of_mem hy
        rcases Nat.lt_trichotomy p q with h | h | h
        · have := pairwise_get hp p q x y h hpx hqy; omega
        · subst h; rw [hpx] at hqy; cases hqy; exact hs hys
        · have := pairwise_get hp q p y x h hqy hpx; omega
  · have h' : ∀ x ∈ s.jobs, x.id ≠ id := fun x hx e => h ⟨x, hx, e⟩
    rw [run_none id h', getM_run_none id s.jobs 0 [] (fun x hx _ => h' x hx)]
    exact ⟨rfl, rfl⟩
end Go.Proofs.YtoionleakeemlaaGreatDoor
namespace Go.Proofs.YtoionleakeemlaaGreatDoor
set_option linter.unusedSimpArgs false
set_option linter.unusedVariables false
open Go.Fw
theorem has_tb {s : Int} (hs : U64 s) {k : Nat} (hk : k < 64) : ref25_Has s (k : Int) = tb s k := by
  unfold ref25_Has
  rw [has_eq hs, nodeset_Has_eq hs, decide_eq_true hk, Bool.true_and]
theorem fine_one (x : Node) (hf : ref12_fine x = true) : (x.want = 2 → x.state = 2) ∧ (x.want = 4 → x.state = 1) := by
  obtain ⟨st, jb, ep, dr, wa, si, as_⟩ := x
  unfold ref12_fine at hf
  dsimp only at hf ⊢
  cases h1 : ((((((decide (ep < 0)) || (decide (ep > 999999999))) || (decide (si < 0))) || (decide (si > 1000000))) || (decide (as_ < 0))) || (decide (as_ > 1000000))) with
  | true => rw [h1] at hf; cases hf
  | false =>
    rw [h1] at hf
    simp only [cond_false] at hf
    by_cases h0 : st = 0
    · subst h0; simp at hf; omega
    by_cases h4 : st = 4
    · subst h4; simp at hf; omega
    have e : ((st == 0) || (st == 4)) = false := by simp [h0, h4]
    rw [e] at hf
    simp only [cond_false] at hf
    cases h2 : ((decide (jb < 1)) || (decide (jb > 99999))) with
    | true => rw [h2] at hf; cases hf
    | false =>
      rw [h2] at hf
      simp only [cond_false] at hf
      by_cases q1 : st = 1
      · subst q1; simp at hf; omega
      by_cases q2 : st = 2
      · subst q2; simp at hf; omega
      by_cases q3 : st = 3
      · subst q3; simp at hf; omega
      simp [q1, q2, q3] at hf
theorem fine_want {l : List Node} (h : fleet_Check l = 0) : l.length ≤ 48 ∧ ∀ x ∈ l, (x.want = 2 → x.state = 2) ∧ (x.want = 4 → x.state = 1) := by
  unfold fleet_Check at h
  cases h1 : (((decide ((l.length : Int) < 1)) || (decide ((l.length : Int) > 48))) || (slices_ContainsFunc_Node l (fun (y : Node) => (!(fleet_fine y))))) with
  | true => rw [h1] at h; cases h
  | false =>
    obtain ⟨h2, h3⟩ := or_f h1
    have hl := of_decide_eq_false (or_f h2).2
    rw [any_Node] at h3
    refine ⟨by omega, fun x hx => ?_⟩
    have hf : ref12_fine x = true := by
      have := List.any_eq_false.1 h3 x hx
      rw [fine_eq] at this
      simpa using this
    exact fine_one x hf
theorem job_shape {j : Job} (h : job_Check j = 0) : shape_Check j.shape = 0 := by
  unfold job_Check at h
  cases h1 : ((((((decide (j.id < 1)) || (decide (j.id > 99999))) || (!(job_tick j.born))) || (j.used != (sat_Usage j.used))) || ((cmd_Check (job_view_submission j)) != 0)) || (slices_ContainsFunc_Dep j.after (fun (y : Dep) => (decide (y.job ≥ j.id))))) with
  | true => rw [h1] at h; cases h
  | false =>
    have hc := (or_f (or_f h1).1).2
    have hc : cmd_Check (job_view_submission j) = 0 := by simpa using hc
    unfold cmd_Check at hc
    cases h2 : ((((decide (((job_view_submission j).shape.alts.length : Int) > 6)) || (decide (((job_view_submission j).after.length : Int) > 4))) || (!(cmd_fits (job_view_submission j)))) || (!(cmd_Same (job_view_submission j) (cmd_bare (job_view_submission j))))) with
    | true => rw [h2] at hc; cases hc
    | false =>
      have hf := (or_f (or_f h2).1).2
      have hf : cmd_fits (job_view_submission j) = true := by simpa using hf
      unfold cmd_fits job_view_submission at hf
      simp at hf
      grind
def badB (s : State) (r : Resize) (k : Nat) : Bool := (tb r.said k && !tb r.nodes k) || (tb r.nodes k && (((decide ((k : Int) ≥ (s.nodes.length : Int))) || ((s.nodes.getD k Node.zero).job != r.job)) || ((s.nodes.getD k Node.zero).state == 3)))
def finB (s : State) (r : Resize) : Bool := (Sum.elim id (fun p1 : Int × Nat => bif r.grow then
        (decide ((w64 (((ref09_List ((ref25_Run s r.job).1.nodes)).length : Int) + ((ref09_List r.nodes).length : Int))) ≤ (ref25_Run s r.job).1.shape.max))
      else
        ((decide (p1.1 > 0)) && (decide ((w64 (((ref09_List ((ref25_Run s r.job).1.nodes)).length : Int) - ((ref09_List r.nodes).length : Int))) ≥ (ref25_Run s r.job).1.shape.min))))) (ref25_resize_g2 r s.nodes 0 0)
theorem g1_iff (s : State) (r : Resize) (hn : U64 r.nodes) (hs : U64 r.said) : ∀ (m n : Nat), n ≤ 64 → 64 - n < m → (ref25_resize_g1 s r m n = true ↔ (∀ k, n ≤ k → k < 64 → badB s r k = false) ∧ finB s r = true)
  | 0, _, _, h => absurd h (by omega)
  | m + 1, n, hn64, hm => by
    rw [ref25_resize_g1]
    rcases Nat.lt_or_ge n 64 with h | h
    · rw [decide_eq_true (show (n : Int) < 64 by omega), has_tb hn h, has_tb hs h]
      have ih := g1_iff s r hn hs m (n + 1) (by omega) (by omega)
      show (bif (badB s r n) then false else ref25_resize_g1 s r m (n + 1)) = true ↔ _
      cases hb : badB s r n with
      | true =>
        refine ⟨fun h => (by cases h), fun h' => ?_⟩
        have := h'.1 n (Nat.le_refl _) h
        rw [hb] at this
        cases this
      | false =>
        simp only [cond_false]
        rw [ih]
        refine ⟨fun h' => ⟨fun k hk hk2 => ?_, h'.2⟩, fun h' => ⟨fun k hk hk2 => h'.1 k (by omega) hk2, h'.2⟩⟩
        rcases Nat.eq_or_lt_of_le hk with h1 | h1
        · rw [← h1]; exact hb
        · exact h'.1 k h1 hk2
    · rw [decide_eq_false (show ¬ (n : Int) < 64 by omega)]
      show finB s r = true ↔ _
      exact ⟨fun h' => ⟨fun k hk hk2 => absurd hk2 (by omega), h'⟩, fun h' => h'.2⟩
theorem g2_spec (r : Resize) (hn : U64 r.nodes) : ∀ (l : List Node) (left : Int) (n : Nat), n + l.length ≤ 64 → 0 ≤ left → left ≤ n →
    (∀ v, ref25_resize_g2 r l left n = Sum.inl v → v = false) ∧
    ((∃ p, ref25_resize_g2 r l left n = Sum.inr p) ↔ ∀ (k : Nat) (x : Node), l[k]? = some x → x.job = r.job → x.state ≠ 3 → ref25_moved x ((n + k : Nat) : Int) r = true) ∧
    (∀ p, ref25_resize_g2 r l left n = Sum.inr p → left ≤ p.1 ∧ (left < p.1 ↔ ∃ (k : Nat) (x : Node), l[k]? = some x ∧ x.job = r.job ∧ x.state = 1 ∧ tb r.nodes (n + k) = false))
  | [], left, n, _, _, _ => by
    rw [ref25_resize_g2]
    refine ⟨fun v h => (by cases h), ⟨fun _ k x h => by simp at h, fun _ => ⟨_, rfl⟩⟩, fun p h => ?_⟩
    cases h
    refine ⟨Int.le_refl _, ⟨fun h => absurd h (Int.lt_irrefl _), fun ⟨k, x, h, _⟩ => by simp at h⟩⟩
  | x :: l, left, n, hlen, h0, hle => by
    simp only [List.length_cons] at hlen
    rw [ref25_resize_g2]
    have sh : ∀ (k : Nat), ((n + (k + 1) : Nat) : Int) = ((n + 1 + k : Nat) : Int) := fun k => by congr 1; omega
    have sh' : ∀ (k : Nat), n + (k + 1) = n + 1 + k := fun k => by omega
    cases hc : ((x.job != r.job) || (x.state == 3)) with
    | true =>
      simp only [cond_true]
      have hskip : ¬ (x.job = r.job ∧ x.state ≠ 3) := by
        rintro ⟨h1, h2⟩
        rw [h1] at hc
        simp at hc
        exact h2 hc
      obtain ⟨a, b, c⟩ := g2_spec r hn l left (n + 1) (by omega) h0 (by omega)
      refine ⟨a, b.trans ⟨fun h k y hk h1 h2 => ?_, fun h k y hk h1 h2 => ?_⟩, fun p hp => ⟨(c p hp).1, (c p hp).2.trans ⟨?_, ?_⟩⟩⟩
      · rcases k with _ | k
        · simp at hk; subst hk; exact absurd ⟨h1, h2⟩ hskip
        · rw [sh]; exact h k y (by simpa using hk) h1 h2
      · rw [← sh]; exact h (k + 1) y (by simpa using hk) h1 h2
      · rintro ⟨k, y, hk, h1, h2, h3⟩
        exact ⟨k + 1, y, by simpa using hk, h1, h2, by rw [sh']; exact h3⟩
      · rintro ⟨k, y, hk, h1, h2, h3⟩
        rcases k with _ | k
        · simp at hk; subst hk; exact absurd ⟨h1, by omega⟩ hskip
        · exact ⟨k, y, by simpa using hk, h1, h2, by rw [← sh']; exact h3⟩
    | false =>
      have hj : x.job = r.job ∧ x.state ≠ 3 := by
        obtain ⟨h1, h2⟩ := or_f hc
        exact ⟨by simpa using h1, by simpa using h2⟩
      simp only [cond_false]
      cases hm : ref25_moved x (n : Int) r with
      | false =>
        refine ⟨fun v h => (by cases h; rfl), ⟨fun ⟨p, h⟩ => (by cases h), fun h => ?_⟩, fun p h => (by cases h)⟩
        have := h 0 x rfl hj.1 hj.2
        rw [Nat.add_zero, hm] at this
        cases this
      | true =>
        rw [has_tb hn (show n < 64 by omega)]
        have hw : w64 (left + 1) = left + 1 := wr (by omega)
        simp only [Bool.not_true, cond_false]
        have mv' : (∀ (k : Nat) (y : Node), l[k]? = some y → y.job = r.job → y.state ≠ 3 → ref25_moved y ((n + 1 + k : Nat) : Int) r = true) ↔ ∀ (k : Nat) (y : Node), (x :: l)[k]? = some y → y.job = r.job → y.state ≠ 3 → ref25_moved y ((n + k : Nat) : Int) r = true := by
          constructor
          · intro h k y hk h1 h2
            rcases k with _ | k
            · simp at hk; subst hk; rw [Nat.add_zero]; exact hm
            · rw [sh]; exact h k y (by simpa using hk) h1 h2
          · intro h k y hk h1 h2
            rw [← sh]; exact h (k + 1) y (by simpa using hk) h1 h2
        cases hl : ((x.state == 1) && (!(tb r.nodes n))) with
        | true =>
          simp only [cond_true]
          rw [hw]
          obtain ⟨a, b, c⟩ := g2_spec r hn l (left + 1) (n + 1) (by omega) (by omega) (by omega)
          refine ⟨a, b.trans mv', fun p hp => ?_⟩
          obtain ⟨c1, _⟩ := c p hp
          refine ⟨by omega, ⟨fun _ => ⟨0, x, rfl, hj.1, ?_, ?_⟩, fun _ => by omega⟩⟩
          · simp only [Bool.and_eq_true, beq_iff_eq] at hl
            exact hl.1
          · simp only [Bool.and_eq_true, Bool.not_eq_true'] at hl
            exact hl.2
        | false =>
          simp only [cond_false]
          obtain ⟨a, b, c⟩ := g2_spec r hn l left (n + 1) (by omega) h0 (by omega)
          refine ⟨a, b.trans mv', fun p hp => ⟨(c p hp).1, (c p hp).2.trans ⟨?_, ?_⟩⟩⟩
          · rintro ⟨k, y, hk, h1, h2, h3⟩
            exact ⟨k + 1, y, by simpa using hk, h1, h2, by rw [sh']; exact h3⟩
          · rintro ⟨k, y, hk, h1, h2, h3⟩
            rcases k with _ | k
            · simp at hk
              subst hk
              rw [Nat.add_zero] at h3
              rw [h2, h3] at hl
              cases hl
            · exact ⟨k, y, by simpa using hk, h1, h2, by rw [← sh']; exact h3⟩
end Go.Proofs.YtoionleakeemlaaGreatDoor
namespace Go.Proofs.YtoionleakeemlaaGreatDoor
set_option linter.unusedSimpArgs false
set_option linter.unusedVariables false
open Go.Fw
section
variable (s : State) (r : Resize) (j : Job)
def AskP (c : Int) : Prop := ∀ k, k < 64 → ((k < s.nodes.length ∧ (s.nodes.getD k Node.zero).job = r.job ∧ (s.nodes.getD k Node.zero).want = c) ↔ (tb r.nodes k = true ∧ tb r.said k = false))
def QuiP : Prop := ∀ k, k < 64 → tb r.said k = true → k < s.nodes.length ∧ (s.nodes.getD k Node.zero).want = 0
def SubP : Prop := ∀ k, k < 64 → tb r.said k = true → tb r.nodes k = true
def SameP : Prop := ∀ k, k < 64 → (tb r.nodes k = true ↔ (k < s.nodes.length ∧ (s.nodes.getD k Node.zero).job = r.job ∧ (s.nodes.getD k Node.zero).state = 2))
def InP : Prop := ∀ k, k < 64 → tb r.nodes k = true → tb j.nodes k = true
def BaseP : Prop := j.shape.kind = 3 ∧ r.nodes ≠ 0 ∧ 0 ≤ r.since ∧ r.since ≤ 1000000
def GrowP : Prop := w64 ((nodeset_Count j.nodes) + (nodeset_Count r.nodes)) ≤ j.shape.max
def ShrP : Prop := w64 ((nodeset_Count j.nodes) - (nodeset_Count r.nodes)) ≥ j.shape.min
theorem andnot_zero {x y : Int} (hx : U64 x) (hy : U64 y) : ((wu64 (BitVec.ofInt 64 x &&& ~~~(BitVec.ofInt 64 y)).toNat) == 0) = true ↔ ∀ k, k < 64 → tb x k = true → tb y k = true := by
  rw [eq_zero_iff (wu64_U _)]
  refine ⟨fun h k hk hb => ?_, fun h k hk => ?_⟩
  · have := h k hk
    rw [tb_andnot hx hy, hb] at this
    simpa using this
  · rw [tb_andnot hx hy]
    cases hb : tb x k with
    | false => rfl
    | true => rw [h k hk hb]; rfl
theorem ask_iff (hn : U64 r.nodes) (hs : U64 r.said) (hl : s.nodes.length ≤ 64) (c : Int) :
    (state_where s (fun (y : Int) (y1 : Node) => ((y1.job == r.job) && (y1.want == c))) = wu64 (BitVec.ofInt 64 r.nodes &&& ~~~(BitVec.ofInt 64 r.said)).toNat) ↔ AskP s r c := by
  obtain ⟨u, b⟩ := state_where_bits s (fun (y : Int) (y1 : Node) => ((y1.job == r.job) && (y1.want == c))) hl
  have key : ∀ k, (tb (state_where s (fun (y : Int) (y1 : Node) => ((y1.job == r.job) && (y1.want == c)))) k = tb (wu64 (BitVec.ofInt 64 r.nodes &&& ~~~(BitVec.ofInt 64 r.said)).toNat) k) ↔ ((k < s.nodes.length ∧ (s.nodes.getD k Node.zero).job = r.job ∧ (s.nodes.getD k Node.zero).want = c) ↔ (tb r.nodes k = true ∧ tb r.said k = false)) := by
    intro k
    rw [b, tb_andnot hn hs, Bool.eq_iff_iff]
    simp
  constructor
  · intro h k hk
    exact (key k).1 (by rw [h])
  · intro h
    exact tb_ext u (wu64_U _) fun k hk => (key k).2 (h k hk)
theorem same_iff (hn : U64 r.nodes) (hc : fleet_Check s.nodes = 0) (hl : s.nodes.length ≤ 64) : (r.nodes = fleet_Of s.nodes r.job 2) ↔ SameP s r := by
  obtain ⟨u, b⟩ := fleet_where_bits s.nodes (fun (y : Node) => ((y.job == r.job) && (y.state == 2))) hc hl
  have key : ∀ k, (tb r.nodes k = tb (fleet_Of s.nodes r.job 2) k) ↔ (tb r.nodes k = true ↔ (k < s.nodes.length ∧ (s.nodes.getD k Node.zero).job = r.job ∧ (s.nodes.getD k Node.zero).state = 2)) := by
    intro k
    unfold fleet_Of
    rw [b, Bool.eq_iff_iff]
    simp
  constructor
  · intro h k hk
    exact (key k).1 (by rw [← h])
  · intro h
    exact tb_ext hn u fun k hk => (key k).2 (h k hk)
theorem prog_iff (hn : U64 r.nodes) (hs : U64 r.said) (hj : U64 j.nodes) (hc : fleet_Check s.nodes = 0) (hl : s.nodes.length ≤ 64) :
    state_resize s r j = true ↔ BaseP r j ∧ SubP r ∧ QuiP s r ∧ (if r.grow = true then AskP s r 2 ∧ SameP s r ∧ GrowP r j else AskP s r 4 ∧ InP r j ∧ ShrP r j) := by
  have k1 : ∀ c, state_resize_k1 s r j c = true ↔ AskP s r c ∧ QuiP s r ∧ (if r.grow = true then SameP s r ∧ GrowP r j else InP r j ∧ ShrP r j) := by
    intro c
    unfold state_resize_k1
    cases hcnd : (((state_where s (fun (y : Int) (y1 : Node) => ((y1.job == r.job) && (y1.want == c)))) != (wu64 (BitVec.ofInt 64 r.nodes &&& ~~~(BitVec.ofInt 64 r.said)).toNat)) || (!(alloc_Quiet s.nodes r.said))) with
    | true =>
      refine ⟨fun h => (by cases h), fun ⟨h1, h2, _⟩ => ?_⟩
      have e1 := (ask_iff s r hn hs hl c).2 h1
      have e2 := (quiet_iff hs hc).2 h2
      rw [e1, e2] at hcnd
      simp at hcnd
    | false =>
      obtain ⟨h1, h2⟩ := or_f hcnd
      have e1 : AskP s r c := (ask_iff s r hn hs hl c).1 (by simpa using h1)
      have e2 : QuiP s r := (quiet_iff hs hc).1 (by simpa using h2)
      simp only [cond_false]
      cases hg : r.grow with
      | true =>
        simp only [cond_true, Bool.and_eq_true, beq_iff_eq, decide_eq_true_eq, if_true]
        rw [same_iff s r hn hc hl]
        exact ⟨fun h => ⟨e1, e2, h⟩, fun h => h.2.2⟩
      | false =>
        simp only [cond_false, Bool.and_eq_true, decide_eq_true_eq]
        rw [andnot_zero hn hj]
        exact ⟨fun h => ⟨e1, e2, h⟩, fun h => h.2.2⟩
  unfold state_resize
  cases hcnd : (((((j.shape.kind != 3) || (r.nodes == 0)) || ((wu64 (BitVec.ofInt 64 r.said &&& ~~~(BitVec.ofInt 64 r.nodes)).toNat) != 0)) || (decide (r.since < 0))) || (decide (r.since > 1000000))) with
  | true =>
    refine ⟨fun h => (by cases h), fun ⟨⟨h1, h2, h3, h4⟩, h5, _⟩ => ?_⟩
    have e1 := (andnot_zero hs hn).2 h5
    have e1' : ((wu64 (BitVec.ofInt 64 r.said &&& ~~~(BitVec.ofInt 64 r.nodes)).toNat) != 0) = false := by unfold bne; rw [e1]; rfl
    rw [h1, e1', decide_eq_false (by omega), decide_eq_false (by omega)] at hcnd
    simp at hcnd
    exact absurd hcnd h2
  | false =>
    obtain ⟨h1, h2⟩ := or_f hcnd
    obtain ⟨h3, h4⟩ := or_f h1
    obtain ⟨h5, h6⟩ := or_f h3
    obtain ⟨h7, h8⟩ := or_f h5
    have b : BaseP r j := ⟨by simpa using h7, by simpa using h8, by have := of_decide_eq_false h4; omega, by have := of_decide_eq_false h2; omega⟩
    have sb : SubP r := (andnot_zero hs hn).1 (by unfold bne at h6; simpa using h6)
    simp only [cond_false]
    cases hg : r.grow with
    | true =>
      simp only [cond_true]
      rw [k1, hg]
      simp only [if_true]
      exact ⟨fun ⟨a, q, c⟩ => ⟨b, sb, q, a, c⟩, fun ⟨_, _, q, a, c⟩ => ⟨a, q, c⟩⟩
    | false =>
      simp only [cond_false]
      rw [k1, hg]
      exact ⟨fun ⟨a, q, c⟩ => ⟨b, sb, q, a, c⟩, fun ⟨_, _, q, a, c⟩ => ⟨a, q, c⟩⟩
def OwnP : Prop := ∀ k, k < 64 → tb r.nodes k = true → k < s.nodes.length ∧ (s.nodes.getD k Node.zero).job = r.job ∧ (s.nodes.getD k Node.zero).state ≠ 3
def MovP : Prop := ∀ k, k < s.nodes.length → (s.nodes.getD k Node.zero).job = r.job → (s.nodes.getD k Node.zero).state ≠ 3 → ref25_moved (s.nodes.getD k Node.zero) (k : Int) r = true
def LeftP : Prop := ∃ k, k < s.nodes.length ∧ (s.nodes.getD k Node.zero).job = r.job ∧ (s.nodes.getD k Node.zero).state = 1 ∧ tb r.nodes k = false
theorem get_iff {α : Type} (d : α) (l : List α) (p : Nat → α → Prop) : (∀ (k : Nat) (x : α), l[k]? = some x → p k x) ↔ ∀ k, k < l.length → p k (l.getD k d) := by
  constructor
  · intro h k hk
    exact h k _ (by simp [List.getD, List.getElem?_eq_getElem hk])
  · intro h k x hx
    have hk := (List.getElem?_eq_some_iff.1 hx).1
    have := h k hk
    rw [List.getD, hx] at this
    exact this
theorem get_ex {α : Type} (d : α) (l : List α) (p : Nat → α → Prop) : (∃ (k : Nat) (x : α), l[k]? = some x ∧ p k x) ↔ ∃ k, k < l.length ∧ p k (l.getD k d) := by
  constructor
  · rintro ⟨k, x, hx, h⟩
    refine ⟨k, (List.getElem?_eq_some_iff.1 hx).1, ?_⟩
    rw [List.getD, hx]
    exact h
  · rintro ⟨k, hk, h⟩
    exact ⟨k, _, by simp [List.getD, List.getElem?_eq_getElem hk], h⟩
theorem ref_iff (hn : U64 r.nodes) (hs : U64 r.said) (hj : U64 j.nodes) (hl : s.nodes.length ≤ 64) (hrun : ref25_Run s r.job = (j, true)) :
    ref25_resize s r = true ↔ BaseP r j ∧ SubP r ∧ OwnP s r ∧ MovP s r ∧ (if r.grow = true then GrowP r j else LeftP s r ∧ ShrP r j) := by
  obtain ⟨g1, g2, g3⟩ := g2_spec r hn s.nodes 0 0 (by omega) (by omega) (by omega)
  have hmov : (∃ p, ref25_resize_g2 r s.nodes 0 0 = Sum.inr p) ↔ MovP s r := by
    rw [g2]
    have := get_iff Node.zero s.nodes (fun k x => x.job = r.job → x.state ≠ 3 → ref25_moved x ((0 + k : Nat) : Int) r = true)
    rw [this]
    unfold MovP
    simp only [Nat.zero_add]
  have hleft : ∀ p, ref25_resize_g2 r s.nodes 0 0 = Sum.inr p → (decide (p.1 > 0) = true ↔ LeftP s r) := by
    intro p hp
    have := (g3 p hp).2
    rw [decide_eq_true_eq, gt_iff_lt, this]
    have := get_ex Node.zero s.nodes (fun k x => x.job = r.job ∧ x.state = 1 ∧ tb r.nodes (0 + k) = false)
    rw [this]
    unfold LeftP
    simp only [Nat.zero_add]
  have hfin : finB s r = true ↔ MovP s r ∧ (if r.grow = true then GrowP r j else LeftP s r ∧ ShrP r j) := by
    unfold finB
    rw [hrun]
    simp only
    rw [← count_list hj, ← count_list hn]
    cases hg : ref25_resize_g2 r s.nodes 0 0 with
    | inl v =>
      have hv := g1 v hg
      subst hv
      refine ⟨fun h => (by cases h), fun h => ?_⟩
      obtain ⟨p, hp⟩ := hmov.2 h.1
      rw [hg] at hp
      cases hp
    | inr p =>
      have hm := hmov.1 ⟨p, hg⟩
      have hlp := hleft p hg
      simp only [Sum.elim_inr]
      cases r.grow with
      | true =>
        simp only [cond_true, decide_eq_true_eq, if_true]
        exact ⟨fun h => ⟨hm, h⟩, fun h => h.2⟩
      | false =>
        simp only [cond_false, Bool.and_eq_true]
        rw [hlp, decide_eq_true_eq]
        exact ⟨fun h => ⟨hm, h⟩, fun h => h.2⟩
  have hbad : (∀ k, 0 ≤ k → k < 64 → badB s r k = false) ↔ SubP r ∧ OwnP s r := by
    constructor
    · intro h
      refine ⟨fun k hk hb => ?_, fun k hk hb => ?_⟩
      · have := (or_f (h k (Nat.zero_le _) hk)).1
        rw [hb] at this
        simpa using this
      · have := (or_f (h k (Nat.zero_le _) hk)).2
        rw [hb] at this
        simp only [Bool.true_and] at this
        obtain ⟨h1, h2⟩ := or_f this
        obtain ⟨h3, h4⟩ := or_f h1
        have h3 := of_decide_eq_false h3
        exact ⟨by omega, by simpa using h4, by simpa using h2⟩
    · rintro ⟨h1, h2⟩ k _ hk
      unfold badB
      cases hb : tb r.nodes k with
      | true =>
        obtain ⟨q1, q2, q3⟩ := h2 k hk hb
        have q3' : ((s.nodes.getD k Node.zero).state == 3) = false := beq_eq_false_iff_ne.2 q3
        rw [q2, decide_eq_false (by omega), q3']
        simp
      | false =>
        cases ha : tb r.said k with
        | true => rw [h1 k hk ha] at hb; cases hb
        | false => rfl
  have hg1 := g1_iff s r hn hs ((Int.toNat (64 - (0 : Int))) + 1) 0 (by omega) (by omega)
  unfold ref25_resize
  rw [hrun]
  simp only
  cases hcnd : (((((!true) || (j.shape.kind != 3)) || (r.nodes == 0)) || (decide (r.since < 0))) || (decide (r.since > 1000000))) with
  | true =>
    refine ⟨fun h => (by cases h), fun ⟨⟨h1, h2, h3, h4⟩, _⟩ => ?_⟩
    rw [h1, decide_eq_false (by omega), decide_eq_false (by omega)] at hcnd
    simp at hcnd
    exact absurd hcnd h2
  | false =>
    obtain ⟨h1, h2⟩ := or_f hcnd
    obtain ⟨h3, h4⟩ := or_f h1
    obtain ⟨h5, h6⟩ := or_f h3
    have b : BaseP r j := ⟨by simpa using h5, by simpa using h6, by have := of_decide_eq_false h4; omega, by have := of_decide_eq_false h2; omega⟩
    simp only [cond_false]
    rw [hg1, hbad, hfin]
    exact ⟨fun ⟨⟨a, c⟩, d, e⟩ => ⟨b, a, c, d, e⟩, fun ⟨_, a, c, d, e⟩ => ⟨⟨a, c⟩, d, e⟩⟩
theorem moved_grow (hn : U64 r.nodes) (hs : U64 r.said) (hg : r.grow = true) {k : Nat} (hk : k < 64) (x : Node) : ref25_moved x (k : Int) r = true ↔ (tb r.nodes k = true ↔ x.state = 2) ∧ (tb r.nodes k = true → (tb r.said k = true ∧ x.want = 0) ∨ (tb r.said k = false ∧ x.want = 2)) := by
  unfold ref25_moved
  rw [hg, has_tb hn hk, has_tb hs hk]
  simp only [cond_true]
  cases tb r.nodes k <;> cases tb r.said k <;> by_cases h : x.state = 2 <;> simp [h]
theorem moved_shr (hn : U64 r.nodes) (hs : U64 r.said) (hg : r.grow = false) {k : Nat} (hk : k < 64) (x : Node) : ref25_moved x (k : Int) r = true ↔ (tb r.nodes k = true → x.state = 1) ∧ (tb r.nodes k = false → x.want ≠ 4) ∧ (tb r.nodes k = true → (tb r.said k = true ∧ x.want = 0) ∨ (tb r.said k = false ∧ x.want = 4)) := by
  unfold ref25_moved
  rw [hg, has_tb hn hk, has_tb hs hk]
  simp only [cond_false]
  cases tb r.nodes k <;> cases tb r.said k <;> by_cases h : x.state = 1 <;> by_cases h4 : x.want = 4 <;> simp [h, h4]
theorem resize_eq (hn : U64 r.nodes) (hs : U64 r.said) (hj : U64 j.nodes) (hc : fleet_Check s.nodes = 0) (hrun : ref25_Run s r.job = (j, true)) (hjc : job_Check j = 0)
    (hb : ∀ k, tb j.nodes k = true ↔ (k < s.nodes.length ∧ (s.nodes.getD k Node.zero).job = r.job ∧ (s.nodes.getD k Node.zero).state = 1)) : state_resize s r j = ref25_resize s r := by
  obtain ⟨hl48, hfw⟩ := fine_want hc
  have hl : s.nodes.length ≤ 64 := by omega
  have hw : ∀ k, k < s.nodes.length → ((s.nodes.getD k Node.zero).want = 2 → (s.nodes.getD k Node.zero).state = 2) ∧ ((s.nodes.getD k Node.zero).want = 4 → (s.nodes.getD k Node.zero).state = 1) := by
    intro k hk
    have hm : s.nodes.getD k Node.zero ∈ s.nodes := by
      rw [List.getD, List.getElem?_eq_getElem hk]
      exact List.getElem_mem _
    exact hfw _ hm
  rw [Bool.eq_iff_iff, prog_iff s r j hn hs hj hc hl, ref_iff s r j hn hs hj hl hrun]
  cases hg : r.grow with
  | true =>
    simp only [if_true]
    constructor
    · rintro ⟨hB, hS, hQ, hA, hSm, hG⟩
      refine ⟨hB, hS, fun k hk hkn => ?_, fun k hk h1 h2 => ?_, hG⟩
      · obtain ⟨a, b, c⟩ := (hSm k hk).1 hkn
        exact ⟨a, b, by omega⟩
      · have hk64 : k < 64 := by omega
        rw [moved_grow r hn hs hg hk64]
        refine ⟨⟨fun h => ((hSm k hk64).1 h).2.2, fun h => (hSm k hk64).2 ⟨hk, h1, h⟩⟩, fun h => ?_⟩
        cases ha : tb r.said k with
        | true => exact .inl ⟨rfl, (hQ k hk64 ha).2⟩
        | false => exact .inr ⟨rfl, ((hA k hk64).2 ⟨h, ha⟩).2.2⟩
    · rintro ⟨hB, hS, hO, hM, hG⟩
      have mv : ∀ k, k < 64 → tb r.nodes k = true → k < s.nodes.length ∧ (s.nodes.getD k Node.zero).job = r.job ∧ (s.nodes.getD k Node.zero).state = 2 ∧ ((tb r.said k = true ∧ (s.nodes.getD k Node.zero).want = 0) ∨ (tb r.said k = false ∧ (s.nodes.getD k Node.zero).want = 2)) := by
        intro k hk h
        obtain ⟨a, b, c⟩ := hO k hk h
        obtain ⟨d, e⟩ := (moved_grow r hn hs hg hk _).1 (hM k a b c)
        exact ⟨a, b, d.1 h, e h⟩
      have back : ∀ k, k < s.nodes.length → (s.nodes.getD k Node.zero).job = r.job → (s.nodes.getD k Node.zero).state = 2 → tb r.nodes k = true := by
        intro k hk h1 h2
        exact ((moved_grow r hn hs hg (by omega) _).1 (hM k hk h1 (by omega))).1.2 h2
      refine ⟨hB, hS, fun k hk ha => ?_, fun k hk => ⟨fun ⟨a, b, c⟩ => ?_, fun ⟨a, b⟩ => ?_⟩, fun k hk => ⟨fun h => ?_, fun ⟨a, b, c⟩ => back k a b c⟩, hG⟩
      · obtain ⟨a, b, c, d⟩ := mv k hk (hS k hk ha)
        rcases d with d | d
        · exact ⟨a, d.2⟩
        · rw [ha] at d; cases d.1
      · have hin := back k a b ((hw k a).1 c)
        refine ⟨hin, ?_⟩
        obtain ⟨_, _, _, d⟩ := mv k hk hin
        rcases d with d | d
        · omega
        · exact d.1
      · obtain ⟨p, q, _, d⟩ := mv k hk a
        rcases d with d | d
        · rw [b] at d; cases d.1
        · exact ⟨p, q, d.2⟩
      · obtain ⟨a, b, c, _⟩ := mv k hk h
        exact ⟨a, b, c⟩
  | false =>
    have ef : (if false = true then GrowP r j else LeftP s r ∧ ShrP r j) = (LeftP s r ∧ ShrP r j) := by simp
    have ef' : (if false = true then AskP s r 2 ∧ SameP s r ∧ GrowP r j else AskP s r 4 ∧ InP r j ∧ ShrP r j) = (AskP s r 4 ∧ InP r j ∧ ShrP r j) := by simp
    rw [ef, ef']
    constructor
    · rintro ⟨hB, hS, hQ, hA, hI, hSh⟩
      have inb : ∀ k, k < 64 → tb r.nodes k = true → k < s.nodes.length ∧ (s.nodes.getD k Node.zero).job = r.job ∧ (s.nodes.getD k Node.zero).state = 1 := fun k hk h => (hb k).1 (hI k hk h)
      refine ⟨hB, hS, fun k hk hkn => ?_, fun k hk h1 h2 => ?_, ?_, hSh⟩
      · obtain ⟨a, b, c⟩ := inb k hk hkn
        exact ⟨a, b, by omega⟩
      · have hk64 : k < 64 := by omega
        rw [moved_shr r hn hs hg hk64]
        refine ⟨fun h => (inb k hk64 h).2.2, fun h h4 => ?_, fun h => ?_⟩
        · have := ((hA k hk64).1 ⟨hk, h1, h4⟩).1
          rw [h] at this
          cases this
        · cases ha : tb r.said k with
          | true => exact .inl ⟨rfl, (hQ k hk64 ha).2⟩
          | false => exact .inr ⟨rfl, ((hA k hk64).2 ⟨h, ha⟩).2.2⟩
      · apply Classical.byContradiction
        intro hno
        have heq : j.nodes = r.nodes := tb_ext hj hn fun k hk => by
          rw [Bool.eq_iff_iff]
          refine ⟨fun h => ?_, fun h => hI k hk h⟩
          obtain ⟨a, b, c⟩ := (hb k).1 h
          cases hx : tb r.nodes k with
          | true => rfl
          | false => exact absurd ⟨k, a, b, c, hx⟩ hno
        unfold ShrP at hSh
        rw [heq, Int.sub_self] at hSh
        have hz : w64 0 = 0 := wr (by omega)
        rw [hz] at hSh
        have hmin := shape_Check_mal (s := j.shape) (by rw [job_shape hjc]; rfl) (by rw [hB.1]; rfl)
        omega
    · rintro ⟨hB, hS, hO, hM, _, hSh⟩
      have mv : ∀ k, k < 64 → tb r.nodes k = true → k < s.nodes.length ∧ (s.nodes.getD k Node.zero).job = r.job ∧ (s.nodes.getD k Node.zero).state = 1 ∧ ((tb r.said k = true ∧ (s.nodes.getD k Node.zero).want = 0) ∨ (tb r.said k = false ∧ (s.nodes.getD k Node.zero).want = 4)) := by
        intro k hk h
        obtain ⟨a, b, c⟩ := hO k hk h
        obtain ⟨d, _, e⟩ := (moved_shr r hn hs hg hk _).1 (hM k a b c)
        exact ⟨a, b, d h, e h⟩
      refine ⟨hB, hS, fun k hk ha => ?_, fun k hk => ⟨fun ⟨a, b, c⟩ => ?_, fun ⟨a, b⟩ => ?_⟩, fun k hk h => ?_, hSh⟩
      · obtain ⟨a, b, c, d⟩ := mv k hk (hS k hk ha)
        rcases d with d | d
        · exact ⟨a, d.2⟩
        · rw [ha] at d; cases d.1
      · have hst := (hw k a).2 c
        obtain ⟨_, m2, _⟩ := (moved_shr r hn hs hg hk _).1 (hM k a b (by omega))
        have hin : tb r.nodes k = true := by
          cases hx : tb r.nodes k with
          | true => rfl
          | false => exact absurd c (m2 hx)
        refine ⟨hin, ?_⟩
        obtain ⟨_, _, _, d⟩ := mv k hk hin
        rcases d with d | d
        · omega
        · exact d.1
      · obtain ⟨p, q, _, d⟩ := mv k hk a
        rcases d with d | d
        · rw [b] at d; cases d.1
        · exact ⟨p, q, d.2⟩
      · obtain ⟨a, b, c, _⟩ := mv k hk h
        exact (hb k).2 ⟨a, b, c⟩
end
end Go.Proofs.YtoionleakeemlaaGreatDoor
namespace Go.Proofs.YtoionleakeemlaaGreatDoor
set_option linter.unusedSimpArgs false
set_option linter.unusedVariables false
open Go.Fw
theorem okloop (len : Nat) (c : Nat → Bool) (G : Nat → Bool → Nat → Bool × Nat) (g : ∀ m ok i, G (m + 1) ok i = bif ((decide ((i : Int) < (len : Int))) && ok) then G m (c i) (i + 1) else (ok, i)) :
    ∀ (m : Nat) (ok : Bool) (i : Nat), i ≤ len → len - i < m → ((G m ok i).1 = true ↔ ok = true ∧ ∀ k, i ≤ k → k < len → c k = true)
  | 0, _, _, _, h => absurd h (by omega)
  | m + 1, ok, i, hi, hm => by
    rw [g]
    rcases Nat.lt_or_ge i len with h | h
    · rw [decide_eq_true (show (i : Int) < (len : Int) by omega)]
      cases ok with
      | false => exact ⟨fun h => (by cases h), fun h => (by cases h.1)⟩
      | true =>
        simp only [Bool.and_true, cond_true, true_and]
        rw [okloop len c G g m (c i) (i + 1) (by omega) (by omega)]
        refine ⟨fun ⟨h1, h2⟩ k hk hk2 => ?_, fun h' => ⟨h' i (Nat.le_refl _) h, fun k hk hk2 => h' k (by omega) hk2⟩⟩
        rcases Nat.eq_or_lt_of_le hk with h3 | h3
        · rw [← h3]; exact h1
        · exact h2 k h3 hk2
    · rw [decide_eq_false (show ¬ (i : Int) < (len : Int) by omega)]
      exact ⟨fun h' => ⟨h', fun k hk hk2 => absurd hk2 (by omega)⟩, fun h' => h'.1⟩
theorem last_job : ∀ (l : List Job) (x : Int) (i : Nat), (ref25_Check_g1 l x i).1 = state_Check_g1 l x i
  | [], _, _ => rfl
  | y :: r, x, i => by rw [ref25_Check_g1, state_Check_g1]; exact last_job r _ _
theorem last_book : ∀ (l : List Book) (x : Int) (i : Nat), (ref25_Check_g2 l x i).1 = state_Check_g2 l x i
  | [], _, _ => rfl
  | y :: r, x, i => by rw [ref25_Check_g2, state_Check_g2]; exact last_book r _ _
theorem next_eq (n l : Int) : state_next n l = ref25_next n l := by
  unfold state_next ref25_next
  rw [Bool.eq_iff_iff]
  simp only [Bool.and_eq_true, decide_eq_true_eq]
  omega
def setAll (c : List (Int × Resize)) (l : List Resize) : List (Int × Resize) := l.foldl (fun c r => setM r.job r c) c
section
variable (s : State)
def rzP (c : List (Int × Job)) (k : Nat) : Bool := !(((!(getM (s.resizes.getD k Resize.zero).job c).isSome) || ((decide ((k : Int) > 0)) && (decide ((s.resizes.getD (Int.toNat (w64 ((k : Int) - 1))) Resize.zero).job ≥ (s.resizes.getD k Resize.zero).job)))) || (!(state_resize s (s.resizes.getD k Resize.zero) ((getM (s.resizes.getD k Resize.zero).job c).getD Job.zero))))
def heldB (c : List (Int × Job)) : Bool := c.all (fun (en : Int × Job) => (bif ((alloc_Held s.nodes en.1) != en.2.nodes) then false else true))
theorem g4_iff (a b : Int) (c : List (Int × Job)) : ∀ (l : List Resize) (i : Nat) (c2 : List (Int × Resize)), l = s.resizes.drop i → i + l.length = s.resizes.length →
    (state_Check_g4 s a b c l i c2 = 0 ↔ (∀ k, i ≤ k → k < s.resizes.length → rzP s c k = true) ∧ state_next s.nextJob a = true ∧ state_next s.nextBook b = true ∧ state_nodes s c (setAll c2 l) = true ∧ heldB s c = true) ∧
    (state_Check_g4 s a b c l i c2 = 0 ∨ state_Check_g4 s a b c l i c2 = 141)
  | [], i, c2, hl, hlen => by
    simp only [List.length_nil, Nat.add_zero] at hlen
    rw [state_Check_g4]
    show ((bif ((((!true) || (!(state_next s.nextJob a))) || (!(state_next s.nextBook b))) || (!(state_nodes s c c2))) then (141 : Int) else bif heldB s c then 0 else 141) = 0 ↔ _) ∧ ((bif ((((!true) || (!(state_next s.nextJob a))) || (!(state_next s.nextBook b))) || (!(state_nodes s c c2))) then (141 : Int) else bif heldB s c then 0 else 141) = 0 ∨ (bif ((((!true) || (!(state_next s.nextJob a))) || (!(state_next s.nextBook b))) || (!(state_nodes s c c2))) then (141 : Int) else bif heldB s c then 0 else 141) = 141)
    have hv : (∀ k, i ≤ k → k < s.resizes.length → rzP s c k = true) := fun k h1 h2 => absurd h2 (by omega)
    show _ ∧ _
    unfold setAll
    simp only [List.foldl_nil]
    cases state_next s.nextJob a <;> cases state_next s.nextBook b <;> cases state_nodes s c c2 <;> cases heldB s c <;> first | (simp; done) | (simp; exact hv)
  | x :: r, i, c2, hl, hlen => by
    simp only [List.length_cons] at hlen
    have hr' : r = s.resizes.drop (i + 1) := by rw [← List.drop_drop, ← hl]; rfl
    have hi : s.resizes[i]? = some x := by
      have := congrArg (fun q => q[0]?) hl
      simpa [List.getElem?_drop] using this.symm
    have hg : s.resizes.getD i Resize.zero = x := by rw [List.getD, hi]; rfl
    rw [state_Check_g4]
    have hz : (((!(getM x.job c).isSome) || ((decide ((i : Int) > 0)) && (decide ((s.resizes.getD (Int.toNat (w64 ((i : Int) - 1))) Resize.zero).job ≥ x.job)))) || (!(state_resize s x ((getM x.job c).getD Job.zero)))) = !(rzP s c i) := by
      unfold rzP
      rw [hg, Bool.not_not]
    rw [hz]
    obtain ⟨ih1, ih2⟩ := g4_iff a b c r (i + 1) (setM x.job x c2) hr' (by omega)
    cases hq : rzP s c i with
    | false =>
      refine ⟨⟨fun h => (by cases h), fun h => ?_⟩, .inr rfl⟩
      have := h.1 i (Nat.le_refl _) (by omega)
      rw [hq] at this
      cases this
    | true =>
      simp only [Bool.not_true, cond_false]
      refine ⟨ih1.trans ?_, ih2⟩
      show _ ∧ _ ∧ _ ∧ state_nodes s c (setAll c2 (x :: r)) = true ∧ _ ↔ _
      refine and_congr ⟨fun h k hk hk2 => ?_, fun h k hk hk2 => h k (by omega) hk2⟩ Iff.rfl
      rcases Nat.eq_or_lt_of_le hk with h3 | h3
      · rw [← h3]; exact hq
      · exact h k h3 hk2
theorem setM_only {α β : Type} [BEq α] (k : α) (v : β) : ∀ (l : List (α × β)) (e : α × β), e ∈ setM k v l → e = (k, v) ∨ e ∈ l
  | [], e, h => by simp [setM] at h; exact .inl h
  | p :: r, e, h => by
    rw [setM] at h
    cases hk : k == p.1 with
    | true =>
      rw [hk] at h
      rcases List.mem_cons.1 h with h | h
      · exact .inl h
      · exact .inr (List.mem_cons_of_mem _ h)
    | false =>
      rw [hk] at h
      rcases List.mem_cons.1 h with h | h
      · exact .inr (by rw [h]; exact List.mem_cons_self ..)
      · rcases setM_only k v r e h with h | h
        · exact .inl h
        · exact .inr (List.mem_cons_of_mem _ h)
theorem running_only : ∀ (l : List Job) (i : Nat) (c : List (Int × Job)) (e : Int × Job), e ∈ state_Check_g3 l i c → e ∈ c ∨ ∃ x ∈ l, x.state = 2 ∧ e = (x.id, x)
  | [], _, _, _, h => .inl h
  | x :: r, i, c, e, h => by
    rw [state_Check_g3] at h
    cases hs : (x.state == 2) with
    | true =>
      rw [hs] at h
      rcases running_only r (i + 1) _ e h with h | ⟨y, hy, q⟩
      · rcases setM_only _ _ _ _ h with h | h
        · exact .inr ⟨x, List.mem_cons_self .., by simpa using hs, h⟩
        · exact .inl h
      · exact .inr ⟨y, List.mem_cons_of_mem _ hy, q⟩
    | false =>
      rw [hs] at h
      rcases running_only r (i + 1) _ e h with h | ⟨y, hy, q⟩
      · exact .inl h
      · exact .inr ⟨y, List.mem_cons_of_mem _ hy, q⟩
theorem held_iff (hp : s.jobs.Pairwise (fun a b => a.id < b.id)) (hid : ∀ x ∈ s.jobs, 1 ≤ x.id) : heldB s (state_Check_g3 s.jobs 0 []) = true ↔ ∀ x ∈ s.jobs, x.state = 2 → ref12_Of s.nodes x.id 1 = x.nodes := by
  have hh : ∀ x ∈ s.jobs, alloc_Held s.nodes x.id = ref12_Of s.nodes x.id 1 := fun x hx => by
    unfold alloc_Held
    rw [decide_eq_false (by have := hid x hx; omega), ← of_eq]
    rfl
  unfold heldB
  rw [List.all_eq_true]
  constructor
  · intro h x hx hs
    have := h _ (running_mem x s.jobs 0 [] (.inr ⟨hx, hs, hp⟩))
    simp only [hh x hx] at this
    cases hq : (ref12_Of s.nodes x.id 1 != x.nodes) with
    | false => simpa using hq
    | true => rw [hq] at this; cases this
  · intro h e he
    rcases running_only s.jobs 0 [] e he with h' | ⟨x, hx, hs, rfl⟩
    · exact nomatch h'
    · have := h x hx hs
      simp only [hh x hx, this]
      simp
theorem getM_all_none (id : Int) : ∀ (l : List Resize) (c : List (Int × Resize)), (∀ x ∈ l, x.job ≠ id) → getM id (setAll c l) = getM id c
  | [], _, _ => rfl
  | x :: r, c, h => by
    show getM id (setAll (setM x.job x c) r) = _
    have hb : (id == x.job) = false := by simpa using Ne.symm (h x (List.mem_cons_self ..))
    rw [getM_all_none id r _ (fun y hy => h y (List.mem_cons_of_mem _ hy)), getM_set, hb]
    rfl
theorem all_of (id : Int) : ∀ (l : List Resize) (c : List (Int × Resize)) (i : Nat), l.Pairwise (fun a b => a.job < b.job) → getM id c = none → (getM id (setAll c l)).getD Resize.zero = ref25_of_g1 id l i
  | [], c, i, _, hc => by
    show (getM id c).getD Resize.zero = _
    rw [hc]
    rfl
  | x :: r, c, i, hp, hc => by
    obtain ⟨h1, h2⟩ := List.pairwise_cons.1 hp
    show (getM id (setAll (setM x.job x c) r)).getD Resize.zero = _
    rw [ref25_of_g1]
    cases hx : x.job == id with
    | true =>
      have e := eq_of_beq hx
      rw [getM_all_none id r _ (fun y hy => by have := h1 y hy; omega), getM_set, ← e, beq_self_eq_true]
      rfl
    | false =>
      have hb : (id == x.job) = false := by
        have : x.job ≠ id := by simpa using hx
        simpa using Ne.symm this
      exact all_of id r _ (i + 1) h2 (by rw [getM_set, hb]; exact hc)
theorem nodes_iff (c : List (Int × Job)) (all_ : List (Int × Resize)) (f : Nat → Bool) : ∀ (l : List Node) (i : Nat), l = s.nodes.drop i → i + l.length = s.nodes.length →
    (∀ k, k < s.nodes.length → f k = !(((((s.nodes.getD k Node.zero).state == 1) && ((!(getM (s.nodes.getD k Node.zero).job c).isSome) || (!(nodeset_Has (((getM (s.nodes.getD k Node.zero).job c).getD Job.zero).nodes) (k : Int))))) || (((s.nodes.getD k Node.zero).state == 2) && (!(getM (s.nodes.getD k Node.zero).job c).isSome))) || ((((s.nodes.getD k Node.zero).state == 2) || ((s.nodes.getD k Node.zero).want == 4)) && (!(nodeset_Has (((getM (s.nodes.getD k Node.zero).job all_).getD Resize.zero).nodes) (k : Int)))) || (((s.nodes.getD k Node.zero).state == 3) && (decide ((s.nodes.getD k Node.zero).job ≥ s.nextJob))))) →
    (state_nodes_g1 s c all_ l i = true ↔ ∀ k, i ≤ k → k < s.nodes.length → f k = true)
  | [], i, _, hlen, _ => by
    simp only [List.length_nil, Nat.add_zero] at hlen
    exact ⟨fun _ k h1 h2 => absurd h2 (by omega), fun _ => rfl⟩
  | x :: r, i, hl, hlen, hf => by
    simp only [List.length_cons] at hlen
    have hr' : r = s.nodes.drop (i + 1) := by rw [← List.drop_drop, ← hl]; rfl
    have hi : s.nodes[i]? = some x := by
      have := congrArg (fun q => q[0]?) hl
      simpa [List.getElem?_drop] using this.symm
    have hg : s.nodes.getD i Node.zero = x := by rw [List.getD, hi]; rfl
    have ih := nodes_iff c all_ f r (i + 1) hr' (by omega) hf
    have hfi := hf i (by omega)
    rw [hg] at hfi
    rw [state_nodes_g1]
    have step : ∀ A B C D : Bool, ∀ Z : Bool, (bif A then false else bif B then false else bif C then false else bif D then false else Z) = (!((((A || B) || C) || D)) && Z) := by decide
    rw [step, ← hfi]
    cases hq : f i with
    | false =>
      refine ⟨fun h => (by cases h), fun h => ?_⟩
      have := h i (Nat.le_refl _) (by omega)
      rw [hq] at this
      cases this
    | true =>
      simp only [Bool.true_and]
      rw [ih]
      refine ⟨fun h k hk hk2 => ?_, fun h k hk hk2 => h k (by omega) hk2⟩
      rcases Nat.eq_or_lt_of_le hk with h3 | h3
      · rw [← h3]; exact hq
      · exact h k h3 hk2
theorem nodes_eq (hp : s.jobs.Pairwise (fun a b => a.id < b.id)) (hz : s.resizes.Pairwise (fun a b => a.job < b.job)) (hn : ∀ x ∈ s.jobs, U64 x.nodes) (hr : ∀ r ∈ s.resizes, U64 r.nodes) :
    state_nodes s (state_Check_g3 s.jobs 0 []) (setAll [] s.resizes) = true ↔ ∀ k, k < s.nodes.length → ref25_node s (k : Int) = true := by
  unfold state_nodes
  rw [nodes_iff s _ _ (fun k => ref25_node s (k : Int)) s.nodes 0 (by simp) (by omega) ?_]
  · exact ⟨fun h k hk => h k (Nat.zero_le _) hk, fun h k _ hk => h k hk⟩
  · intro k hk
    obtain ⟨q1, q2⟩ := run_get hp (s.nodes.getD k Node.zero).job
    have q3 : (getM (s.nodes.getD k Node.zero).job (setAll [] s.resizes)).getD Resize.zero = ref25_of s (s.nodes.getD k Node.zero).job := all_of _ s.resizes [] 0 hz rfl
    have uj : U64 (ref25_Run s (s.nodes.getD k Node.zero).job).1.nodes := by
      by_cases h : ∃ x ∈ s.jobs, x.id = (s.nodes.getD k Node.zero).job
      · obtain ⟨x, hx, e⟩ := h
        rw [← e, run_some hp hx]
        split
        · exact hn x hx
        · exact .zero
      · rw [run_none _ (fun x hx e => h ⟨x, hx, e⟩)]
        exact .zero
    have ur : ∀ id, U64 (ref25_of s id).nodes := by
      intro id
      unfold ref25_of
      have : ∀ (l : List Resize) (i : Nat), (∀ r ∈ l, U64 r.nodes) → U64 (ref25_of_g1 id l i).nodes := by
        intro l
        induction l with
        | nil => exact fun _ _ => .zero
        | cons y t ih =>
          intro i h
          rw [ref25_of_g1]
          cases (y.job == id) with
          | true => exact h y (List.mem_cons_self ..)
          | false => exact ih (i + 1) fun r hr => h r (List.mem_cons_of_mem _ hr)
      exact this _ _ hr
    rw [q1, q2, q3]
    unfold ref25_node ref25_Has
    rw [Int.toNat_natCast, has_eq uj, has_eq (ur _)]
    generalize (s.nodes.getD k Node.zero).state = st
    generalize (ref25_Run s (s.nodes.getD k Node.zero).job).2 = ru
    generalize nodeset_Has (ref25_Run s (s.nodes.getD k Node.zero).job).1.nodes (k : Int) = h1
    generalize nodeset_Has (ref25_of s (s.nodes.getD k Node.zero).job).nodes (k : Int) = h2
    generalize decide ((s.nodes.getD k Node.zero).job ≥ s.nextJob) = dn
    generalize ((s.nodes.getD k Node.zero).want == 4) = wa
    by_cases e1 : st = 1
    · subst e1
      revert ru h1 h2 dn wa
      decide
    by_cases e2 : st = 2
    · subst e2
      revert ru h1 h2 dn wa
      decide
    by_cases e3 : st = 3
    · subst e3
      revert ru h1 h2 dn wa
      decide
    have b1 : (st == 1) = false := by simpa using e1
    have b2 : (st == 2) = false := by simpa using e2
    have b3 : (st == 3) = false := by simpa using e3
    rw [b1, b2, b3]
    revert ru h1 h2 dn wa
    decide
end
end Go.Proofs.YtoionleakeemlaaGreatDoor
namespace Go.Proofs.YtoionleakeemlaaGreatDoor
set_option linter.unusedSimpArgs false
set_option linter.unusedVariables false
open Go.Fw
structure Words (s : State) : Prop where
  sz : s.sz
  jobs : ∀ x ∈ s.jobs, U64 x.nodes
  nodes : ∀ r ∈ s.resizes, U64 r.nodes
  said : ∀ r ∈ s.resizes, U64 r.said
section
variable {s : State}
def rzR (s : State) (k : Nat) : Bool := (ref25_resize s (s.resizes.getD k Resize.zero)) && (((k : Int) == 0) || (decide ((s.resizes.getD (Int.toNat (w64 ((k : Int) - 1))) Resize.zero).job < (s.resizes.getD k Resize.zero).job)))
def heldR (s : State) (k : Nat) : Bool := ((s.jobs.getD k Job.zero).state != 2) || ((ref12_Of s.nodes ((s.jobs.getD k Job.zero).id) 1) == (s.jobs.getD k Job.zero).nodes)
theorem ref_state_iff (h : ref21_Check s = 0) : (ref25_Check s = 0 ↔ (state_next s.nextJob (state_Check_g1 s.jobs 0 0) = true ∧ state_next s.nextBook (state_Check_g2 s.books 0 0) = true) ∧ (∀ k, k < s.resizes.length → rzR s k = true) ∧ (∀ k, k < s.nodes.length → ref25_node s (k : Int) = true) ∧ (∀ k, k < s.jobs.length → heldR s k = true)) ∧ (ref25_Check s = 0 ∨ ref25_Check s = 141) := by
  unfold ref25_Check
  rw [h]
  show ((bif false then (141 : Int) else ref25_Check_k1 s (ref25_Check_g1 s.jobs 0 0).1 (ref25_Check_g1 s.jobs 0 0).2) = 0 ↔ _) ∧ ((bif false then (141 : Int) else ref25_Check_k1 s (ref25_Check_g1 s.jobs 0 0).1 (ref25_Check_g1 s.jobs 0 0).2) = 0 ∨ (bif false then (141 : Int) else ref25_Check_k1 s (ref25_Check_g1 s.jobs 0 0).1 (ref25_Check_g1 s.jobs 0 0).2) = 141)
  simp only [cond_false]
  unfold ref25_Check_k1 ref25_Check_k2 ref25_Check_k3 ref25_Check_k4 ref25_Check_k5
  rw [last_job, last_book, ← next_eq, ← next_eq]
  generalize hok0 : ((state_next s.nextJob (state_Check_g1 s.jobs 0 0)) && (state_next s.nextBook (state_Check_g2 s.books 0 0))) = ok0
  have e3 := okloop s.resizes.length (rzR s) (ref25_Check_g3 s) (fun _ _ _ => rfl) ((Int.toNat ((s.resizes.length : Int) - (0 : Int))) + 1) ok0 0 (by omega) (by omega)
  generalize (ref25_Check_g3 s ((Int.toNat ((s.resizes.length : Int) - (0 : Int))) + 1) ok0 0).1 = ok1 at *
  have e4 := okloop s.nodes.length (fun k => ref25_node s (k : Int)) (ref25_Check_g4 s) (fun _ _ _ => rfl) ((Int.toNat ((s.nodes.length : Int) - (0 : Int))) + 1) ok1 0 (by omega) (by omega)
  generalize (ref25_Check_g4 s ((Int.toNat ((s.nodes.length : Int) - (0 : Int))) + 1) ok1 0).1 = ok2 at *
  have e5 := okloop s.jobs.length (heldR s) (ref25_Check_g5 s) (fun _ _ _ => rfl) ((Int.toNat ((s.jobs.length : Int) - (0 : Int))) + 1) ok2 0 (by omega) (by omega)
  generalize (ref25_Check_g5 s ((Int.toNat ((s.jobs.length : Int) - (0 : Int))) + 1) ok2 0).1 = ok3 at *
  have hand : (state_next s.nextJob (state_Check_g1 s.jobs 0 0) = true ∧ state_next s.nextBook (state_Check_g2 s.books 0 0) = true) ↔ ok0 = true := by rw [← hok0, Bool.and_eq_true]
  rw [hand]
  have hz : ok3 = true ↔ ok0 = true ∧ (∀ k, k < s.resizes.length → rzR s k = true) ∧ (∀ k, k < s.nodes.length → ref25_node s (k : Int) = true) ∧ (∀ k, k < s.jobs.length → heldR s k = true) := by
    rw [e5, e4, e3]
    simp only [Nat.zero_le, true_implies, and_assoc]
  rw [← hz]
  cases ok3 <;> simp
theorem state_eq (h : Words s) : state_Check s = ref25_Check s := by
  have hpe := plan_eq s h.sz h.jobs
  cases hp : (plan_Check s != 0) with
  | true =>
    have hr : (ref21_Check s != 0) = true := by rw [← hpe]; exact hp
    unfold state_Check ref25_Check
    rw [hp, hr]
    rfl
  | false =>
    have hp0 : plan_Check s = 0 := by simpa using hp
    obtain ⟨r1, r2⟩ := ref_state_iff (s := s) (by rw [← hpe]; exact hp0)
    obtain ⟨hf, ht⟩ := plan_Check_parts hp0
    obtain ⟨_, hjc, hsort⟩ := table_parts ht
    have hl : s.nodes.length ≤ 64 := by have := (fine_want hf).1; omega
    have hid : ∀ x ∈ s.jobs, 1 ≤ x.id := fun x hx => (job_bounds (hjc x hx)).1
    have e : state_Check s = state_Check_g4 s (state_Check_g1 s.jobs 0 0) (state_Check_g2 s.books 0 0) (state_Check_g3 s.jobs 0 []) s.resizes 0 [] := by
      unfold state_Check state_Check_k1 state_Check_k2 state_Check_k3
      rw [hp]
      rfl
    obtain ⟨p1, p2⟩ := g4_iff s (state_Check_g1 s.jobs 0 0) (state_Check_g2 s.books 0 0) (state_Check_g3 s.jobs 0 []) s.resizes 0 [] (by simp) (by omega)
    rw [← e] at p1 p2
    have heldE : heldB s (state_Check_g3 s.jobs 0 []) = true ↔ ∀ k, k < s.jobs.length → heldR s k = true := by
      rw [held_iff s hsort hid]
      unfold heldR
      constructor
      · intro hh k hk
        have hm : s.jobs.getD k Job.zero ∈ s.jobs := by
          rw [List.getD, List.getElem?_eq_getElem hk]
          exact List.getElem_mem _
        cases hst : ((s.jobs.getD k Job.zero).state != 2) with
        | true => rfl
        | false =>
          have : (s.jobs.getD k Job.zero).state = 2 := by simpa [bne] using hst
          rw [hh _ hm this]
          simp
      · intro hh x hx hs
        obtain ⟨k, hk⟩ := List.getElem?_of_mem hx
        have hg : s.jobs.getD k Job.zero = x := by rw [List.getD, hk]; rfl
        have := hh k (List.getElem?_eq_some_iff.1 hk).1
        rw [hg, hs] at this
        simpa using this
    have rzE : (∀ k, k < s.jobs.length → heldR s k = true) → ∀ k, k < s.resizes.length → rzP s (state_Check_g3 s.jobs 0 []) k = rzR s k := by
      intro hh k hk
      have hm : s.resizes.getD k Resize.zero ∈ s.resizes := by
        rw [List.getD, List.getElem?_eq_getElem hk]
        exact List.getElem_mem _
      have hheld := (held_iff s hsort hid).1 (heldE.2 hh)
      unfold rzP rzR
      obtain ⟨q1, q2⟩ := run_get hsort (s.resizes.getD k Resize.zero).job
      rw [q1, q2]
      have hord : ((decide ((k : Int) > 0)) && (decide ((s.resizes.getD (Int.toNat (w64 ((k : Int) - 1))) Resize.zero).job ≥ (s.resizes.getD k Resize.zero).job))) = !(((k : Int) == 0) || (decide ((s.resizes.getD (Int.toNat (w64 ((k : Int) - 1))) Resize.zero).job < (s.resizes.getD k Resize.zero).job))) := by
        rw [Bool.eq_iff_iff]
        simp only [Bool.and_eq_true, decide_eq_true_eq, Bool.not_eq_true', Bool.or_eq_false_iff, decide_eq_false_iff_not, beq_eq_false_iff_ne]
        omega
      rw [hord]
      have hres : ((ref25_Run s (s.resizes.getD k Resize.zero).job).2 = true → state_resize s (s.resizes.getD k Resize.zero) (ref25_Run s (s.resizes.getD k Resize.zero).job).1 = ref25_resize s (s.resizes.getD k Resize.zero)) ∧ ((ref25_Run s (s.resizes.getD k Resize.zero).job).2 = false → ref25_resize s (s.resizes.getD k Resize.zero) = false) := by
        constructor
        · intro hrun
          by_cases hx : ∃ x ∈ s.jobs, x.id = (s.resizes.getD k Resize.zero).job
          · obtain ⟨x, hx, hxe⟩ := hx
            have hrs := run_some hsort hx
            rw [hxe] at hrs
            by_cases hst : x.state = 2
            · rw [if_pos hst] at hrs
              rw [hrs]
              refine resize_eq s _ x (h.nodes _ hm) (h.said _ hm) (h.jobs x hx) hf hrs (hjc x hx) fun i => ?_
              have he := hheld x hx hst
              rw [← of_eq] at he
              obtain ⟨_, b⟩ := fleet_where_bits s.nodes (fun (y : Node) => ((y.job == x.id) && (y.state == 1))) hf hl
              rw [← he]
              unfold fleet_Of
              rw [b, hxe]
              simp
            · rw [if_neg hst] at hrs
              rw [hrs] at hrun
              cases hrun
          · rw [run_none _ (fun x hx' e => hx ⟨x, hx', e⟩)] at hrun
            cases hrun
        · intro hrun
          unfold ref25_resize
          rw [hrun]
          rfl
      cases hrun : (ref25_Run s (s.resizes.getD k Resize.zero).job).2 with
      | true =>
        rw [hres.1 hrun]
        generalize (((k : Int) == 0) || (decide ((s.resizes.getD (Int.toNat (w64 ((k : Int) - 1))) Resize.zero).job < (s.resizes.getD k Resize.zero).job))) = A
        generalize ref25_resize s (s.resizes.getD k Resize.zero) = B
        revert A B
        decide
      | false =>
        rw [hres.2 hrun]
        simp
    have rzS : (∀ k, k < s.resizes.length → rzR s k = true) → s.resizes.Pairwise (fun a b => a.job < b.job) := by
      intro hh
      have hstep : ∀ k, k + 1 < s.resizes.length → (s.resizes.getD k Resize.zero).job < (s.resizes.getD (k + 1) Resize.zero).job := by
        intro k hk
        have hk' := hh (k + 1) hk
        have hlen : s.resizes.length ≤ 4294967296 := h.sz.2.2.2.1
        unfold rzR at hk'
        rw [Bool.and_eq_true] at hk'
        have hw : w64 (((k + 1 : Nat) : Int) - 1) = (k : Int) := by
          have := wr (n := ((k + 1 : Nat) : Int) - 1) (by omega)
          show IntKind.i64.wrap _ = _
          rw [this]
          omega
        rw [hw, Int.toNat_natCast] at hk'
        have hne : (((k + 1 : Nat) : Int) == 0) = false := by simp; omega
        rw [hne, Bool.false_or, decide_eq_true_eq] at hk'
        exact hk'.2
      rw [List.pairwise_iff_getElem]
      have hmono : ∀ (d a : Nat), a + d + 1 < s.resizes.length → (s.resizes.getD a Resize.zero).job < (s.resizes.getD (a + d + 1) Resize.zero).job := by
        intro d
        induction d with
        | zero => intro a ha; exact hstep a ha
        | succ d ih =>
          intro a ha
          have h1 := ih a (by omega)
          have h2 := hstep (a + d + 1) (by omega)
          have : a + (d + 1) + 1 = a + d + 1 + 1 := by omega
          rw [this]
          omega
      intro a b ha hb hab
      have := hmono (b - a - 1) a (by omega)
      have e2 : a + (b - a - 1) + 1 = b := by omega
      rw [e2] at this
      have g1 : s.resizes.getD a Resize.zero = s.resizes[a] := by rw [List.getD, List.getElem?_eq_getElem ha]; rfl
      have g2 : s.resizes.getD b Resize.zero = s.resizes[b] := by rw [List.getD, List.getElem?_eq_getElem hb]; rfl
      rw [g1, g2] at this
      exact this
    have hiff : state_Check s = 0 ↔ ref25_Check s = 0 := by
      rw [p1, r1, heldE]
      constructor
      · rintro ⟨a, b, c, d, q⟩
        have hrz : ∀ k, k < s.resizes.length → rzR s k = true := fun k hk => by rw [← rzE q k hk]; exact a k (Nat.zero_le _) hk
        exact ⟨⟨b, c⟩, hrz, (nodes_eq s hsort (rzS hrz) h.jobs h.nodes).1 d, q⟩
      · rintro ⟨⟨b, c⟩, a, d, q⟩
        exact ⟨fun k _ hk => by rw [rzE q k hk]; exact a k hk, b, c, (nodes_eq s hsort (rzS a) h.jobs h.nodes).2 d, q⟩
    rcases p2 with a | a <;> rcases r2 with b | b
    · rw [a, b]
    · rw [hiff.1 a] at b; cases b
    · rw [hiff.2 b] at a; cases a
    · rw [a, b]
end
end Go.Proofs.YtoionleakeemlaaGreatDoor
namespace Go.Proofs.YtoionleakeemlaaGreatDoor
set_option linter.unusedSimpArgs false
set_option linter.unusedVariables false
open Go.Fw
theorem find_none {l : List Job} (h : table_Check l = 0) (id : Int) (hid : ∀ x ∈ l, x.id ≠ id) : (table_Find l id).2 = false := by
  obtain ⟨hn, hj, _⟩ := table_parts h
  unfold table_Find
  rw [h]
  cases hk : table_known id with
  | false => rfl
  | true =>
    unfold table_known at hk
    simp only [Bool.and_eq_true, decide_eq_true_eq] at hk
    cases hp : (table_place l id).2 with
    | false => rfl
    | true =>
      exfalso
      obtain ⟨h0, h1⟩ := table_place_lt l id (by omega) (by rw [hp]; rfl)
      have e : (table_place l id).2 = ((decide ((table_place l id).1 < (l.length : Int))) && ((w64 ((l.getD (Int.toNat (table_place l id).1) Job.zero).id - id)) == 0)) := rfl
      rw [hp] at e
      have e := e.symm
      simp only [Bool.and_eq_true, beq_iff_eq] at e
      have hm : l.getD (Int.toNat (table_place l id).1) Job.zero ∈ l := by
        rw [List.getD, List.getElem?_eq_getElem (show Int.toNat (table_place l id).1 < l.length by omega)]
        exact List.getElem_mem _
      have hb := job_bounds (hj _ hm)
      have hw : w64 ((l.getD (Int.toNat (table_place l id).1) Job.zero).id - id) = (l.getD (Int.toNat (table_place l id).1) Job.zero).id - id := wr (by omega)
      rw [hw] at e
      exact hid _ hm (by omega)
section
variable {s : State}
theorem config_eq (h : Words s) (id : Int) : state_Config s id = ref25_Config s id := by
  unfold state_Config ref25_Config
  rw [state_eq h]
  cases hc : (ref25_Check s != 0) with
  | true =>
    rw [Bool.or_true, Bool.or_true]
    rfl
  | false =>
    have hz : state_Check s = 0 := by rw [state_eq h]; simpa using hc
    have ht := (plan_Check_parts (check_parts hz).1).2
    have hsort := (table_parts ht).2.2
    by_cases hx : ∃ x ∈ s.jobs, x.id = id
    · obtain ⟨x, hx, rfl⟩ := hx
      obtain ⟨p, hp⟩ := List.getElem?_of_mem hx
      rw [table_Find_ok ht hp, run_some hsort hx]
      by_cases hs : x.state = 2
      · rw [if_pos hs, hs]
        rfl
      · have : (x.state != 2) = true := by simpa using hs
        rw [if_neg hs]
        simp only [this]
        rfl
    · have hno : ∀ x ∈ s.jobs, x.id ≠ id := fun x hx' e => hx ⟨x, hx', e⟩
      rw [find_none ht id hno, run_none id hno]
      rfl
theorem index_go (id : Int) : ∀ (l : List Resize) (i : Nat), (slices_IndexFunc_Resize_g1 (fun (y : Resize) => (y.job == id)) l i = -1 ∧ ref25_of_g1 id l i = Resize.zero ∧ ∀ x ∈ l, x.job ≠ id) ∨ ∃ (p : Nat) (x : Resize), l[p]? = some x ∧ slices_IndexFunc_Resize_g1 (fun (y : Resize) => (y.job == id)) l i = ((i + p : Nat) : Int) ∧ ref25_of_g1 id l i = x
  | [], i => .inl ⟨rfl, rfl, fun x hx => (nomatch hx)⟩
  | x :: r, i => by
    rw [slices_IndexFunc_Resize_g1, ref25_of_g1]
    cases hx : (x.job == id) with
    | true => exact .inr ⟨0, x, rfl, rfl, rfl⟩
    | false =>
      rcases index_go id r (i + 1) with ⟨a, b, c⟩ | ⟨p, y, hy, a, b⟩
      · refine .inl ⟨a, b, fun z hz => ?_⟩
        rcases List.mem_cons.1 hz with rfl | hz
        · simpa using hx
        · exact c z hz
      · refine .inr ⟨p + 1, y, by simpa using hy, ?_, b⟩
        show slices_IndexFunc_Resize_g1 (fun (y : Resize) => (y.job == id)) r (i + 1) = _
        rw [a]
        congr 1
        omega
theorem resizing_eq (h : Words s) (id : Int) : state_Resizing s id = ref25_Resizing s id := by
  unfold state_Resizing ref25_Resizing
  rw [state_eq h]
  cases hc : (ref25_Check s != 0) with
  | true =>
    rw [Bool.or_true, Bool.or_true]
    rfl
  | false =>
    have hr0 : ref25_Check s = 0 := by simpa using hc
    have hz : state_Check s = 0 := by rw [state_eq h]; exact hr0
    have hpl := (check_parts hz).1
    obtain ⟨_, hrz, _⟩ := (ref_state_iff (s := s) (by rw [← plan_eq s h.sz h.jobs]; exact hpl)).1.1 hr0
    unfold slices_IndexFunc_Resize ref25_of
    rcases index_go id s.resizes 0 with ⟨a, b, _⟩ | ⟨p, x, hp, a, b⟩
    · rw [a, b]
      rfl
    · rw [a, b, Nat.zero_add]
      have hlt := (List.getElem?_eq_some_iff.1 hp).1
      have hg : s.resizes.getD p Resize.zero = x := by rw [List.getD, hp]; rfl
      have hn : (x.nodes == 0) = false := by
        have := hrz p hlt
        unfold rzR at this
        rw [hg, Bool.and_eq_true] at this
        have hre := this.1
        unfold ref25_resize at hre
        cases hq : (((((!(ref25_Run s x.job).2) || ((ref25_Run s x.job).1.shape.kind != 3)) || (x.nodes == 0)) || (decide (x.since < 0))) || (decide (x.since > 1000000))) with
        | true => rw [hq] at hre; cases hre
        | false => exact (or_f (or_f (or_f hq).1).1).2
      rw [hn, decide_eq_false (show ¬ (p : Int) < 0 by omega), Int.toNat_natCast, hg]
end
theorem wf_u64 {n : Int} (h : (Lit.int .u64 n).wf = true) : U64 n := by
  unfold Lit.wf at h
  simp only [Bool.and_eq_true, decide_eq_true_eq] at h
  have e1 : IntKind.u64.min = 0 := by decide
  have e2 : IntKind.u64.max = 18446744073709551615 := by decide
  rw [e1, e2] at h
  unfold U64
  omega
theorem State.wf_words {s : State} (h : s.wf) (hs : s.sz) : Words s := by
  refine ⟨hs, fun x hx => ?_, fun r hr => ?_, fun r hr => ?_⟩
  · have := h.2.2.1.2 x hx
    unfold Job.wf at this
    exact wf_u64 this.2.2.2.2.2.2.2.2.2.2.2.2.2.2.1
  · have := h.2.2.2.1.2 r hr
    unfold Resize.wf at this
    exact wf_u64 this.2.2.1
  · have := h.2.2.2.1.2 r hr
    unfold Resize.wf at this
    exact wf_u64 this.2.2.2.1
theorem stateChecks_true (s : State) (id : Int) (h : s.wf) : law25_StateChecks s id = true := by
  unfold law25_StateChecks
  cases hf : law20_Few s with
  | false => exact awake25
  | true =>
    have hw := State.wf_words h (law20_Few_sz hf)
    simp only [Bool.not_true, cond_false]
    rw [state_eq hw, new_eq, resizing_eq hw, config_eq hw, (ref25_same _ _).2 rfl, awake25]
    simp
end Go.Proofs.YtoionleakeemlaaGreatDoor
