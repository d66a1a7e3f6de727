/- The law TokenBack (layer 2): the row and its tied card: for every input the law returns true, and the arguments read behind the call as they read before. No condition of ours. -/
import Derived.Test.YtpnlbmeeihbjaabDoorZBK7
import Derived.Test.YtpnlbmeeihbjaabDoorZBK11
import Derived.Test.YtpnlbmeeihbjaabDoorZBK13
import Derived.Test.YtpnlbmeeihbjaabDoorZBK14
import Derived.Test.YtpnlbmeeihbjaabDoorZBK15
import Derived.OpenShut
section
set_option linter.unusedVariables false
set_option linter.unusedSimpArgs false
namespace Go.Proofs.YtpnlbmeeihbjaabDoor.P
open Go.RowKit Go.Proofs.YtpnlbmeeihbjaabDoorW.PrintWords Go.Proofs.YtpnlbmeeihbjaabDoorW.PrintLast Go.Proofs.YtpnlbmeeihbjaabDoorW.PrintMore
open Go.Lib
attribute [local go_sem] max2_int min2_int max_two min_two max_three min_three max_four min_four
set_option linter.unusedVariables false
set_option linter.unusedSimpArgs false
theorem unitT_len (S : ByteArray) : (unitT S).length ≤ 30 + 10 * S.size := by
  unfold unitT
  split
  · have h1 := parts_len partB (decS (S.extract 1 S.size))
    have h2 := decS_len (S.extract 1 S.size)
    have h3 := ext_size S
    have h4 := hexC_len (hd0 S)
    rw [List.length_append]
    omega
  · have := escS_len S
    omega
theorem app_eq (a b : List UInt8) : (⟨a.toArray⟩ : ByteArray) ++ ⟨b.toArray⟩ = ⟨(a ++ b).toArray⟩ := by
  apply Go.WideShapes.bytes_inj
  simp
end Go.Proofs.YtpnlbmeeihbjaabDoor.P
end
section
set_option linter.unusedVariables false
set_option linter.unusedSimpArgs false
namespace Go.Proofs.YtpnlbmeeihbjaabDoor.P
open Go.RowKit Go.Proofs.YtpnlbmeeihbjaabDoorW.PrintWords Go.Proofs.YtpnlbmeeihbjaabDoorW.PrintLast Go.Proofs.YtpnlbmeeihbjaabDoorW.PrintMore
open Go.Lib
attribute [local go_sem] max2_int min2_int max_two min_two max_three min_three max_four min_four
set_option linter.unusedVariables false
set_option linter.unusedSimpArgs false
def Val (c : Int) : Prop := 0 ≤ c ∧ c ≤ 1114111 ∧ (c < 55296 ∨ 57343 < c)
def Vals (s : List Int) : Prop := ∀ c ∈ s, Val c
theorem Vals.suf {s t : List Int} (h : Vals s) (hs : t <:+ s) : Vals t := fun c hc => h c (hs.subset hc)
theorem Vals.pk {s : List Int} (h : Vals s) (n : Nat) : -1 ≤ pk s n ∧ pk s n ≤ 1114111 := by
  by_cases hn : n < s.length
  · have := h _ (pk_mem hn)
    unfold Val at this
    omega
  · have : P.pk s n = -1 := by
      unfold P.pk
      simp [List.getD_eq_getElem?_getD, List.getElem?_eq_none (Nat.le_of_not_lt hn)]
    omega
theorem chr_val {c : Int} (h : Val c) : Val (chr c) := by
  unfold chr
  split
  · unfold Val; omega
  · split
    · unfold Val; omega
    · exact h
theorem runB_vals : ∀ (k : Nat) (l : List UInt8) (was : Int), Vals (runB k l was)
  | 0, _, _, c, h => by cases h
  | k + 1, [], _, c, h => by cases h
  | k + 1, a :: t, was, c, h => by
    unfold runB at h
    rcases List.mem_append.1 h with h | h
    · split at h
      · cases h
      · simp only [List.mem_singleton] at h
        subst h
        have := dcl_ok (a :: t)
        exact chr_val (by unfold Val; omega)
    · exact runB_vals k _ _ c h
theorem run_vals (S : ByteArray) : Vals (runS S) := by rw [runS_N]; exact runB_vals _ _ _
theorem escV_val {n : Int} (h : 0 ≤ n) : Val (escV n) := by
  unfold escV Val
  split <;> omega
theorem escd_val {c : Int} {t : List Int} (h : Vals (c :: t)) : Val (escd (c :: t)).1 := by
  unfold escd
  simp only [List.drop_succ_cons, List.drop_zero]
  cases t with
  | nil => unfold Val; simp
  | cons d u =>
    simp only
    split
    · exact h d (List.mem_cons_of_mem _ List.mem_cons_self)
    · exact escV_val (hexR_nn 6 0 _ (Int.le_refl _))
theorem nameL_vals : ∀ (n : Nat) (s : List Int), Vals s → Vals (nameL n s).1
  | 0, s, _, c, h => by cases h
  | n + 1, [], _, c, h => by cases h
  | n + 1, d :: t, hv, c, h => by
    unfold nameL at h
    split at h
    · rcases List.mem_cons.1 h with rfl | h
      · exact hv _ List.mem_cons_self
      · exact nameL_vals n t (hv.suf (List.suffix_cons d t)) c h
    · split at h
      · rcases List.mem_cons.1 h with rfl | h
        · exact escd_val hv
        · exact nameL_vals n _ (hv.suf ((escd_suf d t).trans (List.suffix_cons d t))) c h
      · cases h
theorem name_vals {s : List Int} (h : Vals s) : Vals (nameS s).1 := nameL_vals _ s h
theorem quotL_out (q : Int) : ∀ (n : Nat) (s : List Int), (quotL q n s).2.1.length ≤ s.length
  | 0, s => Nat.zero_le _
  | n + 1, [] => Nat.zero_le _
  | n + 1, c :: t => by
    have h1 := quotL_out q n t
    have h2 := quotL_out q n (escd (c :: t)).2
    have h3 := quotL_out q n (t.drop 1)
    have h4 := escd_len c t
    rw [List.length_drop] at h3
    unfold quotL
    rw [List.length_cons]
    split
    · simp
    · split
      · simp
      · split
        · simp only [List.length_cons]; omega
        · split
          · omega
          · simp only [List.length_cons]; omega
theorem decN_strR : ∀ xs : List Int, Vals xs → decN (strR xs) = xs
  | [], _ => rfl
  | c :: t, h => by
    obtain ⟨h0, h1, h2⟩ := h c List.mem_cons_self
    obtain ⟨a, u, e⟩ := enc_ne c
    have hd := dcl_enc h0 h1 h2 (strR t)
    have hl : (Lib.encodeRune c ++ strR t).drop (Lib.encodeRune c).length = strR t := List.drop_left
    show decN (Lib.encodeRune c ++ strR t) = _
    rw [e] at hd hl ⊢
    rw [List.cons_append] at hd hl ⊢
    rw [decN_cons, hd]
    simp only
    rw [hl, decN_strR t (fun x hx => h x (List.mem_cons_of_mem _ hx)), show ((c.toNat : Nat) : Int) = c by omega]
theorem strB_data (xs : List Int) : (strB xs).data.toList = strR xs := by unfold strB; simp
theorem decS_strB {xs : List Int} (h : Vals xs) : decS (strB xs) = xs := by rw [decS_N, strB_data, decN_strR xs h]
theorem strB_ne {xs : List Int} (h : xs ≠ []) : (strB xs).data.toList ≠ [] := by
  rw [strB_data]
  cases xs with
  | nil => exact absurd rfl h
  | cons c t =>
    obtain ⟨a, u, e⟩ := enc_ne c
    show Lib.encodeRune c ++ strR t ≠ []
    rw [e]; simp
theorem strB_size (xs : List Int) : (strB xs).size ≤ 4 * xs.length := by
  have := strR_len xs
  show (strB xs).data.toList.length ≤ _
  rw [strB_data]
  exact this
theorem name_ne {s : List Int} (h : begB s 0 = true) : (nameS s).1 ≠ [] := by
  cases s with
  | nil => revert h; decide
  | cons c t =>
    cases hp : partB c with
    | true => rw [nameS_part hp]; simp
    | false =>
      rcases beg_name h with h1 | h1
      · rw [hp] at h1; cases h1
      · rw [nameS_esc hp h1]; simp
def Back (t : S26) : Prop := ∃ E : ByteArray, (∀ k, 2 ≤ k → token_Source.f k t.f0 t.f1 t.f2 t.f3 t.f4 = some E) ∧ E.size < 1099511627776 ∧ cutS E = [t]
theorem back_str (x : ByteArray) (hs : x.size ≤ 100000) (hc : Clean x) : Back ⟨5, x, ⟨#[]⟩, false, false⟩ := by
  have hl := quoteS_len x
  have hz := arr_size (quoteS x)
  refine ⟨⟨(quoteS x).toArray⟩, fun k _ => ?_, by omega, quote_cut hc⟩
  show token_Source.f k 5 x ⟨#[]⟩ false false = _
  unfold token_Source.f
  rw [if_neg (by decide), if_neg (by decide), if_neg (by decide), if_neg (by decide), if_pos (by decide)]
  rw [show token_Quote.f x = some ⟨(quoteS x).toArray⟩ from if_pos (by omega), Option.bind_some]
theorem back_ident (x : ByteArray) (hs : x.size ≤ 100000) (hc : Clean x) (hne : x.data.toList ≠ []) : Back ⟨1, x, ⟨#[]⟩, false, false⟩ := by
  have hl := escS_len x
  have hz := arr_size (escS x)
  refine ⟨⟨(escS x).toArray⟩, fun k _ => ?_, by omega, esc_cut hc hne⟩
  show token_Source.f k 1 x ⟨#[]⟩ false false = _
  unfold token_Source.f
  rw [if_pos (by decide)]
  rw [show token_Escape.f x = some ⟨(escS x).toArray⟩ from if_pos (by omega), Option.bind_some]
theorem back_at (x : ByteArray) (hs : x.size ≤ 100000) (hc : Clean x) (hne : x.data.toList ≠ []) : Back ⟨3, x, ⟨#[]⟩, false, false⟩ := by
  have hl := escS_len x
  have hz := arr_size (escS x)
  refine ⟨⟨#[64]⟩ ++ ⟨(escS x).toArray⟩, fun k _ => ?_, by rw [cat_size]; omega, at_cut hc hne⟩
  show token_Source.f k 3 x ⟨#[]⟩ false false = _
  unfold token_Source.f
  rw [if_neg (by decide), if_neg (by decide), if_pos (by decide)]
  rw [show token_Escape.f x = some ⟨(escS x).toArray⟩ from if_pos (by omega), Option.bind_some, if_pos (by omega)]
theorem back_hash (x : ByteArray) (hs : x.size ≤ 100000) (hc : Clean x) (hne : x.data.toList ≠ []) : Back ⟨4, x, ⟨#[]⟩, false, true⟩ := by
  have hl := escS_len x
  have hz := arr_size (escS x)
  refine ⟨⟨#[35]⟩ ++ ⟨(escS x).toArray⟩, fun k _ => ?_, by rw [cat_size]; omega, hash_cut hc hne⟩
  show token_Source.f k 4 x ⟨#[]⟩ false true = _
  unfold token_Source.f
  rw [if_neg (by decide), if_neg (by decide), if_neg (by decide), if_pos (by decide)]
  have hh : token_hash.f 4 x ⟨#[]⟩ false true = some ⟨(escS x).toArray⟩ := if_pos (by show x.size ≤ _; omega)
  rw [hh, Option.bind_some, if_pos (by omega)]
theorem fun_cut {S : ByteArray} (h : Clean S) (hne : S.data.toList ≠ []) (hf : (foldS S).toList ≠ [117, 114, 108]) : cutS (⟨(escS S).toArray⟩ ++ ⟨#[40]⟩) = [⟨2, S, ⟨#[]⟩, false, false⟩] := by
  have hx := (clean_back h).2
  have hs := clean_strB h
  have e0 : runN [40] 0 = [40] := by
    rw [runN_ascii (by decide), if_neg (fun h => absurd h.2 (by decide)), runN_nil]
    rfl
  have hr := escS_run h [40]
  rw [e0] at hr
  have hw := escQ_way (T := [40]) (by decide) (decS_ne hne) hx
  have hn := name_escQ [40] _ hx
  have h40 : nameS [40] = ([], [40]) := nameS_end (by decide) rfl
  rw [h40, List.append_nil] at hn
  simp only at hn
  have hd : ((⟨(escS S).toArray⟩ : ByteArray) ++ ⟨#[40]⟩).data.toList = escS S ++ [40] := by simp
  unfold cutS
  rw [runS_N, hd, hr, toks_eq (beg_ne hw.2) (com_way hw.2)]
  have hu : urlB (escQ (decS S) ++ [40]) = false := by
    unfold urlB
    rw [hn]
    simp only
    rw [show (⟨(strR (decS S)).toArray⟩ : ByteArray) = S from hs]
    have : ((foldS S).toList == [117, 114, 108]) = false := by simpa using hf
    rw [this]; rfl
  have ho : oneK (escQ (decS S) ++ [40]) = (kt 2 S, []) := by
    unfold oneK
    simp only [hw.1]
    simp only [reduceIte, Nat.reduceEqDiff]
    unfold wordK wordR
    rw [hu]
    simp only [hn]
    have e40 : pk [40] 0 = 40 := rfl
    simp only [e40, ne_eq, not_true_eq_false, if_false, Bool.false_eq_true, hs]
    rfl
  rw [ho]
  rfl
theorem back_fun (x : ByteArray) (hs : x.size ≤ 100000) (hc : Clean x) (hne : x.data.toList ≠ []) (hf : (foldS x).toList ≠ [117, 114, 108]) : Back ⟨2, x, ⟨#[]⟩, false, false⟩ := by
  have hl := escS_len x
  have hz := arr_size (escS x)
  have hz2 : ((⟨(escS x).toArray⟩ : ByteArray) ++ ⟨#[40]⟩).size = (escS x).length + 1 := by rw [ByteArray.size_append]; rfl
  refine ⟨⟨(escS x).toArray⟩ ++ ⟨#[40]⟩, fun k _ => ?_, by omega, fun_cut hc hne hf⟩
  show token_Source.f k 2 x ⟨#[]⟩ false false = _
  unfold token_Source.f
  rw [if_neg (by decide), if_pos (by decide)]
  rw [show token_Escape.f x = some ⟨(escS x).toArray⟩ from if_pos (by omega), Option.bind_some, if_pos (by omega)]
theorem cq_part {c : Int} (h : partB c = true) : cq partB c = [c] := by
  have : ¬ (c < 32 ∨ c = 127) := by
    rintro (h1 | rfl)
    · unfold partB startB btw at h
      simp only [Bool.or_eq_true, Bool.and_eq_true, decide_eq_true_eq, beq_iff_eq] at h
      omega
    · revert h; decide
  unfold cq
  rw [if_neg this, if_pos h]
theorem part_ne {c : Int} (h : partB c = true) : c ≠ 92 ∧ c ≠ -1 ∧ c ≠ 10 := by
  refine ⟨?_, ?_, ?_⟩ <;> (rintro rfl; revert h; decide)
theorem hash0_first {u : List Int} (hb : begB u 0 = false) (hp : partB (pk u 0) = true) : (nameS u).1 ≠ [] ∧ begB ((nameS u).1.flatMap (cq partB)) 0 = false ∧ partB (pk ((nameS u).1.flatMap (cq partB)) 0) = true := by
  cases u with
  | nil => revert hp; decide
  | cons c t =>
    have hp : partB c = true := hp
    have hc := part_ne hp
    rw [nameS_part hp]
    refine ⟨by simp, ?_, ?_⟩
    · rw [List.flatMap_cons, cq_part hp]
      unfold begB at hb ⊢
      rw [show pk (c :: t) 0 = c from rfl] at hb
      rw [show pk ([c] ++ (nameS t).1.flatMap (cq partB)) 0 = c from rfl]
      by_cases h45 : c = 45
      · rw [if_pos h45] at hb ⊢
        rw [show pk (c :: t) (0 + 1) = pk t 0 from rfl, show escB (c :: t) (0 + 1) = escB t 0 from rfl] at hb
        rw [show pk ([c] ++ (nameS t).1.flatMap (cq partB)) (0 + 1) = pk ((nameS t).1.flatMap (cq partB)) 0 from rfl, show escB ([c] ++ (nameS t).1.flatMap (cq partB)) (0 + 1) = escB ((nameS t).1.flatMap (cq partB)) 0 from rfl]
        cases t with
        | nil => rfl
        | cons d v =>
          cases hd : partB d with
          | true =>
            rw [nameS_part hd, List.flatMap_cons, cq_part hd]
            have hd2 := part_ne hd
            have e3 : escB ([d] ++ (nameS v).1.flatMap (cq partB)) 0 = false := by
              unfold escB
              rw [show pk ([d] ++ (nameS v).1.flatMap (cq partB)) 0 = d from rfl]
              simp [hd2.1]
            rw [e3]
            rw [show pk (d :: v) 0 = d from rfl] at hb
            rw [show pk ([d] ++ (nameS v).1.flatMap (cq partB)) 0 = d from rfl]
            simp only [Bool.or_eq_false_iff] at hb ⊢
            exact ⟨hb.1, trivial⟩
          | false =>
            simp only [Bool.or_eq_false_iff] at hb
            rw [nameS_end hd hb.2]
            rfl
      · rw [if_neg h45] at hb ⊢
        have e3 : escB ([c] ++ (nameS t).1.flatMap (cq partB)) 0 = false := by
          unfold escB
          rw [show pk ([c] ++ (nameS t).1.flatMap (cq partB)) 0 = c from rfl]
          simp [hc.1]
        rw [e3]
        simp only [Bool.or_eq_false_iff] at hb ⊢
        exact ⟨hb.1, trivial⟩
    · rw [List.flatMap_cons, cq_part hp]
      exact hp
theorem hash0_cut {x : ByteArray} (h : Clean x) (hb : begB ((decS x).flatMap (cq partB)) 0 = false) (hp : partB (pk ((decS x).flatMap (cq partB)) 0) = true) : cutS (⟨#[35]⟩ ++ ⟨(partsB partB (decS x)).toArray⟩) = [⟨4, x, ⟨#[]⟩, false, false⟩] := by
  have hx := (clean_back h).2
  have hs := clean_strB h
  have hr := runN_parts partB [] (decS x) hx
  rw [List.append_nil, runN_nil, List.append_nil] at hr
  have hn := name_parts [] _ hx
  rw [nameS_nil, List.append_nil] at hn
  rw [List.append_nil] at hn
  simp only at hn
  unfold cutS
  rw [runS_N]
  rw [show ((⟨#[35]⟩ : ByteArray) ++ ⟨(partsB partB (decS x)).toArray⟩).data.toList = 35 :: partsB partB (decS x) by simp]
  rw [runN_ascii (by decide), if_neg (fun h => absurd h.2 (by decide)), runN_was _ (w := 0) (by decide) (by decide), hr]
  show toksS (35 :: (decS x).flatMap (cq partB)) = _
  generalize (decS x).flatMap (cq partB) = e at hb hp hn ⊢
  have hh : hashB (35 :: e) = true := by
    unfold hashB
    rw [show escB (35 :: e) 1 = escB e 0 from rfl, show pk (35 :: e) 1 = pk e 0 from rfl, hp, show (pk e 0 != -1) = true by simpa using partB_nn hp]
    simp
  have hw2 : wayN (35 :: e) = 67 := by
    unfold wayN
    rw [show pk (35 :: e) 0 = 35 from rfl, hh]
    rfl
  have ho : oneK (35 :: e) = (⟨4, x, ⟨#[]⟩, false, false⟩, []) := by
    unfold oneK
    simp only [hw2]
    simp only [reduceIte, Nat.reduceEqDiff, List.tail_cons]
    rw [hn, hb]
    simp only
    rw [hs]
  rw [toks_eq (by simp) rfl, ho]
  rfl
theorem back_hash0 (x : ByteArray) (hs : x.size ≤ 100000) (h : Clean x) (hb : begB ((decS x).flatMap (cq partB)) 0 = false) (hp : partB (pk ((decS x).flatMap (cq partB)) 0) = true) : Back ⟨4, x, ⟨#[]⟩, false, false⟩ := by
  have h1 := parts_len partB (decS x)
  have h2 := decS_len x
  have hz := arr_size (partsB partB (decS x))
  refine ⟨⟨#[35]⟩ ++ ⟨(partsB partB (decS x)).toArray⟩, fun k _ => ?_, by rw [cat_size]; omega, hash0_cut h hb hp⟩
  show token_Source.f k 4 x ⟨#[]⟩ false false = _
  unfold token_Source.f
  rw [if_neg (by decide), if_neg (by decide), if_neg (by decide), if_pos (by decide)]
  have hh : token_hash.f 4 x ⟨#[]⟩ false false = some ⟨(partsB partB (decS x)).toArray⟩ := if_pos (by show x.size ≤ _; omega)
  rw [hh, Option.bind_some, if_pos (by omega)]
theorem back_kd {k : Int} (h : 13 ≤ k ∧ k ≤ 24) : Back (kd k) := by
  have : k = 13 ∨ k = 14 ∨ k = 15 ∨ k = 16 ∨ k = 17 ∨ k = 18 ∨ k = 19 ∨ k = 20 ∨ k = 21 ∨ k = 22 ∨ k = 23 ∨ k = 24 := by omega
  rcases this with rfl | rfl | rfl | rfl | rfl | rfl | rfl | rfl | rfl | rfl | rfl | rfl
  · exact ⟨⟨#[32]⟩, fun k hk => by obtain ⟨k, rfl⟩ : ∃ i, k = i + 1 := ⟨k - 1, by omega⟩
                                   rfl, by decide, by kernel_rfl⟩
  · exact ⟨⟨#[60, 33, 45, 45]⟩, fun k hk => by obtain ⟨k, rfl⟩ : ∃ i, k = i + 1 := ⟨k - 1, by omega⟩
                                               rfl, by decide, by kernel_rfl⟩
  · exact ⟨⟨#[45, 45, 62]⟩, fun k hk => by obtain ⟨k, rfl⟩ : ∃ i, k = i + 1 := ⟨k - 1, by omega⟩
                                           rfl, by decide, by kernel_rfl⟩
  · refine ⟨⟨#[58]⟩, fun k hk => ?_, by decide, by kernel_rfl⟩
    obtain ⟨k, rfl⟩ : ∃ i, k = i + 1 := ⟨k - 1, by omega⟩
    show token_Source.j0 (k + 1) 16 false 16 ⟨#[]⟩ ⟨#[]⟩ false false = _
    rw [token_Source.j0]
    clear hk h
    decide +kernel
  · refine ⟨⟨#[59]⟩, fun k hk => ?_, by decide, by kernel_rfl⟩
    obtain ⟨k, rfl⟩ : ∃ i, k = i + 1 := ⟨k - 1, by omega⟩
    show token_Source.j0 (k + 1) 17 false 17 ⟨#[]⟩ ⟨#[]⟩ false false = _
    rw [token_Source.j0]
    clear hk h
    decide +kernel
  · refine ⟨⟨#[44]⟩, fun k hk => ?_, by decide, by kernel_rfl⟩
    obtain ⟨k, rfl⟩ : ∃ i, k = i + 1 := ⟨k - 1, by omega⟩
    show token_Source.j0 (k + 1) 18 false 18 ⟨#[]⟩ ⟨#[]⟩ false false = _
    rw [token_Source.j0]
    clear hk h
    decide +kernel
  · refine ⟨⟨#[91]⟩, fun k hk => ?_, by decide, by kernel_rfl⟩
    obtain ⟨k, rfl⟩ : ∃ i, k = i + 1 := ⟨k - 1, by omega⟩
    show token_Source.j0 (k + 1) 19 false 19 ⟨#[]⟩ ⟨#[]⟩ false false = _
    rw [token_Source.j0]
    clear hk h
    decide +kernel
  · refine ⟨⟨#[93]⟩, fun k hk => ?_, by decide, by kernel_rfl⟩
    obtain ⟨k, rfl⟩ : ∃ i, k = i + 1 := ⟨k - 1, by omega⟩
    show token_Source.j0 (k + 1) 20 false 20 ⟨#[]⟩ ⟨#[]⟩ false false = _
    rw [token_Source.j0]
    clear hk h
    decide +kernel
  · refine ⟨⟨#[40]⟩, fun k hk => ?_, by decide, by kernel_rfl⟩
    obtain ⟨k, rfl⟩ : ∃ i, k = i + 1 := ⟨k - 1, by omega⟩
    show token_Source.j0 (k + 1) 21 false 21 ⟨#[]⟩ ⟨#[]⟩ false false = _
    rw [token_Source.j0]
    clear hk h
    decide +kernel
  · refine ⟨⟨#[41]⟩, fun k hk => ?_, by decide, by kernel_rfl⟩
    obtain ⟨k, rfl⟩ : ∃ i, k = i + 1 := ⟨k - 1, by omega⟩
    show token_Source.j0 (k + 1) 22 false 22 ⟨#[]⟩ ⟨#[]⟩ false false = _
    rw [token_Source.j0]
    clear hk h
    decide +kernel
  · refine ⟨⟨#[123]⟩, fun k hk => ?_, by decide, by kernel_rfl⟩
    obtain ⟨k, rfl⟩ : ∃ i, k = i + 1 := ⟨k - 1, by omega⟩
    show token_Source.j0 (k + 1) 23 false 23 ⟨#[]⟩ ⟨#[]⟩ false false = _
    rw [token_Source.j0]
    clear hk h
    decide +kernel
  · refine ⟨⟨#[125]⟩, fun k hk => ?_, by decide, by kernel_rfl⟩
    obtain ⟨k, rfl⟩ : ∃ i, k = i + 1 := ⟨k - 1, by omega⟩
    show token_Source.j0 (k + 1) 24 false 24 ⟨#[]⟩ ⟨#[]⟩ false false = _
    rw [token_Source.j0]
    clear hk h
    decide +kernel
end Go.Proofs.YtpnlbmeeihbjaabDoor.P
end
section
set_option linter.unusedVariables false
set_option linter.unusedSimpArgs false
namespace Go.Proofs.YtpnlbmeeihbjaabDoor.P
open Go.RowKit Go.Proofs.YtpnlbmeeihbjaabDoorW.PrintWords Go.Proofs.YtpnlbmeeihbjaabDoorW.PrintLast Go.Proofs.YtpnlbmeeihbjaabDoorW.PrintMore
open Go.Lib
attribute [local go_sem] max2_int min2_int max_two min_two max_three min_three max_four min_four
set_option linter.unusedVariables false
set_option linter.unusedSimpArgs false
theorem tw_all (p : Int → Bool) : ∀ l : List Int, ∀ x ∈ l.takeWhile p, p x = true
  | [], x, h => by cases h
  | c :: t, x, h => by
    rw [List.takeWhile_cons] at h
    split at h
    · rename_i hc
      rcases List.mem_cons.1 h with rfl | h
      · exact hc
      · exact tw_all p t x h
    · cases h
theorem tw_split (p : Int → Bool) (l : List Int) : l = l.takeWhile p ++ l.dropWhile p := (List.takeWhile_append_dropWhile (p := p) (l := l)).symm
theorem pk_head {s : List Int} {v : Int} (h : pk s 0 = v) (hv : v ≠ -1) : ∃ t, s = v :: t := by
  cases s with
  | nil => exact absurd h.symm hv
  | cons c t => exact ⟨t, by rw [show c = v from h]⟩
theorem dig_cons {s : List Int} (h : digB (pk s 0) = true) : ∃ c t, s = c :: t ∧ digB c = true := by
  cases s with
  | nil => rw [show pk [] 0 = -1 from rfl, digB_end] at h; cases h
  | cons c t => exact ⟨c, t, rfl, h⟩
theorem num_split {s : List Int} (hv : Vals s) (hc : cntB s = true) : ∃ sg a f e, NumL sg a f e ∧ s = sg ++ (a ++ (f ++ (e ++ numD s))) ∧ numW s = (f.isEmpty && e.isEmpty) := by
  obtain ⟨sg, X, hsg, hs, hA, hX⟩ : ∃ sg X, SgnL sg ∧ s = sg ++ X ∧ numA s = X ∧ (digB (pk X 0) = true ∨ (pk X 0 = 46 ∧ digB (pk X 1) = true)) := by
    unfold cntB at hc
    by_cases h43 : pk s 0 = 43 ∨ pk s 0 = 45
    · rw [if_pos h43] at hc
      have hA : numA s = s.tail := by
        unfold numA
        rw [if_pos]
        rcases h43 with h | h <;> rw [h] <;> decide
      have hX : digB (pk s.tail 0) = true ∨ (pk s.tail 0 = 46 ∧ digB (pk s.tail 1) = true) := by
        rcases h43 with h | h
        · obtain ⟨t, rfl⟩ := pk_head h (by decide)
          have hc : (digB (pk t 0) || (pk t 0 == 46 && digB (pk t 1))) = true := hc
          simpa using hc
        · obtain ⟨t, rfl⟩ := pk_head h (by decide)
          have hc : (digB (pk t 0) || (pk t 0 == 46 && digB (pk t 1))) = true := hc
          simpa using hc
      rcases h43 with h | h
      · obtain ⟨t, rfl⟩ := pk_head h (by decide)
        exact ⟨[43], t, .inr (.inl rfl), rfl, hA, hX⟩
      · obtain ⟨t, rfl⟩ := pk_head h (by decide)
        exact ⟨[45], t, .inr (.inr rfl), rfl, hA, hX⟩
    · rw [if_neg h43] at hc
      have hc : (digB (pk s 0) || (pk s 0 == 46 && digB (pk s 1))) = true := hc
      have hX : digB (pk s 0) = true ∨ (pk s 0 = 46 ∧ digB (pk s 1) = true) := by simpa using hc
      refine ⟨[], s, .inl rfl, rfl, ?_, hX⟩
      unfold numA
      rw [if_neg]
      rcases hX with h | h
      · rw [h]; simp
      · rw [h.1]; simp
  have hB : numB s = X.dropWhile digB := by unfold numB; rw [hA]
  have hXs := tw_split digB X
  obtain ⟨f, Z, hf, hY, hC, hP⟩ : ∃ f Z, FraL f ∧ X.dropWhile digB = f ++ Z ∧ numC s = Z ∧ numP s = !f.isEmpty := by
    cases hp : numP s with
    | true =>
      have hp2 := hp
      unfold numP at hp2
      rw [hB] at hp2
      simp only [Bool.and_eq_true, beq_iff_eq] at hp2
      obtain ⟨Y, hY⟩ := pk_head hp2.1 (by decide)
      have h1 : digB (pk Y 0) = true := by have := hp2.2; rw [hY] at this; exact this
      obtain ⟨c, t, rfl, hcd⟩ := dig_cons h1
      refine ⟨46 :: c :: t.takeWhile digB, t.dropWhile digB, .inr ⟨c, _, rfl, hcd, tw_all digB t⟩, ?_, ?_, rfl⟩
      · rw [hY, List.cons_append, List.cons_append, ← tw_split]
      · unfold numC
        rw [if_pos hp, hB, hY, List.tail_cons, List.dropWhile_cons, if_pos hcd]
    | false =>
      refine ⟨[], X.dropWhile digB, .inl rfl, rfl, ?_, rfl⟩
      unfold numC
      rw [if_neg (by rw [hp]; simp), hB]
  have hZv : Vals Z := by rw [← hC]; exact hv.suf (numC_suf s)
  obtain ⟨e, he, hZ, hE⟩ : ∃ e, ExpL e ∧ Z = e ++ numD s ∧ numE s = !e.isEmpty := by
    cases hp : numE s with
    | true =>
      have hp2 := hp
      unfold numE at hp2
      rw [hC] at hp2
      simp only [Bool.and_eq_true] at hp2
      have hb := hZv.pk 0
      rw [or_101 hb.1 hb.2] at hp2
      have hD : numD s = (Z.drop (numN s)).dropWhile digB := by
        unfold numD
        rw [if_pos hp, hC]
      have hc : pk Z 0 = 69 ∨ pk Z 0 = 101 := by simpa using hp2.1
      obtain ⟨c, Z1, rfl, hcc⟩ : ∃ c Z1, Z = c :: Z1 ∧ (c = 69 ∨ c = 101) := by
        rcases hc with h | h
        · obtain ⟨t, rfl⟩ := pk_head h (by decide)
          exact ⟨_, t, rfl, .inl rfl⟩
        · obtain ⟨t, rfl⟩ := pk_head h (by decide)
          exact ⟨_, t, rfl, .inr rfl⟩
      have hN : numN s = if (pk Z1 0 == 43 || pk Z1 0 == 45) = true then 2 else 1 := by
        unfold numN
        rw [hC]
        rfl
      by_cases hs2 : (pk Z1 0 == 43 || pk Z1 0 == 45) = true
      · rw [if_pos hs2] at hN
        rw [hN] at hD hp2
        have h43 : pk Z1 0 = 43 ∨ pk Z1 0 = 45 := by simpa using hs2
        obtain ⟨x, Z2, rfl, hx⟩ : ∃ x Z2, Z1 = x :: Z2 ∧ SgnL [x] := by
          rcases h43 with h | h
          · obtain ⟨t, rfl⟩ := pk_head h (by decide)
            exact ⟨_, t, rfl, .inr (.inl rfl)⟩
          · obtain ⟨t, rfl⟩ := pk_head h (by decide)
            exact ⟨_, t, rfl, .inr (.inr rfl)⟩
        obtain ⟨d, t, rfl, hd⟩ := dig_cons (s := Z2) hp2.2
        refine ⟨c :: ([x] ++ d :: t.takeWhile digB), .inr ⟨c, [x], d, _, rfl, hcc, hx, hd, tw_all digB t⟩, ?_, rfl⟩
        rw [hD]
        show c :: x :: d :: t = c :: ([x] ++ d :: t.takeWhile digB) ++ (d :: t).dropWhile digB
        rw [List.dropWhile_cons, if_pos hd]
        show c :: x :: d :: t = c :: x :: d :: (t.takeWhile digB ++ t.dropWhile digB)
        rw [← tw_split]
      · rw [if_neg hs2] at hN
        rw [hN] at hD hp2
        obtain ⟨d, t, rfl, hd⟩ := dig_cons (s := Z1) hp2.2
        refine ⟨c :: ([] ++ d :: t.takeWhile digB), .inr ⟨c, [], d, _, rfl, hcc, .inl rfl, hd, tw_all digB t⟩, ?_, rfl⟩
        rw [hD]
        show c :: d :: t = c :: ([] ++ d :: t.takeWhile digB) ++ (d :: t).dropWhile digB
        rw [List.dropWhile_cons, if_pos hd]
        show c :: d :: t = c :: d :: (t.takeWhile digB ++ t.dropWhile digB)
        rw [← tw_split]
    | false =>
      refine ⟨[], .inl rfl, ?_, rfl⟩
      unfold numD
      rw [if_neg (by rw [hp]; simp), hC]
      rfl
  refine ⟨sg, X.takeWhile digB, f, e, ⟨hsg, tw_all digB X, hf, he, fun ha => ?_⟩, ?_, ?_⟩
  · rintro rfl
    rcases hX with h | h
    · obtain ⟨c, t, rfl, hd⟩ := dig_cons h
      rw [List.takeWhile_cons, if_pos hd] at ha
      cases ha
    · have hp : numP s = false := hP
      have hXX : X.dropWhile digB = X := by rw [ha] at hXs; exact hXs.symm
      unfold numP at hp
      rw [hB, hXX, h.1, h.2] at hp
      cases hp
  · rw [← hZ, ← hY, ← hXs]
    exact hs
  · unfold numW
    rw [hE, hP]
    cases f <;> cases e <;> rfl
theorem sign_bytes : ∀ {p : List Int}, (∀ c ∈ p, 32 ≤ c ∧ c < 128) → ∃ P : List UInt8, P.map (fun x => (x.toNat : Int)) = p ∧ (∀ x ∈ P, 32 ≤ x.toNat ∧ x.toNat < 128) ∧ P.length = p.length
  | [], _ => ⟨[], rfl, (fun x h => absurd h List.not_mem_nil), rfl⟩
  | c :: t, h => by
    obtain ⟨P, h1, h2, h3⟩ := sign_bytes (p := t) (fun x hx => h x (List.mem_cons_of_mem _ hx))
    have hc := h c List.mem_cons_self
    have hb : (UInt8.ofNat c.toNat).toNat = c.toNat := by
      rw [UInt8.toNat_ofNat']
      omega
    refine ⟨UInt8.ofNat c.toNat :: P, ?_, fun x hx => ?_, by simp [h3]⟩
    · rw [List.map_cons, h1, hb, show ((c.toNat : Nat) : Int) = c by omega]
    · rcases List.mem_cons.1 hx with rfl | hx
      · rw [hb]; omega
      · exact h2 x hx
theorem num_chars {sg a f e : List Int} (h : NumL sg a f e) : ∀ c ∈ sg ++ (a ++ (f ++ e)), 32 ≤ c ∧ c < 128 := by
  have hs : ∀ {l : List Int}, SgnL l → ∀ c ∈ l, 32 ≤ c ∧ c < 128 := by
    intro l hl c hc
    rcases hl with rfl | rfl | rfl
    · cases hc
    · simp only [List.mem_singleton] at hc; omega
    · simp only [List.mem_singleton] at hc; omega
  have hd : ∀ {l : List Int}, Digs l → ∀ c ∈ l, 32 ≤ c ∧ c < 128 := by
    intro l hl c hc
    have := dig_pk (hl c hc)
    omega
  intro c hc
  rcases List.mem_append.1 hc with hc | hc
  · exact hs h.hs c hc
  rcases List.mem_append.1 hc with hc | hc
  · exact hd h.hd c hc
  rcases List.mem_append.1 hc with hc | hc
  · rcases h.hf with rfl | ⟨x, t, rfl, hx, ht⟩
    · cases hc
    · rcases List.mem_cons.1 hc with rfl | hc
      · omega
      · rcases List.mem_cons.1 hc with rfl | hc
        · have := dig_pk hx; omega
        · exact hd ht c hc
  · rcases h.he with rfl | ⟨x, s, d, t, rfl, hx, hss, hdd, ht⟩
    · cases hc
    · rcases List.mem_cons.1 hc with rfl | hc
      · omega
      · rcases List.mem_append.1 hc with hc | hc
        · exact hs hss c hc
        · rcases List.mem_cons.1 hc with rfl | hc
          · have := dig_pk hdd; omega
          · exact hd ht c hc
section
variable {sg a f e : List Int} (h : NumL sg a f e)
include h
theorem num_text : ∃ P : List UInt8, runesBytes (sg ++ (a ++ (f ++ e))) = ⟨P.toArray⟩ ∧ P.length = (sg ++ (a ++ (f ++ e))).length ∧ ∀ R : List UInt8, StopL (runN R 0) → cutS ⟨(P ++ R).toArray⟩ = (oneK (sg ++ (a ++ (f ++ (e ++ runN R 0))))).1 :: toksS (oneK (sg ++ (a ++ (f ++ (e ++ runN R 0))))).2 := by
  obtain ⟨P, h1, h2, h3⟩ := sign_bytes (num_chars h)
  refine ⟨P, ?_, h3, fun R hr => ?_⟩
  · rw [← h1]
    exact runesBytes_sign (fun x hx => (h2 x hx).2)
  · unfold cutS
    rw [runS_N]
    show toksS (runN (P ++ R) 0) = _
    have e1 : (sg ++ (a ++ (f ++ e))) ++ runN R 0 = sg ++ (a ++ (f ++ (e ++ runN R 0))) := by simp
    rw [runN_plain R P 0 (by decide) h2, h1, e1]
    have hc := num_com h hr
    exact toks_eq hc.2 hc.1
theorem back_num (hl : (sg ++ (a ++ (f ++ e))).length ≤ 100000) : Back ⟨10, runesBytes (sg ++ (a ++ (f ++ e))), ⟨#[]⟩, (f.isEmpty && e.isEmpty), false⟩ := by
  obtain ⟨P, h1, h2, h3⟩ := num_text h
  have hr : StopL (runN [] 0) := by rw [runN_nil]; unfold StopL; decide
  have hone := num_one h hr
  have h4 := h3 [] hr
  rw [List.append_nil] at h4
  rw [h1] at hone ⊢
  have hz := arr_size P
  refine ⟨⟨P.toArray⟩, fun k hk => ?_, by omega, ?_⟩
  · obtain ⟨k, rfl⟩ : ∃ i, k = i + 1 := ⟨k - 1, by omega⟩
    show token_Source.j0 (k + 1) 10 true 10 ⟨P.toArray⟩ ⟨#[]⟩ (f.isEmpty && e.isEmpty) false = _
    rw [token_Source.j0, if_pos rfl]
  · rw [h4, hone, runN_nil]
    rw [if_neg (by decide), if_neg (by decide), if_neg (by decide), if_neg (by decide)]
    rfl
theorem back_pct (hl : (sg ++ (a ++ (f ++ e))).length ≤ 100000) : Back ⟨11, runesBytes (sg ++ (a ++ (f ++ e))), ⟨#[]⟩, (f.isEmpty && e.isEmpty), false⟩ := by
  obtain ⟨P, h1, h2, h3⟩ := num_text h
  have e0 : runN [37] 0 = [37] := by
    rw [runN_ascii (by decide), if_neg (fun h => absurd h.2 (by decide)), runN_nil]
    rfl
  have hr : StopL (runN [37] 0) := by rw [e0]; unfold StopL; decide
  have hone := num_one h hr
  have h4 := h3 [37] hr
  rw [h1] at hone ⊢
  have hz := arr_size P
  have hz2 : (⟨(P ++ [37]).toArray⟩ : ByteArray).size = P.length + 1 := by show (P ++ [37]).length = _; simp
  refine ⟨⟨(P ++ [37]).toArray⟩, fun k hk => ?_, by omega, ?_⟩
  · obtain ⟨k, rfl⟩ : ∃ i, k = i + 1 := ⟨k - 1, by omega⟩
    show token_Source.j0 (k + 1) 11 false 11 ⟨P.toArray⟩ ⟨#[]⟩ (f.isEmpty && e.isEmpty) false = _
    rw [token_Source.j0, if_neg (by simp), if_pos rfl, if_pos (by omega)]
    rw [show (⟨P.toArray⟩ : ByteArray) ++ (⟨#[37]⟩ : ByteArray) = ⟨(P ++ [37]).toArray⟩ from app_eq P [37]]
  · rw [h4, hone, e0]
    rw [if_neg (by decide), if_pos (by decide), if_neg (by decide), if_pos (by decide)]
    rfl
theorem back_dim (hl : (sg ++ (a ++ (f ++ e))).length ≤ 100000) {S : ByteArray} (hS : S.size ≤ 100000) (hc : Clean S) (hne : S.data.toList ≠ []) : Back ⟨12, runesBytes (sg ++ (a ++ (f ++ e))), S, (f.isEmpty && e.isEmpty), false⟩ := by
  obtain ⟨P, h1, h2, h3⟩ := num_text h
  have hx := (clean_back hc).2
  have e0 : runN (unitT S) 0 = unitQ (decS S) := by
    have := unit_run hc hne []
    rwa [List.append_nil, runN_nil, List.append_nil] at this
  have hu := unit_stop (T := []) (by decide) (decS_ne hne) hx
  rw [List.append_nil] at hu
  have hn := name_unitQ (xs := decS S) [] hx
  rw [List.append_nil, nameS_nil, List.append_nil] at hn
  simp only at hn
  have hr : StopL (runN (unitT S) 0) := by rw [e0]; exact hu.1
  have hone := num_one h hr
  have h4 := h3 (unitT S) hr
  rw [h1] at hone ⊢
  have hz := arr_size P
  have hul := unitT_len S
  have hz3 := arr_size (unitT S)
  have hz2 : (⟨(P ++ unitT S).toArray⟩ : ByteArray).size = P.length + (unitT S).length := by show (P ++ unitT S).length = _; simp
  refine ⟨⟨(P ++ unitT S).toArray⟩, fun k hk => ?_, by omega, ?_⟩
  · obtain ⟨k, rfl⟩ : ∃ i, k = i + 1 := ⟨k - 1, by omega⟩
    show token_Source.j0 (k + 1) 12 false 12 ⟨P.toArray⟩ S (f.isEmpty && e.isEmpty) false = _
    rw [token_Source.j0, if_neg (by simp), if_neg (by decide), if_pos rfl, show token_unit.f S = some ⟨(unitT S).toArray⟩ from if_pos (by omega), Option.bind_some, if_pos (by omega), app_eq]
  · rw [h4, hone, e0]
    rw [if_pos hu.2, if_pos hu.2, hn, clean_strB hc]
    rfl
end
theorem sgn_le : ∀ c : Fin 128, sgn (c.val : Int) ≤ 8 := by decide +kernel
theorem sgn_max {c : Int} (h0 : 0 ≤ c) : sgn c ≤ 8 := by
  by_cases h : c < 128
  · have := sgn_le ⟨c.toNat, by omega⟩
    rwa [show ((c.toNat : Nat) : Int) = c by omega] at this
  · unfold sgn
    rw [if_neg h]
    decide
theorem way_part {s : List Int} (h : wayN s = 67) : pk s 0 = 35 ∧ hashB s = true := by
  unfold wayN at h
  repeat' split at h
  all_goals first | (exact absurd h (by decide)) | skip
  rename_i h1
  rw [Bool.and_eq_true, beq_iff_eq] at h1
  exact h1
theorem way_at {s : List Int} (h : wayN s = 74) : begB s 1 = true := by
  unfold wayN at h
  repeat' split at h
  all_goals first | (exact absurd h (by decide)) | skip
  rename_i h1
  rw [Bool.and_eq_true] at h1
  exact h1.2
theorem beg_tail {s : List Int} (h : begB s 1 = true) : begB s.tail 0 = true := by
  cases s with
  | nil => revert h; decide
  | cons c t => exact h
theorem back_tok {u : List Int} (hv : Vals u) (hl : u.length ≤ 5000) (hu : u ≠ []) (h6 : (oneK u).1.f0 ≠ 6) (h8 : (oneK u).1.f0 ≠ 8) (h7 : (oneK u).1.f0 ≠ 7) (h9 : (oneK u).1.f0 ≠ 9) (c1 : Clean (oneK u).1.f1) (c2 : Clean (oneK u).1.f2) (hurl : (oneK u).1.f0 = 2 → (foldS (oneK u).1.f1).toList ≠ [117, 114, 108]) : Back (oneK u).1 := by
  have htl : u.tail.length ≤ 5000 := by rw [List.length_tail]; omega
  have hn1 := nameS_len u
  have hn2 := nameS_len u.tail
  have hz1 := strB_size (nameS u).1
  have hz2 := strB_size (nameS u.tail).1
  rcases wayN_cases u with e | e | e | e | e | e | e | e | e
  all_goals
    have e1 : (oneK u).1 = (oneK u).1 := rfl
    conv at e1 => rhs; unfold oneK
    simp only [e] at e1
    simp only [reduceIte, Nat.reduceEqDiff] at e1
    rw [e1] at h6 h8 h7 h9 c1 c2 hurl ⊢
  · exact back_kd (by decide)
  · unfold quotK at h6 c1 ⊢
    by_cases hq : (quotS (pk u 0) u.tail).1 = true
    · rw [if_pos hq] at h6
      exact absurd rfl h6
    · rw [if_neg hq] at c1 ⊢
      have ho := quotL_out (pk u 0) u.tail.length u.tail
      have hz := strB_size (quotS (pk u 0) u.tail).2.1
      exact back_str _ (by unfold quotS at hz ⊢; omega) c1
  · obtain ⟨h35, hh⟩ := way_part e
    obtain ⟨t, rfl⟩ := pk_head h35 (by decide)
    simp only [List.tail_cons] at *
    cases hb : begB t 0 with
    | true =>
      exact back_hash _ (by omega) c1 (strB_ne (name_ne hb))
    | false =>
      have hp : partB (pk t 0) = true := by
        unfold hashB at hh
        rw [show escB (35 :: t) 1 = escB t 0 from rfl, show pk (35 :: t) 1 = pk t 0 from rfl] at hh
        simp only [Bool.or_eq_true, Bool.and_eq_true] at hh
        rcases hh with hh | hh
        · exfalso
          have h92 : pk t 0 = 92 := by
            unfold escB at hh
            simp only [Bool.and_eq_true, beq_iff_eq] at hh
            exact hh.1
          unfold begB at hb
          rw [if_neg (by omega), hh] at hb
          simp at hb
        · exact hh.2
      obtain ⟨hne, hf1, hf2⟩ := hash0_first hb hp
      have hd := decS_strB (name_vals (hv.suf (List.suffix_cons 35 t)))
      exact back_hash0 _ (by omega) c1 (by rw [hd]; exact hf1) (by rw [hd]; exact hf2)
  · obtain ⟨sg, a, f, x, hN, hs, hW⟩ := num_split hv (way_cnt e)
    have hX : numX u = sg ++ (a ++ (f ++ x)) := by
      unfold numX
      have e2 : sg ++ (a ++ (f ++ (x ++ numD u))) = (sg ++ (a ++ (f ++ x))) ++ numD u := by simp
      have e3 : u.length - (numD u).length = (sg ++ (a ++ (f ++ x))).length := by
        have := congrArg List.length hs
        rw [e2, List.length_append] at this
        omega
      rw [e3]
      conv => lhs; rw [hs, e2]
      rw [List.take_left]
    have hXl : (sg ++ (a ++ (f ++ x))).length ≤ 100000 := by
      rw [← hX]
      unfold numX
      rw [List.length_take]
      omega
    unfold numK at c2 ⊢
    rw [hX, hW] at c2 ⊢
    by_cases hb : begB (numD u) 0 = true
    · rw [if_pos hb] at c2 ⊢
      have hn3 := nameS_len (numD u)
      have hn4 := (numD_suf u).length_le
      have hz3 := strB_size (nameS (numD u)).1
      exact back_dim hN hXl (by omega) c2 (strB_ne (name_ne hb))
    · rw [if_neg hb]
      by_cases h37 : pk (numD u) 0 = 37
      · rw [if_pos h37]; exact back_pct hN hXl
      · rw [if_neg h37]; exact back_num hN hXl
  · exact back_kd (by decide)
  · exact back_kd (by decide)
  · have hb := way_beg e
    unfold wordK at h8 h7 c1 hurl ⊢
    by_cases h40 : pk (nameS u).2 0 ≠ 40
    · rw [if_pos h40] at c1 ⊢
      exact back_ident _ (by omega) c1 (strB_ne (name_ne hb))
    · rw [if_neg h40] at h8 h7 c1 hurl ⊢
      by_cases hur : urlB u = true
      · rw [if_pos hur] at h8 h7
        unfold urlK at h8 h7
        by_cases hq : (urlS ((nameS u).2.tail.dropWhile blankB)).1 = true
        · rw [if_pos hq] at h8
          exact absurd rfl h8
        · rw [if_neg hq] at h7
          exact absurd rfl h7
      · rw [if_neg hur] at c1 hurl ⊢
        exact back_fun _ (by omega) c1 (strB_ne (name_ne hb)) (hurl rfl)
  · exact back_at _ (by omega) c1 (strB_ne (name_ne (beg_tail (way_at e))))
  · unfold signK at h9 ⊢
    by_cases h0 : 0 ≤ sgn (pk u 0)
    · rw [if_pos h0]
      have hp : 0 ≤ pk u 0 := by
        cases u with
        | nil => exact absurd rfl hu
        | cons c t => exact (hv c List.mem_cons_self).1
      have := sgn_max hp
      exact back_kd (by omega)
    · rw [if_neg h0] at h9
      exact absurd rfl h9
theorem comL_suf : ∀ (n : Nat) (s : List Int), comL n s <:+ s
  | 0, s => List.suffix_rfl
  | n + 1, [] => List.suffix_rfl
  | n + 1, c :: t => by
    have := comL_suf n t
    unfold comL
    split
    · exact (List.drop_suffix 1 t).trans (List.suffix_cons c t)
    · exact this.trans (List.suffix_cons c t)
theorem tok_from : ∀ (n : Nat) (s : List Int), s.length ≤ n → ∀ t ∈ toksS s, ∃ u, u ≠ [] ∧ u <:+ s ∧ t = (oneK u).1
  | n, [], _, t, h => by rw [toksS_nil] at h; cases h
  | 0, c :: v, hn, _, _ => by cases hn
  | n + 1, c :: v, hn, t, h => by
    have hlt := oneK_lt c v
    have hcl : (comS (v.drop 1)).length ≤ v.length := Nat.le_trans (comL_len _ _) (by rw [List.length_drop]; omega)
    rw [List.length_cons] at hn
    rw [toksS_unf] at h
    split at h
    · obtain ⟨u, h1, h2, h3⟩ := tok_from n _ (by omega) t h
      exact ⟨u, h1, ((h2.trans (comL_suf _ _)).trans (List.drop_suffix _ _)).trans (List.suffix_cons c v), h3⟩
    · rcases List.mem_cons.1 h with rfl | h
      · exact ⟨c :: v, by simp, List.suffix_rfl, rfl⟩
      · obtain ⟨u, h1, h2, h3⟩ := tok_from n _ (by omega) t h
        exact ⟨u, h1, h2.trans (oneK_suf _), h3⟩
def TokB (t : S26) : Prop := t.f1.size ≤ 100000000 ∧ (t.f0 ≠ 6 → t.f0 ≠ 8 → t.f0 ≠ 7 → t.f0 ≠ 9 → Clean t.f1 → Clean t.f2 → (t.f0 = 2 → (foldS t.f1).toList ≠ [117, 114, 108]) → Back t)
theorem back_loop (l : List S26) (hl : l.length ≤ 1000000) (hT : ∀ t ∈ l, TokB t) : ∀ (m i k : Nat), i + m = l.length → 3 * m + 5 ≤ k → gouachelaw02_TokenBack.l0 k l l.length i = some true
  | m, i, 0, _, hk => by omega
  | 0, i, k + 1, hi, hk => by
    rw [gouachelaw02_TokenBack.l0, if_neg (by omega), lives_true, Option.bind_some]
  | m + 1, i, k + 1, hi, hk => by
    have hlt : i < l.length := by omega
    obtain ⟨hsz, hB⟩ := hT _ (List.getElem_mem hlt)
    have hw : wrap64 ((i : Int) + 1) = ((i + 1 : Nat) : Int) := by rw [w64s (by omega) (by omega)]; omega
    obtain ⟨k, rfl⟩ : ∃ j, k = j + 2 := ⟨k - 2, by omega⟩
    have n1 := back_loop l hl hT m (i + 1) (k + 1) (by omega) (by omega)
    have n0 := back_loop l hl hT m (i + 1) k (by omega) (by omega)
    rw [gouachelaw02_TokenBack.l0, if_pos (by omega), if_pos (by omega), if_pos (by omega), rd26_at l i hlt]
    generalize l[i] = t at hsz hB
    have jt : gouachelaw02_TokenBack.j1 (k + 2) l l.length i true t.f0 t.f1 t.f2 t.f3 t.f4 = some true := by
      rw [gouachelaw02_TokenBack.j1, if_pos rfl, hw, n1]
    by_cases h6 : t.f0 = 6
    · rw [if_pos h6, jt]
    rw [if_neg h6]
    by_cases h8 : t.f0 = 8
    · rw [if_pos h8, jt]
    rw [if_neg h8]
    by_cases h7 : t.f0 = 7
    · rw [if_pos h7, jt]
    rw [if_neg h7]
    by_cases h9 : t.f0 = 9
    · rw [if_pos h9, jt]
    rw [if_neg h9]
    unfold gouachelaw02_clean.f
    rw [Option.bind_some]
    cases hc1 : cleanB t.f1 with
    | false => rw [if_neg (by simp), jt]
    | true =>
      rw [if_pos rfl, Option.bind_some]
      cases hc2 : cleanB t.f2 with
      | false => exact jt
      | true =>
        have hB2 := hB h6 h8 h7 h9 (clean_of hc1) (clean_of hc2)
        have j2t : gouachelaw02_TokenBack.j2 (k + 1) l l.length i true t.f0 t.f1 t.f2 t.f3 t.f4 = some true := by
          rw [gouachelaw02_TokenBack.j2, if_pos rfl, hw, n0]
        have j2f : Back t → gouachelaw02_TokenBack.j2 (k + 1) l l.length i false t.f0 t.f1 t.f2 t.f3 t.f4 = some true := by
          rintro ⟨E, hE, hz, hcut⟩
          rw [gouachelaw02_TokenBack.j2, if_neg (by simp), hE k (by omega), Option.bind_some, cut_f _ hz, Option.bind_some, hcut, if_pos (by simp), if_pos (by simp), if_neg (by simp [rd_one]), hw, n0]
        show gouachelaw02_TokenBack.j1 (k + 2) l l.length i false t.f0 t.f1 t.f2 t.f3 t.f4 = some true
        rw [gouachelaw02_TokenBack.j1, if_neg (by simp)]
        by_cases h2 : t.f0 = 2
        · rw [if_pos h2, show text_Fold.f t.f1 = some (foldS t.f1) from if_pos (by omega), Option.bind_some]
          cases hf : ((foldS t.f1).toList == ([117, 114, 108] : List UInt8)) with
          | true => exact j2t
          | false => exact j2f (hB2 (fun _ e => by rw [e] at hf; cases hf))
        · rw [if_neg h2]
          exact j2f (hB2 (fun e => absurd e h2))
theorem quot_size (u : List Int) : (quotK (pk u 0) u.tail).f1.size ≤ 4 * u.length := by
  have ho := quotL_out (pk u 0) u.tail.length u.tail
  have hz := strB_size (quotS (pk u 0) u.tail).2.1
  rw [List.length_tail] at ho
  unfold quotK
  split
  · exact Nat.zero_le _
  · show (strB (quotS (pk u 0) u.tail).2.1).size ≤ _
    unfold quotS at hz ⊢
    rw [List.length_tail] at hz ⊢
    omega
theorem urlL_out : ∀ (n : Nat) (s : List Int), (urlL n s).2.1.length ≤ s.length
  | 0, s => Nat.zero_le _
  | n + 1, [] => Nat.zero_le _
  | n + 1, c :: t => by
    have h1 := urlL_out n t
    have h2 := urlL_out n (escd (c :: t)).2
    have h3 := urlL_out n (t.dropWhile blankB)
    have h4 := escd_len c t
    have h5 := dropW_len blankB t
    unfold urlL
    rw [List.length_cons]
    split
    · simp
    · split
      · split
        · simp
        · omega
      · split
        · simp only [List.length_cons]; omega
        · split
          · simp
          · simp only [List.length_cons]; omega
theorem runesBytes_size : ∀ (l : List Int) (acc : ByteArray), (l.foldl (fun r n => r ++ Utf8.encode n) acc).size ≤ acc.size + 4 * l.length
  | [], acc => Nat.le_refl _
  | c :: t, acc => by
    have h := runesBytes_size t (acc ++ Utf8.encode c)
    have he : (Utf8.encode c).size ≤ 4 := by
      unfold Utf8.encode
      simp only
      repeat' split
      all_goals first | (show (1 : Nat) ≤ 4; decide) | (show (2 : Nat) ≤ 4; decide) | (show (3 : Nat) ≤ 4; decide) | (show (4 : Nat) ≤ 4; decide)
    rw [ByteArray.size_append] at h
    rw [List.foldl_cons, List.length_cons]
    omega
theorem one_size (u : List Int) (hu : u ≠ []) (h0 : Vals u) : (oneK u).1.f1.size ≤ 4 * u.length + 4 := by
  have hn1 := nameS_len u
  have hn2 := nameS_len u.tail
  have hz1 := strB_size (nameS u).1
  have hz2 := strB_size (nameS u.tail).1
  rw [List.length_tail] at hn2
  rcases wayN_cases u with e | e | e | e | e | e | e | e | e
  all_goals unfold oneK
  all_goals simp only [e]
  all_goals simp only [reduceIte, Nat.reduceEqDiff]
  · exact Nat.zero_le _
  · have := quot_size u; omega
  · omega
  · have hr := runesBytes_size (numX u) ByteArray.empty
    have hx : (numX u).length ≤ u.length := by unfold numX; rw [List.length_take]; omega
    have hr2 : (runesBytes (numX u)).size ≤ 4 * (numX u).length := by unfold runesBytes; simpa using hr
    unfold numK
    split
    · show (runesBytes (numX u)).size ≤ _; omega
    · split
      · show (runesBytes (numX u)).size ≤ _; omega
      · show (runesBytes (numX u)).size ≤ _; omega
  · exact Nat.zero_le _
  · exact Nat.zero_le _
  · unfold wordK
    split
    · show (strB (nameS u).1).size ≤ _; omega
    · split
      · unfold urlK
        split
        · exact Nat.zero_le _
        · have ho := urlL_out ((nameS u).2.tail.dropWhile blankB).length ((nameS u).2.tail.dropWhile blankB)
          have hz := strB_size (urlS ((nameS u).2.tail.dropWhile blankB)).2.1
          have h1 := dropW_len blankB (nameS u).2.tail
          have h2 := (nameS_suf u).length_le
          rw [List.length_tail] at h1
          show (strB (urlS ((nameS u).2.tail.dropWhile blankB)).2.1).size ≤ _
          unfold urlS at hz ⊢
          omega
      · show (strB (nameS u).1).size ≤ _; omega
  · show (strB (nameS u.tail).1).size ≤ _; omega
  · unfold signK
    split
    · exact Nat.zero_le _
    · show (Utf8.encode (pk u 0)).size ≤ _
      have he : (Utf8.encode (pk u 0)).size ≤ 4 := by
        unfold Utf8.encode
        simp only
        repeat' split
        all_goals first | (show (1 : Nat) ≤ 4; decide) | (show (2 : Nat) ≤ 4; decide) | (show (3 : Nat) ≤ 4; decide) | (show (4 : Nat) ≤ 4; decide)
      omega
theorem back_true (S : ByteArray) : ∃ k, gouachelaw02_TokenBack.f k S = some true := by
  refine ⟨3 * (cutS S).length + 5, ?_⟩
  unfold gouachelaw02_TokenBack.f
  by_cases hs : (S.size : Int) > 2000
  · rw [if_pos hs, lives_true, Option.bind_some]
  · rw [if_neg hs, cut_f S (by omega), Option.bind_some]
    have hl := cutS_len S
    have hrl : (runS S).length ≤ 2001 := by
      have := runL_len S (S.size + 1) 0 0
      unfold runS
      omega
    refine back_loop (cutS S) (by omega) (fun t ht => ?_) (cutS S).length 0 _ (by omega) (by omega)
    obtain ⟨u, h1, h2, rfl⟩ := tok_from _ _ (Nat.le_refl _) t ht
    have hul := h2.length_le
    have hv := (run_vals S).suf h2
    have hz := one_size u h1 hv
    exact ⟨by omega, fun h6 h8 h7 h9 c1 c2 hurl => back_tok hv (by omega) h1 h6 h8 h7 h9 c1 c2 hurl⟩
end Go.Proofs.YtpnlbmeeihbjaabDoor.P
end
