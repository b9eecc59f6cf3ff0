/- Chapter 10 (times): what is written is read again (no walk here). -/
import Derived.Test.YtbncjjobdipmgaaDoorWs
namespace Go.Proofs.YtbncjjobdipmgaaDoor
open Go.RowKit Pl

theorem ch_nat {k : Int} (h0 : 0 ≤ k) (h1 : k ≤ 9) : ((ch k).toNat : Int) = 48 + k := by
  unfold ch
  have : (UInt8.ofNat (48 + k.toNat)).toNat = 48 + k.toNat := by
    rw [UInt8.toNat_ofNat']
    omega
  rw [this]; omega
theorem numA_ch {k n : Int} {r : List UInt8} (h0 : 0 ≤ k) (h1 : k ≤ 9) : numA (ch k :: r) n = numA r (10 * n + k) := by
  rw [numA_good (by rw [ch_nat h0 h1]; omega) (by rw [ch_nat h0 h1]; omega), ch_nat h0 h1]
  congr 1; omega
theorem rd_dg2 (n : Int) (h0 : 0 ≤ n) (h1 : n ≤ 99) (r : List UInt8) : rdv 2 (dg 2 n ++ r) = n ∧ rdr 2 (dg 2 n ++ r) = r := by
  have hv : rdv 2 (dg 2 n ++ r) = n := by
    rw [dg2 n h0 h1]
    unfold rdv
    rw [if_neg (by simp)]
    show numA [ch (n / 10), ch (n % 10)] 0 = n
    rw [numA_ch (by omega) (by omega), numA_ch (by omega) (by omega)]
    show 10 * (10 * 0 + n / 10) + n % 10 = n
    omega
  refine ⟨hv, ?_⟩
  unfold rdr
  rw [hv, if_neg (by omega), dg2 n h0 h1]; rfl
theorem rd_dg4 (n : Int) (h0 : 0 ≤ n) (h1 : n ≤ 9999) (r : List UInt8) : rdv 4 (dg 4 n ++ r) = n ∧ rdr 4 (dg 4 n ++ r) = r := by
  have hv : rdv 4 (dg 4 n ++ r) = n := by
    rw [dg4 n h0 h1]
    unfold rdv
    rw [if_neg (by simp)]
    show numA [ch (n / 1000), ch (n / 100 % 10), ch (n / 10 % 10), ch (n % 10)] 0 = n
    rw [numA_ch (by omega) (by omega), numA_ch (by omega) (by omega), numA_ch (by omega) (by omega), numA_ch (by omega) (by omega)]
    show 10 * (10 * (10 * (10 * 0 + n / 1000) + n / 100 % 10) + n / 10 % 10) + n % 10 = n
    omega
  refine ⟨hv, ?_⟩
  unfold rdr
  rw [hv, if_neg (by omega), dg4 n h0 h1]; rfl
theorem mst_cons (c : UInt8) (r : List UInt8) : mst c (c :: r) = true ∧ msr c (c :: r) = r := by
  constructor
  · show (c == c) = true; simp
  · show (if c == c then r else c :: r) = r; simp
theorem dg2_len (n : Int) (h0 : 0 ≤ n) (h1 : n ≤ 99) : (dg 2 n).length = 2 := by rw [dg2 n h0 h1]; rfl
theorem dg4_len (n : Int) (h0 : 0 ≤ n) (h1 : n ≤ 9999) : (dg 4 n).length = 4 := by rw [dg4 n h0 h1]; rfl

/-- Five numbers of two digits and a Z. -/
def five5 (mo d h mi s : Int) : List UInt8 := dg 2 mo ++ (dg 2 d ++ (dg 2 h ++ (dg 2 mi ++ (dg 2 s ++ [90]))))
theorem lk_five (mo d h mi s : Int) (a0 : 0 ≤ mo) (a1 : mo ≤ 99) (b0 : 0 ≤ d) (b1 : d ≤ 99) (c0 : 0 ≤ h) (c1 : h ≤ 99) (d0 : 0 ≤ mi) (d1 : mi ≤ 99) (e0 : 0 ≤ s) (e1 : s ≤ 99) :
    vk (five5 mo d h mi s) 0 = mo ∧ vk (five5 mo d h mi s) 1 = d ∧ vk (five5 mo d h mi s) 2 = h ∧ vk (five5 mo d h mi s) 3 = mi ∧ vk (five5 mo d h mi s) 4 = s ∧ lk (five5 mo d h mi s) 5 = [90] := by
  have l1 : lk (five5 mo d h mi s) 1 = dg 2 d ++ (dg 2 h ++ (dg 2 mi ++ (dg 2 s ++ [90]))) := (rd_dg2 mo a0 a1 _).2
  have l2 : lk (five5 mo d h mi s) 2 = dg 2 h ++ (dg 2 mi ++ (dg 2 s ++ [90])) := by show rdr 2 (lk _ 1) = _; rw [l1]; exact (rd_dg2 d b0 b1 _).2
  have l3 : lk (five5 mo d h mi s) 3 = dg 2 mi ++ (dg 2 s ++ [90]) := by show rdr 2 (lk _ 2) = _; rw [l2]; exact (rd_dg2 h c0 c1 _).2
  have l4 : lk (five5 mo d h mi s) 4 = dg 2 s ++ [90] := by show rdr 2 (lk _ 3) = _; rw [l3]; exact (rd_dg2 mi d0 d1 _).2
  refine ⟨(rd_dg2 mo a0 a1 _).1, ?_, ?_, ?_, ?_, ?_⟩
  · show rdv 2 (lk _ 1) = _; rw [l1]; exact (rd_dg2 d b0 b1 _).1
  · show rdv 2 (lk _ 2) = _; rw [l2]; exact (rd_dg2 h c0 c1 _).1
  · show rdv 2 (lk _ 3) = _; rw [l3]; exact (rd_dg2 mi d0 d1 _).1
  · show rdv 2 (lk _ 4) = _; rw [l4]; exact (rd_dg2 s e0 e1 _).1
  · show rdr 2 (lk _ 4) = _; rw [l4]; exact (rd_dg2 s e0 e1 _).2
theorem five_len (mo d h mi s : Int) (a0 : 0 ≤ mo) (a1 : mo ≤ 99) (b0 : 0 ≤ d) (b1 : d ≤ 99) (c0 : 0 ≤ h) (c1 : h ≤ 99) (d0 : 0 ≤ mi) (d1 : mi ≤ 99) (e0 : 0 ≤ s) (e1 : s ≤ 99) : (five5 mo d h mi s).length = 11 := by
  unfold five5
  simp [dg2_len mo a0 a1, dg2_len d b0 b1, dg2_len h c0 c1, dg2_len mi d0 d1, dg2_len s e0 e1]
theorem elL_eq (y mo d h mi s : Int) : elL y mo d h mi s = (if 1950 ≤ y ∧ y ≤ 2049 then (dg 4 y).drop 2 else dg 4 y) ++ five5 mo d h mi s := by
  unfold elL ek five5
  simp only [List.append_assoc]
theorem drop_dg' (y : Int) (h0 : 0 ≤ y) (h1 : y ≤ 9999) : (dg 4 y).drop 2 = dg 2 (y % 100) := by
  rw [dg4 y h0 h1, dg2 (y % 100) (by omega) (by omega)]
  rw [show y % 100 / 10 = y / 10 % 10 by omega, show y % 100 % 10 = y % 10 by omega]; rfl

theorem of_elem (y mo d h mi s : Int) (hk : okB y mo d h mi s = true) : ofF (elNum y) (elL y mo d h mi s) = (⟨y, mo, d, h, mi, s⟩, 0) ∧ ofF (47 - elNum y) (elL y mo d h mi s) = (Tm.zero, 11) := by
  obtain ⟨b0, b1, b2, b3, b4, _, b5, b6, b7, b8, b9, b10, b11⟩ := okB_bounds hk
  obtain ⟨v0, v1, v2, v3, v4, l5⟩ := lk_five mo d h mi s (by omega) (by omega) (by omega) (by omega) (by omega) (by omega) (by omega) (by omega) (by omega) (by omega)
  have hl := five_len mo d h mi s (by omega) (by omega) (by omega) (by omega) (by omega) (by omega) (by omega) (by omega) (by omega) (by omega)
  rw [elL_eq]
  unfold elNum
  by_cases hu : 1950 ≤ y ∧ y ≤ 2049
  · rw [if_pos hu, if_pos hu, drop_dg' y b0 b1]
    have hlen : (dg 2 (y % 100) ++ five5 mo d h mi s).length = 13 := by rw [List.length_append, hl, dg2_len _ (by omega) (by omega)]
    constructor
    · show ofU _ = _
      unfold ofU
      obtain ⟨e1, e2⟩ := rd_dg2 (y % 100) (by omega) (by omega) (five5 mo d h mi s)
      rw [e1, e2]
      have ha : adj (y % 100) = y := by
        unfold adj
        rw [if_neg (by omega)]
        split <;> omega
      rw [ha]
      unfold ofG
      rw [v0, v1, v2, v3, v4, l5, if_pos ⟨hlen, rfl, hk, by simp⟩]
    · show ofN _ = _
      unfold ofN ofG
      rw [if_neg (by rw [hlen]; simp)]
  · rw [if_neg hu, if_neg hu]
    have hlen : (dg 4 y ++ five5 mo d h mi s).length = 15 := by rw [List.length_append, hl, dg4_len _ b0 b1]
    constructor
    · show ofN _ = _
      unfold ofN
      obtain ⟨e1, e2⟩ := rd_dg4 y b0 b1 (five5 mo d h mi s)
      rw [e1, e2]
      unfold ofG
      rw [v0, v1, v2, v3, v4, l5, if_pos ⟨hlen, rfl, hk, fun h => hu h.2⟩]
    · show ofU _ = _
      unfold ofU ofG
      rw [if_neg (by rw [hlen]; simp)]

/-- A text behind the year. -/
def text5 (mo d h mi s : Int) : List UInt8 := dg 2 mo ++ (45 :: (dg 2 d ++ (84 :: (dg 2 h ++ (58 :: (dg 2 mi ++ (58 :: (dg 2 s ++ [90]))))))))
theorem textL_eq (y mo d h mi s : Int) : textL y mo d h mi s = dg 4 y ++ (45 :: text5 mo d h mi s) := by
  unfold textL text5
  simp only [List.append_assoc, List.cons_append, List.nil_append]
theorem parse_text (y mo d h mi s : Int) (hk : okB y mo d h mi s = true) : parseF (textL y mo d h mi s) = (⟨y, mo, d, h, mi, s⟩, 0) := by
  obtain ⟨b0, b1, b2, b3, b4, _, b5, b6, b7, b8, b9, b10, b11⟩ := okB_bounds hk
  rw [textL_eq]
  unfold parseF
  obtain ⟨e1, e2⟩ := rd_dg4 y b0 b1 (45 :: text5 mo d h mi s)
  obtain ⟨e3, e4⟩ := mst_cons 45 (text5 mo d h mi s)
  rw [e1, e2, e3, e4]
  have r0 := rd_dg2 mo (by omega) (by omega) (45 :: (dg 2 d ++ (84 :: (dg 2 h ++ (58 :: (dg 2 mi ++ (58 :: (dg 2 s ++ [90]))))))))
  have r1 := rd_dg2 d (by omega) (by omega) (84 :: (dg 2 h ++ (58 :: (dg 2 mi ++ (58 :: (dg 2 s ++ [90]))))))
  have r2 := rd_dg2 h (by omega) (by omega) (58 :: (dg 2 mi ++ (58 :: (dg 2 s ++ [90]))))
  have r3 := rd_dg2 mi (by omega) (by omega) (58 :: (dg 2 s ++ [90]))
  have r4 := rd_dg2 s (by omega) (by omega) [90]
  have p1 : pk (text5 mo d h mi s) 1 = dg 2 d ++ (84 :: (dg 2 h ++ (58 :: (dg 2 mi ++ (58 :: (dg 2 s ++ [90])))))) := by show msr 45 (rdr 2 (text5 mo d h mi s)) = _; unfold text5; rw [r0.2]; exact (mst_cons _ _).2
  have p2 : pk (text5 mo d h mi s) 2 = dg 2 h ++ (58 :: (dg 2 mi ++ (58 :: (dg 2 s ++ [90])))) := by show msr 84 (rdr 2 (pk _ 1)) = _; rw [p1, r1.2]; exact (mst_cons _ _).2
  have p3 : pk (text5 mo d h mi s) 3 = dg 2 mi ++ (58 :: (dg 2 s ++ [90])) := by show msr 58 (rdr 2 (pk _ 2)) = _; rw [p2, r2.2]; exact (mst_cons _ _).2
  have p4 : pk (text5 mo d h mi s) 4 = dg 2 s ++ [90] := by show msr 58 (rdr 2 (pk _ 3)) = _; rw [p3, r3.2]; exact (mst_cons _ _).2
  have o1 : okk true (text5 mo d h mi s) 1 = true := okk_t (by show mst 45 (rdr 2 (text5 mo d h mi s)) = true; unfold text5; rw [r0.2]; exact (mst_cons _ _).1)
  have o2 : okk true (text5 mo d h mi s) 2 = true := (okk_t (by show mst 84 (rdr 2 (pk _ 1)) = true; rw [p1, r1.2]; exact (mst_cons _ _).1)).trans o1
  have o3 : okk true (text5 mo d h mi s) 3 = true := (okk_t (by show mst 58 (rdr 2 (pk _ 2)) = true; rw [p2, r2.2]; exact (mst_cons _ _).1)).trans o2
  have o4 : okk true (text5 mo d h mi s) 4 = true := (okk_t (by show mst 58 (rdr 2 (pk _ 3)) = true; rw [p3, r3.2]; exact (mst_cons _ _).1)).trans o3
  have o5 : okk true (text5 mo d h mi s) 5 = true := (okk_t (by show mst 90 (rdr 2 (pk _ 4)) = true; rw [p4, r4.2]; exact (mst_cons _ _).1)).trans o4
  have u0 : uk (text5 mo d h mi s) 0 = mo := r0.1
  have u1 : uk (text5 mo d h mi s) 1 = d := by show rdv 2 (pk _ 1) = _; rw [p1]; exact r1.1
  have u2 : uk (text5 mo d h mi s) 2 = h := by show rdv 2 (pk _ 2) = _; rw [p2]; exact r2.1
  have u3 : uk (text5 mo d h mi s) 3 = mi := by show rdv 2 (pk _ 3) = _; rw [p3]; exact r3.1
  have u4 : uk (text5 mo d h mi s) 4 = s := by show rdv 2 (pk _ 4) = _; rw [p4]; exact r4.1
  unfold parseG
  have hlen : (dg 4 y ++ 45 :: text5 mo d h mi s).length = 20 := by
    rw [List.length_append, dg4_len y b0 b1]
    unfold text5
    simp [dg2_len mo (by omega) (by omega), dg2_len d (by omega) (by omega), dg2_len h b6 (by omega), dg2_len mi b8 (by omega), dg2_len s b10 (by omega)]
  rw [u0, u1, u2, u3, u4, if_pos ⟨o5, hlen, hk⟩]
end Go.Proofs.YtbncjjobdipmgaaDoor
