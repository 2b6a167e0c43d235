import PyProof.Rows.All
import Wide.All
import OpenK.AllK
import Wide.FinOn
import Lean
import PySem.Challenge.RW_k14_0005
open PySem PySem.W PyProof.Rows
set_option Elab.async false
namespace Mine
theorem fm (x : Int) : 0 ≤ x.fmod 256 ∧ x.fmod 256 < 256 := by
  rw [Int.fmod_eq_emod_of_nonneg _ (by decide)]; omega
theorem enc5a (a b c d : Int) (ha : 0 ≤ a ∧ a < 256) (hb : 0 ≤ b ∧ b < 256) (hc : 0 ≤ c ∧ c < 256) (hd : 0 ≤ d ∧ d < 256) :
    ((a * 16777216 + b * 65536 + c * 256 + d).fdiv 16777216).fmod 256 = a ∧ ((a * 16777216 + b * 65536 + c * 256 + d).fdiv 65536).fmod 256 = b ∧
    ((a * 16777216 + b * 65536 + c * 256 + d).fdiv 256).fmod 256 = c ∧ (a * 16777216 + b * 65536 + c * 256 + d).fmod 256 = d := by
  simp only [Int.fmod_eq_emod_of_nonneg _ (show (0:Int) ≤ 256 by decide), Int.fdiv_eq_ediv_of_nonneg _ (show (0:Int) ≤ 256 by decide), Int.fdiv_eq_ediv_of_nonneg _ (show (0:Int) ≤ 65536 by decide), Int.fdiv_eq_ediv_of_nonneg _ (show (0:Int) ≤ 16777216 by decide)]
  omega
theorem enc5 (ns : List Int) : [1,
    (((List.map (fun k' => (cellAt ns k' 0).fmod 256) (rangeKs 1 ((5 : Int) - 1).toNat)).getD (Int.toNat 0) 0 * 16777216 +
                  (List.map (fun k' => (cellAt ns k' 0).fmod 256) (rangeKs 1 ((5 : Int) - 1).toNat)).getD (Int.toNat 1) 0 *
                    65536 +
                (List.map (fun k' => (cellAt ns k' 0).fmod 256) (rangeKs 1 ((5 : Int) - 1).toNat)).getD (Int.toNat 2) 0 * 256 +
              (List.map (fun k' => (cellAt ns k' 0).fmod 256) (rangeKs 1 ((5 : Int) - 1).toNat)).getD (Int.toNat 3) 0).fdiv
          16777216).fmod
      256,
    (((List.map (fun k' => (cellAt ns k' 0).fmod 256) (rangeKs 1 ((5 : Int) - 1).toNat)).getD (Int.toNat 0) 0 * 16777216 +
                  (List.map (fun k' => (cellAt ns k' 0).fmod 256) (rangeKs 1 ((5 : Int) - 1).toNat)).getD (Int.toNat 1) 0 *
                    65536 +
                (List.map (fun k' => (cellAt ns k' 0).fmod 256) (rangeKs 1 ((5 : Int) - 1).toNat)).getD (Int.toNat 2) 0 * 256 +
              (List.map (fun k' => (cellAt ns k' 0).fmod 256) (rangeKs 1 ((5 : Int) - 1).toNat)).getD (Int.toNat 3) 0).fdiv
          65536).fmod
      256,
    (((List.map (fun k' => (cellAt ns k' 0).fmod 256) (rangeKs 1 ((5 : Int) - 1).toNat)).getD (Int.toNat 0) 0 * 16777216 +
                  (List.map (fun k' => (cellAt ns k' 0).fmod 256) (rangeKs 1 ((5 : Int) - 1).toNat)).getD (Int.toNat 1) 0 *
                    65536 +
                (List.map (fun k' => (cellAt ns k' 0).fmod 256) (rangeKs 1 ((5 : Int) - 1).toNat)).getD (Int.toNat 2) 0 * 256 +
              (List.map (fun k' => (cellAt ns k' 0).fmod 256) (rangeKs 1 ((5 : Int) - 1).toNat)).getD (Int.toNat 3) 0).fdiv
          256).fmod
      256,
    ((List.map (fun k' => (cellAt ns k' 0).fmod 256) (rangeKs 1 ((5 : Int) - 1).toNat)).getD (Int.toNat 0) 0 * 16777216 +
              (List.map (fun k' => (cellAt ns k' 0).fmod 256) (rangeKs 1 ((5 : Int) - 1).toNat)).getD (Int.toNat 1) 0 * 65536 +
            (List.map (fun k' => (cellAt ns k' 0).fmod 256) (rangeKs 1 ((5 : Int) - 1).toNat)).getD (Int.toNat 2) 0 * 256 +
          (List.map (fun k' => (cellAt ns k' 0).fmod 256) (rangeKs 1 ((5 : Int) - 1).toNat)).getD (Int.toNat 3) 0).fmod
      256,
    (((cellAt ns (5 + 0) 0).fmod 256 * 16777216 + (cellAt ns (5 + 1) 0).fmod 256 * 65536 +
                (cellAt ns (5 + 2) 0).fmod 256 * 256 +
              (cellAt ns (5 + 3) 0).fmod 256).fdiv
          16777216).fmod
      256,
    (((cellAt ns (5 + 0) 0).fmod 256 * 16777216 + (cellAt ns (5 + 1) 0).fmod 256 * 65536 +
                (cellAt ns (5 + 2) 0).fmod 256 * 256 +
              (cellAt ns (5 + 3) 0).fmod 256).fdiv
          65536).fmod
      256,
    (((cellAt ns (5 + 0) 0).fmod 256 * 16777216 + (cellAt ns (5 + 1) 0).fmod 256 * 65536 +
                (cellAt ns (5 + 2) 0).fmod 256 * 256 +
              (cellAt ns (5 + 3) 0).fmod 256).fdiv
          256).fmod
      256,
    ((cellAt ns (5 + 0) 0).fmod 256 * 16777216 + (cellAt ns (5 + 1) 0).fmod 256 * 65536 +
            (cellAt ns (5 + 2) 0).fmod 256 * 256 +
          (cellAt ns (5 + 3) 0).fmod 256).fmod
      256,
    0, 0, 0, 0, 0, 0,
    (1 +
          ((((List.map (fun k' => (cellAt ns k' 0).fmod 256) (rangeKs 1 ((5 : Int) - 1).toNat)).getD (Int.toNat 0) 0 *
                            16777216 +
                          (List.map (fun k' => (cellAt ns k' 0).fmod 256) (rangeKs 1 ((5 : Int) - 1).toNat)).getD (Int.toNat 1)
                              0 *
                            65536 +
                        (List.map (fun k' => (cellAt ns k' 0).fmod 256) (rangeKs 1 ((5 : Int) - 1).toNat)).getD (Int.toNat 2)
                            0 *
                          256 +
                      (List.map (fun k' => (cellAt ns k' 0).fmod 256) (rangeKs 1 ((5 : Int) - 1).toNat)).getD (Int.toNat 3)
                        0).fdiv
                  16777216).fmod
              256 +
            ((((List.map (fun k' => (cellAt ns k' 0).fmod 256) (rangeKs 1 ((5 : Int) - 1).toNat)).getD (Int.toNat 0) 0 *
                              16777216 +
                            (List.map (fun k' => (cellAt ns k' 0).fmod 256) (rangeKs 1 ((5 : Int) - 1).toNat)).getD
                                (Int.toNat 1) 0 *
                              65536 +
                          (List.map (fun k' => (cellAt ns k' 0).fmod 256) (rangeKs 1 ((5 : Int) - 1).toNat)).getD (Int.toNat 2)
                              0 *
                            256 +
                        (List.map (fun k' => (cellAt ns k' 0).fmod 256) (rangeKs 1 ((5 : Int) - 1).toNat)).getD (Int.toNat 3)
                          0).fdiv
                    65536).fmod
                256 +
              ((((List.map (fun k' => (cellAt ns k' 0).fmod 256) (rangeKs 1 ((5 : Int) - 1).toNat)).getD (Int.toNat 0) 0 *
                                16777216 +
                              (List.map (fun k' => (cellAt ns k' 0).fmod 256) (rangeKs 1 ((5 : Int) - 1).toNat)).getD
                                  (Int.toNat 1) 0 *
                                65536 +
                            (List.map (fun k' => (cellAt ns k' 0).fmod 256) (rangeKs 1 ((5 : Int) - 1).toNat)).getD
                                (Int.toNat 2) 0 *
                              256 +
                          (List.map (fun k' => (cellAt ns k' 0).fmod 256) (rangeKs 1 ((5 : Int) - 1).toNat)).getD (Int.toNat 3)
                            0).fdiv
                      256).fmod
                  256 +
                (((List.map (fun k' => (cellAt ns k' 0).fmod 256) (rangeKs 1 ((5 : Int) - 1).toNat)).getD (Int.toNat 0) 0 *
                              16777216 +
                            (List.map (fun k' => (cellAt ns k' 0).fmod 256) (rangeKs 1 ((5 : Int) - 1).toNat)).getD
                                (Int.toNat 1) 0 *
                              65536 +
                          (List.map (fun k' => (cellAt ns k' 0).fmod 256) (rangeKs 1 ((5 : Int) - 1).toNat)).getD (Int.toNat 2)
                              0 *
                            256 +
                        (List.map (fun k' => (cellAt ns k' 0).fmod 256) (rangeKs 1 ((5 : Int) - 1).toNat)).getD (Int.toNat 3)
                          0).fmod
                    256 +
                  ((((cellAt ns (5 + 0) 0).fmod 256 * 16777216 + (cellAt ns (5 + 1) 0).fmod 256 * 65536 +
                                (cellAt ns (5 + 2) 0).fmod 256 * 256 +
                              (cellAt ns (5 + 3) 0).fmod 256).fdiv
                          16777216).fmod
                      256 +
                    ((((cellAt ns (5 + 0) 0).fmod 256 * 16777216 + (cellAt ns (5 + 1) 0).fmod 256 * 65536 +
                                  (cellAt ns (5 + 2) 0).fmod 256 * 256 +
                                (cellAt ns (5 + 3) 0).fmod 256).fdiv
                            65536).fmod
                        256 +
                      ((((cellAt ns (5 + 0) 0).fmod 256 * 16777216 + (cellAt ns (5 + 1) 0).fmod 256 * 65536 +
                                    (cellAt ns (5 + 2) 0).fmod 256 * 256 +
                                  (cellAt ns (5 + 3) 0).fmod 256).fdiv
                              256).fmod
                          256 +
                        (((cellAt ns (5 + 0) 0).fmod 256 * 16777216 + (cellAt ns (5 + 1) 0).fmod 256 * 65536 +
                                  (cellAt ns (5 + 2) 0).fmod 256 * 256 +
                                (cellAt ns (5 + 3) 0).fmod 256).fmod
                            256 +
                          0))))))))).fmod
      256] =
  [1] ++ List.map (fun k' => (cellAt ns k' 0).fmod 256) (rangeKs 1 ((5 : Int) - 1).toNat) ++
        List.map (fun k' => (cellAt ns k' 0).fmod 256) (rangeKs 5 ((9 : Int) - 5).toNat) ++
      [0, 0, 0, 0, 0, 0] ++
    [(1 + (List.map (fun k' => (cellAt ns k' 0).fmod 256) (rangeKs 1 ((5 : Int) - 1).toNat)).sum +
            (List.map (fun k' => (cellAt ns k' 0).fmod 256) (rangeKs 5 ((9 : Int) - 5).toNat)).sum).fmod
        256] := by
  have e1 : rangeKs 1 ((5 : Int) - 1).toNat = [1, 2, 3, 4] := by decide
  have e2 : rangeKs 5 ((9 : Int) - 5).toNat = [5, 6, 7, 8] := by decide
  rw [e1, e2]
  simp only [List.map_cons, List.map_nil, List.getD_cons_zero, List.getD_cons_succ, show Int.toNat 0 = 0 from rfl, show Int.toNat 1 = 1 from rfl, show Int.toNat 2 = 2 from rfl, show Int.toNat 3 = 3 from rfl, show (5 + 0 : Int) = 5 from rfl, show (5 + 1 : Int) = 6 from rfl, show (5 + 2 : Int) = 7 from rfl, show (5 + 3 : Int) = 8 from rfl]
  have h1 := enc5a _ _ _ _ (fm (cellAt ns 1 0)) (fm (cellAt ns 2 0)) (fm (cellAt ns 3 0)) (fm (cellAt ns 4 0))
  have h2 := enc5a _ _ _ _ (fm (cellAt ns 5 0)) (fm (cellAt ns 6 0)) (fm (cellAt ns 7 0)) (fm (cellAt ns 8 0))
  simp only [h1.1, h1.2.1, h1.2.2.1, h1.2.2.2, h2.1, h2.2.1, h2.2.2.1, h2.2.2.2]
  simp only [List.cons_append, List.nil_append, List.sum_cons, List.sum_nil, Int.add_zero, Int.add_assoc]
end Mine

set_option maxRecDepth 100000 in
set_option maxHeartbeats 8000000 in
theorem PySem.Challenge.cw_k14_0005_holds : PySem.Challenge.rw_k14_0005.Holds := by
  k_with "end" => first | rfl | ((rename ¬ ((_ : List Int) = _) => hne); exact absurd (Mine.enc5 _) hne)
  open_k
