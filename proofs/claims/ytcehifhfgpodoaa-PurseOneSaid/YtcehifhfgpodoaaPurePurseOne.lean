/- Who wants alone gets all that there is, or all that is wanted. No condition. -/
import Derived.Test.YtcehifhfgpodoaaPPurseOnex5
import Derived.Test.YtcehifhfgpodoaaCorePurseOne
namespace Go.Proofs.Ytcehifhfgpodoaa.Pure
open Go.RowKit Go.Proofs.Ytcehifhfgpodoaa.PPurseOne Go.Proofs.Ytcehifhfgpodoaa.CorePurseOne Go.Proofs.Ytcehifhfgpodoaa.Plain Go.Proofs.Ytcehifhfgpodoaa.Help Go.Proofs.YtcehifhfgpodoaaW.PrintWords Go.Proofs.YtcehifhfgpodoaaW.PrintLast Go.Proofs.YtcehifhfgpodoaaW.PrintMore

theorem one (b r y : Int) : ∃ p, fin [⟨0, r, y⟩] b p 0 = mn (clip b) (mx y 0) ∧ ∀ k, 40000 ≤ k → purse_Split.f k b [⟨0, r, y⟩] = some (L 1 (fin [⟨0, r, y⟩] b p)) := by
  obtain ⟨p, h1, h2⟩ := sorted20 [⟨0, r, y⟩] (by show 1 ≤ 20; omega)
  refine ⟨p, ?_, fun k hk => split [⟨0, r, y⟩] (by show 1 ≤ 1000; omega) b p h1 30000 h2 k (by show 30000 + 3 * 1 + 3 ≤ k; omega)⟩
  have hl : ([⟨0, r, y⟩] : List S46).length = 1 := rfl
  have hp : p 0 = 0 := by have := (h1.lo 0 (by omega) (by omega)).2; omega
  have e := st_end (c := by_ [⟨0, r, y⟩]) (o := o [⟨0, r, y⟩] b) (B := clip b - sm (o [⟨0, r, y⟩] b) 1) (p := p) (n := 1) (fun s t a1 a2 a3 => by omega) 0 (by omega)
  rw [hp] at e
  show (st (by_ [⟨0, r, y⟩]) (o [⟨0, r, y⟩] b) (clip b - sm (o [⟨0, r, y⟩] b) 1) p 1).1 0 = _
  rw [e]
  have w1 := weigh1 (rk [⟨0, r, y⟩] 0)
  have b0 := clip0 b
  have b1 := clip1 b
  have e1 : o [⟨0, r, y⟩] b 0 = mn (clip b) (clip y) := by
    show mn (clip b * weigh (rk [⟨0, r, y⟩] 0) / (0 + weigh (rk [⟨0, r, y⟩] 0))) (clip y) = _
    rw [Int.zero_add, Int.mul_ediv_cancel _ (by omega)]
  have e2 : gv (by_ [⟨0, r, y⟩]) (o [⟨0, r, y⟩] b) (clip b - sm (o [⟨0, r, y⟩] b) 1) p 0 = 0 := by
    unfold gv
    rw [hp]
    show mn (clip y - o [⟨0, r, y⟩] b 0) (clip b - (0 + o [⟨0, r, y⟩] b 0)) = 0
    rw [e1]
    unfold mn
    split <;> split <;> omega
  rw [e1, e2, Int.add_zero]
  unfold clip mn at *
  split <;> split <;> split <;> (try split) <;> omega

theorem PurseOne : girandolelaw21_PurseOne.Pure := by
  intro b y r _ _ _
  obtain ⟨p, h1, h2⟩ := one (wrap64 b) (wrap64 r) (wrap64 y)
  have hb : girandolelaw21_begun.f 60 = some true := by decide +kernel
  refine ⟨60 + 40000, ?_⟩
  unfold girandolelaw21_PurseOne.f
  rw [lift girandolelaw21_begun.mono hb 40000, bs, if_pos rfl, h2 _ (by omega), bs, L_len, if_pos (by omega), if_pos (by omega)]
  have e : rd (L 1 (fin [⟨0, wrap64 r, wrap64 y⟩] (wrap64 b) p)) 0 = mn (clip (wrap64 b)) (mx (wrap64 y) 0) := by rw [← h1]; exact L_rd 1 _ 0 (by omega)
  rw [e]
  show some (mn (clip (wrap64 b)) (mx (wrap64 y) 0) == mn (clip (wrap64 b)) (mx (wrap64 y) 0)) = some true
  rw [beq_self_eq_true]

end Go.Proofs.Ytcehifhfgpodoaa.Pure
