/-
  AE, part 12: each plain operation does what AE says.
-/
import Derived.Test.YtbpccdengeakgaaAE11
set_option linter.unusedVariables false
set_option linter.unusedSimpArgs false
namespace Go.Proofs.Ytbpccdengeakgaa.AE
open Go Go.RowKit
section
variable {P : Program} {B : Nat} {w0 w w' : World} {I I' : Nat → Prop} {μ μ' : Mu} {h h' : Hp} {e : Env} {ρ : Operand → Value} {d d' : D} {v : Value} {k : Nat}
theorem evP_ok (hi : Inv B w0 I μ h w) (ho : OpsOk w I μ e ρ) (hk : μ k = none) {o : Oper} {xo : XOp} (hc : cOp0 P o.op = some xo) (hev : evP e h k xo = some (d, h')) : Res P B w0 I μ w k (execOp ρ o) d h' := by
  cases hop : o.op <;> rw [hop] at hc <;> simp only [cOp0] at hc <;> try (cases hc; done)
  case move x =>
    simp only [Option.bind_eq_some_iff, Option.some.injEq] at hc
    obtain ⟨y, hy, rfl⟩ := hc
    simp only [evP, Option.some.injEq, Prod.mk.injEq] at hev
    obtain ⟨rfl, rfl⟩ := hev
    exact mv_ok hi ho (.inl hop) hy
  case assign x =>
    simp only [Option.bind_eq_some_iff, Option.some.injEq] at hc
    obtain ⟨y, hy, rfl⟩ := hc
    simp only [evP, Option.some.injEq, Prod.mk.injEq] at hev
    obtain ⟨rfl, rfl⟩ := hev
    exact mv_ok hi ho (.inr hop) hy
  case pick c a b =>
    simp only [Option.bind_eq_some_iff, Option.some.injEq] at hc
    obtain ⟨yc, h1, ya, h2, yb, h3, rfl⟩ := hc
    simp only [evP, Option.bind_eq_some_iff, Option.some.injEq, Prod.mk.injEq] at hev
    obtain ⟨t, ht, rfl, rfl⟩ := hev
    exact pick_ok hi ho hop h1 h2 h3 ht
  case alloc t =>
    simp only [Option.bind_eq_some_iff, Option.some.injEq] at hc
    obtain ⟨z, hz, rfl⟩ := hc
    simp only [evP, Option.some.injEq, Prod.mk.injEq] at hev
    obtain ⟨rfl, rfl⟩ := hev
    exact alloc_ok hi hk hop hz
  case box t x =>
    simp only [Option.bind_eq_some_iff, Option.some.injEq] at hc
    obtain ⟨n, hn, y, hy, rfl⟩ := hc
    simp only [evP, Option.bind_eq_some_iff] at hev
    obtain ⟨cs, hcs, hev⟩ := hev
    split at hev
    · simp only [Option.some.injEq, Prod.mk.injEq] at hev
      obtain ⟨rfl, rfl⟩ := hev
      exact box_ok hi ho hk hop hy hcs
    · cases hev
  case build t ps =>
    split at hc
    · rename_i fs hu
      simp only [Option.bind_eq_some_iff, Option.some.injEq] at hc
      obtain ⟨z, hz, pl, hpl, qs, hqs, rfl⟩ := hc
      simp only [evP, Option.bind_eq_some_iff, Option.some.injEq, Prod.mk.injEq] at hev
      obtain ⟨cs, hcs, rfl, rfl⟩ := hev
      exact build_ok hi ho hop hu hz hpl hqs hcs
    · cases hc
  case buildSlice t n ps =>
    split at hc
    · rename_i et hu
      simp only [Option.bind_eq_some_iff] at hc
      obtain ⟨z, hz, hc⟩ := hc
      split at hc
      · rename_i hcond
        simp only [Option.bind_eq_some_iff, Option.some.injEq] at hc
        obtain ⟨qs, hqs, rfl⟩ := hc
        simp only [evP, Option.bind_eq_some_iff, Option.some.injEq, Prod.mk.injEq] at hev
        obtain ⟨q, hq, xs, hxs, rfl, rfl⟩ := hev
        exact bsl_ok hi ho hk hop hu hz hcond.1 hcond.2 hqs hq hxs
      · cases hc
    · cases hc
  case load t x =>
    simp only [Option.bind_eq_some_iff, Option.some.injEq] at hc
    obtain ⟨n, hn, ag, hag, y, hy, rfl⟩ := hc
    simp only [evP, Option.bind_eq_some_iff, Option.some.injEq, Prod.mk.injEq] at hev
    obtain ⟨cs, hcs, d', hd', rfl, rfl⟩ := hev
    exact load_ok hi ho hop hn hag hy hcs hd'
  case store t x x2 =>
    simp only [Option.bind_eq_some_iff, Option.some.injEq] at hc
    obtain ⟨n, hn, y, hy, y2, hy2, rfl⟩ := hc
    simp only [evP, Option.bind_eq_some_iff, Option.some.injEq, Prod.mk.injEq] at hev
    obtain ⟨cs, hcs, h1, hh, rfl, rfl⟩ := hev
    exact store_ok hi ho hop hn hy hy2 hcs hh
  case nilCheck x =>
    simp only [Option.bind_eq_some_iff, Option.some.injEq] at hc
    obtain ⟨y, hy, rfl⟩ := hc
    simp only [evP] at hev
    split at hev
    · rename_i cs oo he
      simp only [Option.some.injEq, Prod.mk.injEq] at hev
      obtain ⟨rfl, rfl⟩ := hev
      rw [← he]
      exact nilc_ok hi ho hop hy (.inl ⟨cs, oo, he⟩)
    · rename_i l i oo he
      simp only [Option.some.injEq, Prod.mk.injEq] at hev
      obtain ⟨rfl, rfl⟩ := hev
      rw [← he]
      exact nilc_ok hi ho hop hy (.inr ⟨l, i, oo, he⟩)
    · cases hev
  case binOp op t x x2 t2 =>
    simp only [Option.bind_eq_some_iff] at hc
    obtain ⟨y, hy, y2, hy2, hc⟩ := hc
    split at hc
    · rename_i hu
      simp only [Option.some.injEq] at hc
      subst hc
      simp only [evP, Option.bind_eq_some_iff, Option.some.injEq, Prod.mk.injEq] at hev
      obtain ⟨d', hd', rfl, rfl⟩ := hev
      exact bin_ok hi ho hop hy hy2 (fun _ => hu) hd'
    · rename_i fs hu
      simp only [Option.bind_eq_some_iff] at hc
      obtain ⟨ks, hks, hc⟩ := hc
      split at hc
      · rename_i hcond
        have fin : ∀ neg, ((op = .eql ∧ neg = false) ∨ (op = .neq ∧ neg = true)) → evP e h k (.eqs neg ks y y2) = some (d, h') → Res P B w0 I μ w k (execOp ρ o) d h' := by
          intro neg hn hev
          simp only [evP] at hev
          split at hev
          · rename_i cs ds h1 h2
            simp only [Option.bind_eq_some_iff, Option.some.injEq, Prod.mk.injEq] at hev
            obtain ⟨tt, htt, rfl, rfl⟩ := hev
            exact eqs_ok hi ho hop hy hy2 hn hu hks hcond.1 hcond.2 h1 h2 htt
          · cases hev
        split at hc
        · simp only [Option.some.injEq] at hc; subst hc; exact fin _ (.inl ⟨rfl, rfl⟩) hev
        · simp only [Option.some.injEq] at hc; subst hc; exact fin _ (.inr ⟨rfl, rfl⟩) hev
        · cases hc
      · cases hc
    · simp only [Option.some.injEq] at hc
      subst hc
      simp only [evP, Option.bind_eq_some_iff, Option.some.injEq, Prod.mk.injEq] at hev
      obtain ⟨d', hd', rfl, rfl⟩ := hev
      exact bin_ok hi ho hop hy hy2 (fun hf => by cases hf) hd'
    · cases hc
  case unOp op t x =>
    simp only [Option.bind_eq_some_iff, Option.some.injEq] at hc
    obtain ⟨y, hy, rfl⟩ := hc
    simp only [evP, Option.bind_eq_some_iff, Option.some.injEq, Prod.mk.injEq] at hev
    obtain ⟨d', hd', rfl, rfl⟩ := hev
    exact un_ok hi ho hop hy hd'
  case extract x j =>
    simp only [Option.bind_eq_some_iff, Option.some.injEq] at hc
    obtain ⟨y, hy, rfl⟩ := hc
    simp only [evP] at hev
    split at hev
    · rename_i cs he
      simp only [Option.bind_eq_some_iff, Option.some.injEq, Prod.mk.injEq] at hev
      obtain ⟨d', hd', rfl, rfl⟩ := hev
      exact ext_ok hi ho hop hy he hd'
    · cases hev
  case field t x f =>
    split at hc
    · rename_i fs hu
      simp only [Option.bind_eq_some_iff, Option.some.injEq] at hc
      obtain ⟨fd, hfd, n, hn, ag, hag, y, hy, rfl⟩ := hc
      simp only [evP] at hev
      split at hev
      · rename_i cs he
        simp only [Option.bind_eq_some_iff, Option.some.injEq, Prod.mk.injEq] at hev
        obtain ⟨ds, hds, d', hd', rfl, rfl⟩ := hev
        exact fld_ok hi ho hop hu hfd hn hag hy he hds hd'
      · cases hev
    · cases hc
  case fieldAddr t x f =>
    split at hc
    · rename_i fs hu
      simp only [Option.bind_eq_some_iff] at hc
      obtain ⟨fd, hfd, n, hn, hc⟩ := hc
      split at hc
      · cases hc
      · rename_i hn0
        simp only [Option.bind_eq_some_iff, Option.some.injEq] at hc
        obtain ⟨y, hy, rfl⟩ := hc
        simp only [evP] at hev
        split at hev
        · rename_i cs oo he
          simp only [Option.some.injEq, Prod.mk.injEq] at hev
          obtain ⟨rfl, rfl⟩ := hev
          exact fad_ok hi ho hop hu hfd hn hn0 hy (.inl ⟨cs, oo, he, rfl⟩)
        · rename_i l i oo he
          simp only [Option.some.injEq, Prod.mk.injEq] at hev
          obtain ⟨rfl, rfl⟩ := hev
          exact fad_ok hi ho hop hu hfd hn hn0 hy (.inr ⟨l, i, oo, he, rfl⟩)
        · cases hev
    · cases hc
  case indexAddr t x x2 =>
    split at hc
    · rename_i n et hu
      simp only [Option.bind_eq_some_iff, Option.some.injEq] at hc
      obtain ⟨sz, hsz, y, hy, y2, hy2, rfl⟩ := hc
      simp only [evP, Option.bind_eq_some_iff] at hev
      obtain ⟨j, hj, hev⟩ := hev
      split at hev
      · rename_i hjb
        split at hev
        · rename_i cs oo he
          simp only [Option.some.injEq, Prod.mk.injEq] at hev
          obtain ⟨rfl, rfl⟩ := hev
          exact iaA_ok hi ho hop hu hsz hy hy2 hj hjb.1 hjb.2 (.inl ⟨cs, oo, he, rfl⟩)
        · rename_i l i oo he
          simp only [Option.some.injEq, Prod.mk.injEq] at hev
          obtain ⟨rfl, rfl⟩ := hev
          exact iaA_ok hi ho hop hu hsz hy hy2 hj hjb.1 hjb.2 (.inr ⟨l, i, oo, he, rfl⟩)
        · cases hev
      · cases hev
    · rename_i et hu
      simp only [Option.bind_eq_some_iff, Option.some.injEq] at hc
      obtain ⟨sz, hsz, y, hy, y2, hy2, rfl⟩ := hc
      simp only [evP, Option.bind_eq_some_iff] at hev
      obtain ⟨j, hj, hev⟩ := hev
      split at hev
      · rename_i hjb
        split at hev
        · rename_i xs he
          split at hev
          · rename_i z hz
            split at hev
            · rename_i hzl
              simp only [Option.some.injEq, Prod.mk.injEq] at hev
              obtain ⟨rfl, rfl⟩ := hev
              exact iaS_ok hi ho hop hu hsz hy hy2 hj hjb (.inl ⟨xs, z, he, hz, hzl, rfl⟩)
            · cases hev
          · cases hev
        · rename_i l he
          split at hev
          · rename_i ety sz' xs own hrow
            split at hev
            · rename_i hb
              obtain ⟨rfl, hb⟩ := hb
              simp only [Option.some.injEq, Prod.mk.injEq] at hev
              obtain ⟨rfl, rfl⟩ := hev
              exact iaS_ok hi ho hop hu hsz hy hy2 hj hjb (.inr ⟨l, ety, xs, own, he, hrow, hb, rfl⟩)
            · cases hev
          · cases hev
        · cases hev
      · cases hev
    · cases hc
  case index t x x2 =>
    split at hc
    · rename_i hu
      simp only [Option.bind_eq_some_iff, Option.some.injEq] at hc
      obtain ⟨y, hy, y2, hy2, rfl⟩ := hc
      simp only [evP, Option.bind_eq_some_iff] at hev
      obtain ⟨j, hj, hev⟩ := hev
      split at hev
      · rename_i s he
        split at hev
        · rename_i hb
          simp only [Option.some.injEq, Prod.mk.injEq] at hev
          obtain ⟨rfl, rfl⟩ := hev
          exact ixS_ok hi ho hop hu hy hy2 hj he hb
        · cases hev
      · cases hev
    · cases hc
  case makeFunc fn first caps =>
    cases fn with
    | func f =>
      simp only at hc
      split at hc
      · rename_i hfst
        simp only [Option.bind_eq_some_iff, Option.some.injEq] at hc
        obtain ⟨ys, hys, rfl⟩ := hc
        simp only [evP, Option.some.injEq, Prod.mk.injEq] at hev
        obtain ⟨rfl, rfl⟩ := hev
        exact mkfn_ok hi ho hop hfst hys
      · cases hc
    | _ => cases hc
  case makeMap t r =>
    cases r with
    | some x => cases hc
    | none =>
      simp only [Option.some.injEq] at hc
      subst hc
      simp only [evP, Option.some.injEq, Prod.mk.injEq] at hev
      obtain ⟨rfl, rfl⟩ := hev
      exact mkmap_ok hi hk hop
  case makeSlice t x x2 =>
    split at hc
    · rename_i et hu
      simp only [Option.bind_eq_some_iff] at hc
      obtain ⟨i, hinf, z, hz, hc⟩ := hc
      split at hc
      · rename_i hcond
        simp only [Option.bind_eq_some_iff, Option.some.injEq] at hc
        obtain ⟨y, hy, y2, hy2, rfl⟩ := hc
        simp only [evP, Option.bind_eq_some_iff] at hev
        obtain ⟨n, hn, m, hm, hev⟩ := hev
        split at hev
        · rename_i hnm
          obtain ⟨rfl, hlim⟩ := hnm
          simp only [Option.some.injEq, Prod.mk.injEq] at hev
          obtain ⟨rfl, rfl⟩ := hev
          exact mks_ok hi ho hk hop hu hinf hz hcond.1 hcond.2.1 hy hy2 hn hm hlim
        · cases hev
      · cases hc
    · cases hc
  case slice t x lo hi2 mx =>
    cases mx with
    | some m => cases hc
    | none =>
      simp only at hc
      split at hc
      · rename_i hu
        simp only [Option.bind_eq_some_iff, Option.some.injEq] at hc
        obtain ⟨y, hy, ylo, hlo, yhi, hhi, rfl⟩ := hc
        simp only [evP] at hev
        split at hev
        · rename_i s he
          simp only [Option.bind_eq_some_iff] at hev
          obtain ⟨a, ha, b, hb, hev⟩ := hev
          split at hev
          · rename_i hab
            simp only [Option.some.injEq, Prod.mk.injEq] at hev
            obtain ⟨rfl, rfl⟩ := hev
            exact slS_ok hi ho hop hu hy hlo hhi he ha hb hab.1 hab.2
          · cases hev
        · cases hev
      · cases hc
  case lookup t x x2 ok =>
    cases ok with
    | true => cases hc
    | false =>
      simp only at hc
      split at hc
      · rename_i kt et hu
        split at hc
        · rename_i hkt
          simp only [Option.bind_eq_some_iff, Option.some.injEq] at hc
          obtain ⟨i, hinf, zv, hzv, z, hz, y, hy, y2, hy2, rfl⟩ := hc
          simp only [evP] at hev
          split at hev
          · rename_i l s h1 h2
            split at hev
            · rename_i es hes
              simp only [Option.some.injEq, Prod.mk.injEq] at hev
              obtain ⟨rfl, rfl⟩ := hev
              exact mget_ok hi ho hop hu hkt hinf hzv hz hy hy2 h1 h2 hes
            · cases hev
          · cases hev
        · cases hc
      · cases hc
  case mapUpdate t x x2 x3 =>
    split at hc
    · rename_i kt et hu
      split at hc
      · rename_i hkt
        simp only [Option.bind_eq_some_iff, Option.some.injEq] at hc
        obtain ⟨y, hy, y2, hy2, y3, hy3, rfl⟩ := hc
        simp only [evP] at hev
        split at hev
        · rename_i l s h1 h2
          split at hev
          · rename_i es hes
            split at hev
            · rename_i hcond
              simp only [Option.some.injEq, Prod.mk.injEq] at hev
              obtain ⟨rfl, rfl⟩ := hev
              exact mput_ok hi ho (.inl hop) hu hkt hy hy2 hy3 h1 h2 hes hcond.2
            · cases hev
          · cases hev
        · cases hev
      · cases hc
    · cases hc
  case insert t x x2 x3 =>
    split at hc
    · rename_i kt et hu
      split at hc
      · rename_i hkt
        simp only [Option.bind_eq_some_iff, Option.some.injEq] at hc
        obtain ⟨y, hy, y2, hy2, y3, hy3, rfl⟩ := hc
        simp only [evP] at hev
        split at hev
        · rename_i l s h1 h2
          split at hev
          · rename_i es hes
            split at hev
            · rename_i hcond
              simp only [Option.some.injEq, Prod.mk.injEq] at hev
              obtain ⟨rfl, rfl⟩ := hev
              exact mput_ok hi ho (.inr hop) hu hkt hy hy2 hy3 h1 h2 hes hcond.2
            · cases hev
          · cases hev
        · cases hev
      · cases hc
    · cases hc
  case convert s t x =>
    split at hc
    · rename_i ks kt hs ht
      simp only [Option.bind_eq_some_iff, Option.some.injEq] at hc
      obtain ⟨y, hy, rfl⟩ := hc
      simp only [evP, Option.bind_eq_some_iff, Option.some.injEq, Prod.mk.injEq] at hev
      obtain ⟨n, hn, rfl, rfl⟩ := hev
      exact cvi_ok hi ho hop hs ht hy hn
    · rename_i et hs ht
      split at hc
      · rename_i he
        simp only [Option.bind_eq_some_iff, Option.some.injEq] at hc
        obtain ⟨y, hy, rfl⟩ := hc
        simp only [evP, Option.bind_eq_some_iff, Option.some.injEq, Prod.mk.injEq] at hev
        obtain ⟨xs, hxs, ns, hn, rfl, rfl⟩ := hev
        exact bts_ok hi ho hop hs he ht hy hxs hn
      · cases hc
    · cases hc
  case call c =>
    split at hc
    · rename_i f hcal
      split at hc
      · rename_i hb
        split at hc
        · rename_i x x2 ha
          simp only [Option.bind_eq_some_iff, Option.some.injEq] at hc
          obtain ⟨y, hy, y2, hy2, rfl⟩ := hc
          simp only [evP, Option.bind_eq_some_iff, Option.some.injEq, Prod.mk.injEq] at hev
          obtain ⟨d', hd', rfl, rfl⟩ := hev
          exact ibs_ok hi ho hop hcal hb ha hy hy2 hd'
        · cases hc
      · simp only [Option.bind_eq_some_iff, Option.some.injEq] at hc
        obtain ⟨xs, _, rfl⟩ := hc
        cases hev
    · simp only [Option.bind_eq_some_iff, Option.some.injEq] at hc
      obtain ⟨xs, _, rfl⟩ := hc
      cases hev
    · rename_i hcal
      split at hc
      · rename_i x t ha hat
        split at hc
        · rename_i hu
          simp only [Option.bind_eq_some_iff, Option.some.injEq] at hc
          obtain ⟨y, hy, rfl⟩ := hc
          simp only [evP, if_true] at hev
          split at hev
          · rename_i s hs
            simp only [Option.some.injEq, Prod.mk.injEq] at hev
            obtain ⟨rfl, rfl⟩ := hev
            exact len_ok hi ho hop hcal ha hat hy (.inl hu) (.inl ⟨s, hs, rfl, hu⟩)
          · cases hev
        · rename_i et hu
          simp only [Option.bind_eq_some_iff, Option.some.injEq] at hc
          obtain ⟨y, hy, rfl⟩ := hc
          simp only [evP, Bool.false_eq_true, if_false, Option.bind_eq_some_iff, Option.some.injEq, Prod.mk.injEq] at hev
          obtain ⟨xs, hxs, rfl, rfl⟩ := hev
          exact len_ok hi ho hop hcal ha hat hy (.inr ⟨et, hu⟩) (.inr ⟨xs, hxs, rfl, et, hu⟩)
        · cases hc
      · cases hc
    · rename_i hcal
      split at hc
      · rename_i x x2 t u ha hat
        split at hc
        · rename_i htu
          subst htu
          split at hc
          · rename_i et hu
            simp only [Option.bind_eq_some_iff] at hc
            obtain ⟨i, hinf, z, hz, hc⟩ := hc
            split at hc
            · rename_i hcond
              simp only [Option.bind_eq_some_iff, Option.some.injEq] at hc
              obtain ⟨y, hy, y2, hy2, rfl⟩ := hc
              simp only [evP, Option.bind_eq_some_iff] at hev
              obtain ⟨ys, hys, hev⟩ := hev
              split at hev
              · rename_i he
                split at hev
                · rename_i hb
                  simp only [Option.some.injEq, Prod.mk.injEq] at hev
                  obtain ⟨rfl, rfl⟩ := hev
                  exact app_ok hi ho hk hop hcal ha hat hu hinf hz hcond.1 hcond.2 hy hy2 hys (fun y hy => by simpa using List.all_eq_true.1 hb.2 y hy) (.inl ⟨he, hb.1, rfl⟩)
                · cases hev
              · rename_i l he
                split at hev
                · rename_i t' sz' xs hrow
                  split at hev
                  · rename_i hb
                    obtain ⟨rfl, rfl, hb⟩ := hb
                    simp only [Option.some.injEq, Prod.mk.injEq] at hev
                    obtain ⟨rfl, rfl⟩ := hev
                    exact app_ok hi ho hk hop hcal ha hat hu hinf hz hcond.1 hcond.2 hy hy2 hys (fun y hy => by simpa using List.all_eq_true.1 hb.2 y hy) (.inr ⟨l, xs, he, hrow, hb.1, rfl⟩)
                  · cases hev
                · cases hev
              · cases hev
            · cases hc
          · cases hc
        · cases hc
      · cases hc
    · rename_i hcal
      split at hc
      · rename_i x x2 ha
        simp only [Option.bind_eq_some_iff, Option.some.injEq] at hc
        obtain ⟨y, hy, y2, hy2, rfl⟩ := hc
        simp only [evP, Option.bind_eq_some_iff, Option.some.injEq, Prod.mk.injEq] at hev
        obtain ⟨d', hd', rfl, rfl⟩ := hev
        exact mm_ok hi ho hop (up := true) hcal ha hy hy2 hd'
      · cases hc
    · rename_i hcal
      split at hc
      · rename_i x x2 ha
        simp only [Option.bind_eq_some_iff, Option.some.injEq] at hc
        obtain ⟨y, hy, y2, hy2, rfl⟩ := hc
        simp only [evP, Option.bind_eq_some_iff, Option.some.injEq, Prod.mk.injEq] at hev
        obtain ⟨d', hd', rfl, rfl⟩ := hev
        exact mm_ok hi ho hop (up := false) hcal ha hy hy2 hd'
      · cases hc
    · cases hc
theorem Res.frz {s : Sem Next} {h1 h2 : Hp} {d2 : D} (hr : Res P B w0 I μ w k s d h1) (hf : AE.frz 9 h1 d = some (d2, h2)) : Res P B w0 I μ w k s d2 h2 := by
  obtain ⟨nx, v, w', I', μ', e1, e2, r, i, g, n, l⟩ := hr
  obtain ⟨I2, g2, i2, m2, n2, l2⟩ := frz_ok 9 I' h1 h2 d d2 v hf i r
  exact ⟨nx, v, w', I2, μ', e1, e2, .im m2, i2, g.trans g2, n, fun b hb => (n2.1 b hb).elim (l b) (fun ho => .inr (ho.ge i).2.2)⟩
theorem hput_hput (h : Hp) (k : Nat) (a b : Ob) : hput (hput h k a) k b = hput h k b := by
  funext i
  unfold hput
  split <;> rfl
theorem evP_ok2 (hi : Inv B w0 I μ h w) (ho : OpsOk w I μ e ρ) (hk : μ k = none) {dr : Bool} {o : Oper} {xo : XOp} (hc : cOp P dr o.op = some xo) (hev : evP e h k xo = some (d, h')) : Res P B w0 I μ w k (execOp ρ o) d h' := by
  rcases cOp_inv hc with hx1 | rfl
  case inr => cases hev
  obtain ⟨x, hx, rfl⟩ := hx1
  have hx0 := (cOpA_some hx).1
  have same : fzOp dr x = x → Res P B w0 I μ w k (execOp ρ o) d h' := fun h => by rw [h] at hev; exact evP_ok hi ho hk hx0 hev
  cases x
  case bsl t sz z n ps =>
    cases dr with
    | false => exact same rfl
    | true =>
      simp only [fzOp, if_true, evP, Option.bind_eq_some_iff, Option.some.injEq, Prod.mk.injEq] at hev
      obtain ⟨q, hq, xs, hxs, rfl, rfl⟩ := hev
      have h1 : evP e h k (.bsl t sz z n ps) = some (.osl k, hput q.2 k (.row t sz xs true)) := by simp only [evP, hq, Option.bind_some, hxs]
      refine (evP_ok hi ho hk hx0 h1).frz ?_
      show AE.frz (8 + 1) _ _ = _
      simp only [AE.frz, hput_same, hput_hput]
  case build z ps =>
    cases dr with
    | true => exact same rfl
    | false =>
      simp only [fzOp, Bool.false_eq_true, if_false, evP, Option.bind_eq_some_iff] at hev
      obtain ⟨cs, hcs, hev⟩ := hev
      have h1 : evP e h k (.build z ps) = some (.agg cs, h) := by simp only [evP, hcs, Option.bind_some]
      exact (evP_ok hi ho hk hx0 h1).frz hev
  all_goals exact same rfl
end
end Go.Proofs.Ytbpccdengeakgaa.AE
