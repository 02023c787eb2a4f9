/-
Maps with string keys over known blocks; writing at a block that is known somewhere.
Conditions: none. Generic: it speaks of no program.
-/
import Derived.Test.YtfphceknmgadgaaGreatDoorVmAL
set_option linter.unusedSimpArgs false
set_option linter.unusedVariables false
namespace Go.Vm
theorem SubA.put{X A:AH}{r:Nat}{u:Obj}(h:SubA X A)(hr:AA X r=Option.none):SubA X (Fy A r u):=fun b o hl=>by
 rw[Em]
 rw[if_neg (fun e=>by rw[e,hr]at hl;cases hl)]
 exact h b o hl
section
variable {P:Program} {t kt et:TypeId} {r cl:Nat} {es:Array MapEntry} {m:fl} {s:ByteArray} {A:AH}
variable {K:Value→AH→Prop}
end
theorem AM.use{P:Program}{g:FuncId}{args:Array Value}{A A0:AH}{K0 K:Value→AH→Prop}(hc:AM P g args A0 K0)(hs:SubA A0 A)(h0: ∀v D,K0 v D→ ∀b,AA A0 b≠none→AA D b≠none)
  (X:AH) (hX:SubA X A) (hd:Dis A0 X) (hk: ∀v D,K0 v D→Dis D X→ ∃E,SubA E D∧K v (E++X)):AM P g args A K:=by
 have hf:AM P g args A fun v A'=> ∃A'',SubA A'' A'∧K v A'':=by
  refine AM.frame hc hs fun v D hv=>⟨h0 v D hv,fun hx=> ?_⟩
  have dD:Dis D X:=fun x hx1=>by
   cases hd1:AA D x with
   |none=>rfl
   |some o=>
    have:=hx x (by rw[hd1];simp) (hd x hx1)
    exact absurd (hX.none this) hx1
  obtain⟨E,h1,h2⟩:=hk v D hv dD
  exact⟨E++X,SubA.both (fun b o hl=>SubA.left _ _ b o (h1 b o hl)) (dD.sub hX),h2⟩
 intro h hA
 have:=hf h hA
 unfold E4 at this⊢
 have mono: ∀e h',HU A h (fun v A'=> ∃A'',SubA A'' A'∧K v A'') e h'→HU A h K e h':=by
  rintro e h' ⟨v,A',h1,h2,h3,A'',h4,h5⟩
  exact⟨v,A'',h1,h2.sub h4,h3.sub h4,h5⟩
 split
 ·rename_i hcal
  rw[if_pos hcal]at this
  exact this.mono0 mono
 ·rename_i hcal
  rw[if_neg hcal]at this
  intro w hw
  obtain⟨v,w',r1,r2,r3⟩:=this w hw
  exact⟨v,w',r1,r2,mono _ _ r3⟩
theorem NJ.use{P:Program}{s:Sem Value}{A:AH}{K:Value→AH→Prop}(hr:NJ P s A fun v A'=> ∃A'',SubA A'' A'∧K v A''):NJ P s A K:=fun h hA w hw=>by
 obtain⟨v,w',r1,r2,A',h1,h2,A'',h3,h4⟩:=hr h hA w hw
 exact⟨v,w',r1,r2,A'',h1.sub h3,h2.sub h3,h4⟩
theorem Dis.subl{D E X:AH}(d:Dis D X)(h:SubA E D):Dis E X:=fun x hx=>h.none (d x hx)
end Go.Vm
