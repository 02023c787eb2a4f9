/-
Maps with string keys over known blocks; writing at a block that is known somewhere.
Conditions: none. Generic: it speaks of no program.
-/
import Derived.Test.YtfphceknmgadgaaGreatDoorVmAL
set_option linter.unusedSimpArgs false
set_option linter.unusedVariables false
namespace Go.Vm
theorem SV{A:AH}{h:AX}{r:Nat}{o u:Obj}(hA:Dq A h)(hr:AA A r=some o):Dq (Fc A r u) (h.setIfInBounds r u)∧Cc A h (Fc A r u) (h.setIfInBounds r u):=by
 have hlt:=hA.lt hr
 refine⟨fun b w hl=> ?_,⟨by simp,fun b hb hn=> ?_⟩⟩
 ·rw[Ep]at hl
  split at hl
  ·rename_i e
   subst e
   rw[hr]at hl
   cases hl
   simp[hlt]
  ·rename_i e
   rw[Array.getElem?_setIfInBounds,if_neg (fun x=>e x.symm)]
   exact hA b w hl
 ·have hbr: ¬b=r:=fun e=>by rw[e,hr]at hn;cases hn
  refine⟨by rw[Array.getElem?_setIfInBounds,if_neg (fun x=>hbr x.symm)], ?_⟩
  rw[Ep,if_neg hbr]
  exact hn
theorem SubA.put{X A:AH}{r:Nat}{u:Obj}(h:SubA X A)(hr:AA X r=Option.none):SubA X (Fc A r u):=fun b o hl=>by
 rw[Ep]
 rw[if_neg (fun e=>by rw[e,hr]at hl;cases hl)]
 exact h b o hl
section
variable {P:Program} {t kt et:TypeId} {r cl:Nat} {es:Array MapEntry} {m:KB} {s:ByteArray} {A:AH}
theorem Wr{ok:Bool}{z:Value}(ht:P.underlying t=some (.map kt et))(hk:P.underlying kt=some .string)(hz:DU P et=some z)(hr:AA A r=some (.map es cl))(hm:HY es m):
  F3 P (Instr.lookup t (.map (some r)) (.string s) ok) A=some (if ok then .tuple #[(HZ m s).getD z,.bool (HZ m s).isSome]else(HZ m s).getD z):=by
 refine LU fun w hw=> ?_
 have hr:=hw _ _ hr
 have hc: ∀b,(Instr.checkKey b 10000 kt (.string s)).run P w=.ok () w:=fun b=>MapKept.run_checkKey (k:=.string s) hk (by simp[MapKept.IsKey]) b 9999
 have hf:=MapKept.run_findKey (w:=w) hk (HB s es.toList m 0 hm)
 have hzv:(zeroValue et).run P w=.ok z w:=mX hz
 cases hp:JW m s with
 |none=>
  rw[hp]at hf
  cases ok<;>simp[Instr.lookup,run_underlying ht,MapKept.run_getObj_map hr,hc,hf,HZ,hp,hzv,Result.andThen]
 |some p=>
  rw[hp]at hf
  cases ok<;>simp[Instr.lookup,run_underlying ht,MapKept.run_getObj_map hr,hc,hf,HZ,hp,Result.andThen]
variable {K:Value→AH→Prop}
theorem ca{v:Value}(ht:P.underlying t=some (.map kt et))(hk:P.underlying kt=some .string)(hr:AA A r=some (.map es cl))(hm:HY es m)
  (hK: ∀es' cl',HY es' (Pa m s v)→K undef (Fc A r (.map es' cl'))):Ja P (do Instr.mapUpdate t (.map (some r)) (.string s) v;Pure.pure undef) A K:=fun h hA=>
 cg ht hk (hA _ _ hr) hm fun es' cl' h1=>⟨_,(SV hA hr).1,(SV hA hr).2,hK es' cl' h1⟩
end
theorem Ak.use{P:Program}{g:FuncId}{args:Array Value}{A A0:AH}{K0 K:Value→AH→Prop}(hc:Ak P g args A0 K0)(hs:SubA A0 A)(h0: ∀v D,K0 v D→ ∀b,AA A0 b≠none→AA D b≠none)
  (X:AH) (hX:SubA X A) (hd:Dis A0 X) (hk: ∀v D,K0 v D→Dis D X→ ∃E,SubA E D∧K v (E++X)):Ak P g args A K:=by
 have hf:Ak P g args A fun v A'=> ∃A'',SubA A'' A'∧K v A'':=by
  refine Ak.frame hc hs fun v D hv=>⟨h0 v D hv,fun hx=> ?_⟩
  have dD:Dis D X:=fun x hx1=>by
   cases hd1:AA D x with
   |none=>rfl
   |some o=>
    have:=hx x (by rw[hd1];simp) (hd x hx1)
    exact absurd (hX.none this) hx1
  obtain⟨E,h1,h2⟩:=hk v D hv dD
  exact⟨E++X,SubA.both (fun b o hl=>SubA.left _ _ b o (h1 b o hl)) (dD.sub hX),h2⟩
 intro h hA
 have:=hf h hA
 unfold Fl at this⊢
 have mono: ∀e h',KG A h (fun v A'=> ∃A'',SubA A'' A'∧K v A'') e h'→KG A h K e h':=by
  rintro e h' ⟨v,A',h1,h2,h3,A'',h4,h5⟩
  exact⟨v,A'',h1,h2.sub h4,h3.sub h4,h5⟩
 split
 ·rename_i hcal
  rw[if_pos hcal]at this
  exact this.mono0 mono
 ·rename_i hcal
  rw[if_neg hcal]at this
  intro w hw
  obtain⟨v,w',r1,r2,r3⟩:=this w hw
  exact⟨v,w',r1,r2,mono _ _ r3⟩
theorem Ja.use{P:Program}{s:Sem Value}{A:AH}{K:Value→AH→Prop}(hr:Ja P s A fun v A'=> ∃A'',SubA A'' A'∧K v A''):Ja P s A K:=fun h hA w hw=>by
 obtain⟨v,w',r1,r2,A',h1,h2,A'',h3,h4⟩:=hr h hA w hw
 exact⟨v,w',r1,r2,A'',h1.sub h3,h2.sub h3,h4⟩
theorem Dis.subl{D E X:AH}(d:Dis D X)(h:SubA E D):Dis E X:=fun x hx=>h.none (d x hx)
end Go.Vm
