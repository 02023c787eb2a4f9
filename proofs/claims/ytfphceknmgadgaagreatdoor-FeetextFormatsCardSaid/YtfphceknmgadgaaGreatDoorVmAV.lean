/-
Appending a text's bytes to a slice of the call's own.
Conditions: none. Generic: it speaks of no program.
-/
import Derived.Test.YtfphceknmgadgaaGreatDoorVmAB
import Derived.Lib.AppendStr
set_option linter.unusedSimpArgs false
set_option linter.unusedVariables false
namespace Go.Vm
theorem Tj{P:Program}{t u ty e:TypeId}{A B:AH}{K:Value→AH→Prop}{n:Nat}{v:Value}{xs:List Value}{s:ByteArray}
  (hs:PR P t=some (e,1,1)) (hu:P.underlying u=some .string) (hz:DU P e=some (.int .u8 0)) (h0:0<s.size)
  (hown:GB e 1 v B n xs) (hB:SubA B A) (h63:n+s.size≤maxLen) (hbytes:n+s.size≤140737488355328)
  (hK: ∀v' B',GB e 1 v' B' (n+s.size) (xs++Lib.strCells s)→(∀b,AA B' b≠none→AA B b≠none∨AA A b=none)→K v' (B'++A)):
  Ja P (Builtin.append_ #[t,u] ty #[v,.string s]) A K:=by
 intro h hA w hw
 subst hw
 obtain⟨ht,i,hi,e1,e2⟩:=Fg hs
 have hz':i.zero=some (.int .u8 0):=by unfold DU at hz;rw[hi]at hz;exact hz
 simp only at e1 e2
 have hsz:(Value.int .u8 0).cells.size=1:=rfl
 have hl:(Lib.strCells s).length=s.size:=Lib.strCells_length s
 have h1:=Lib.strCells_oneCell s
 generalize hm:s.size=m at*
 generalize hnw:Lib.strCells s=news at*
 have hlen:(xs++news).length=(n+m)*1:=by rw[List.length_append,hown.1,hl];omega
 have h63':n+m≤9223372036854775807:=by simp only[maxLen]at h63;omega
 have fresh: ∀(cap:Nat) (old:Nat),cap=grownCap w (n+m) old e→GB e 1 (.slice (some ⟨w.heap.size,0,none⟩) (n+m) cap) [(w.heap.size,.cells (xs.toArray++news.toArray++Builtin.zeroCells (Value.int .u8 0).cells (cap - (n+m))) e)] (n+m) (xs++news):=by
  intro cap old hc
  have hge:=grownCap_ge w (n+m) old e
  have hcm:=grownCap_le_maxLen w (n+m) old e h63
  rw[←hc]at hge hcm
  refine⟨hlen,.inr ⟨_,cap,_,rfl,rfl,hge,hcm, ?_, ?_⟩⟩
  ·simp only[Array.size_append,List.size_toArray,size_zeroCells,hsz,hown.1,hl]
   omega
  ·simp only[Array.toList_append,List.append_assoc]
   rw[←List.append_assoc,←hlen]
   exact List.take_left
 have grew: ∀o:Obj,Dq ((w.heap.size,o)::A) (w.heap.push o)∧Cc A w.heap ((w.heap.size,o)::A) (w.heap.push o):=fun o=>⟨hA.push,Cc.push⟩
 have newb: ∀(o:Obj) (b:Nat),AA [(w.heap.size,o)] b≠none→AA B b≠none∨AA A b=none:=by
  intro o b hb
  simp only[AA]at hb
  split at hb
  ·rename_i e;subst e;exact .inr (hA.none_of_size (Nat.le_refl _))
  ·exact absurd rfl hb
 obtain⟨hxl,hv⟩:=hown
 rcases hv with⟨rfl,rfl,rfl⟩|⟨gb,cap,cur,rfl,rfl,hnc,hcm,hcs,htake⟩
 ·have hx:xs=[]:=List.eq_nil_of_length_eq_zero (by simpa using hxl)
  subst hx
  have hr:=run_append_nil_string (P:=P) w t u ty e i _ ht hu hi hz' s (by omega) (by omega) (by rw[hm,e2];omega)
  have hgr:=fresh (grownCap w (0+m) 0 e) 0 rfl
  have hst:s.data.map (fun b=>Value.int .u8 (b.toNat:Int))=news.toArray:=by
   rw[←hnw]
   apply Array.ext'
   simp[Lib.strCells]
  rw[hst,hm]at hr
  simp only[Nat.zero_add,List.nil_append,Array.empty_append]at hgr hr
  refine⟨_,_,hr,⟨rfl,rfl,rfl⟩,_,(grew _).1,(grew _).2, ?_⟩
  have:=hK _ _ (by simpa using hgr) (newb _)
  exact this
 ·have hgA:AA A gb=some (.cells cur e):=hB gb _ (by simp[AA])
  have hgb:=hA gb _ hgA
  by_cases hroom:n+m≤cap
  ·have hfit:n+m≤cur.size:=by rw[hcs];omega
   have hr:=Lib.run_append_room_string (P:=P) w t u ty e i ht hu hi e1 gb n cap cur hgb s (by rw[hm];exact hroom) (by rw[hm];exact hfit)
   rw[hnw,hm]at hr
   refine⟨_,_,hr,⟨rfl,rfl,rfl⟩,[(gb,.cells (cur.toList.take n++news++cur.toList.drop (n+m)).toArray e)]++A,fun b o hl2=> ?_,⟨by simp,fun b hb hl2=> ?_⟩,hK _ _ ⟨hlen,.inr ⟨gb,cap,_,rfl,rfl,hroom,hcm, ?_, ?_⟩⟩ (fun b hb=> ?_)⟩
   ·simp only[List.cons_append,List.nil_append,AA]at hl2
    split at hl2
    ·rename_i e1
     subst e1
     rw[←hl2]
     exact setRow_heap w gb cur _ e _ hgb
    ·rename_i e1
     rw[setRow_other w gb b _ (fun h=>e1 h.symm)]
     exact hA b o hl2
   ·have hne:b≠gb:=fun h=>by rw[h,hgA]at hl2;cases hl2
    refine⟨setRow_other w gb b _ hne, ?_⟩
    simp only[List.cons_append,List.nil_append,AA]
    rw[if_neg (fun h=>hne h.symm),hl2]
   ·simp only[List.size_toArray,List.length_append,List.length_take,List.length_drop,Array.length_toList]
    omega
   ·simp only[Nat.mul_one]at htake hlen⊢
    rw[htake,←hlen]
    exact List.take_left
   ·simp only[AA]at hb⊢
    split at hb
    ·left;simp[*]
    ·exact absurd rfl hb
  ·have holds: ∀j u,xs[j]? =some u→w.cell? ((⟨gb,0,none⟩:Addr).add j)=some u:=by
    intro j u hj
    rw[FZ]
    simp only[World.cell?,hgb]
    rw[←htake]at hj
    rw[List.getElem?_take]at hj
    split at hj
    ·simpa using hj
    ·cases hj
   have hr:=Lib.run_append_grow_string (P:=P) w t u ty e i _ ht hu hi hz' ⟨gb,0,none⟩ n cap xs (by rw[e1];exact hxl) holds s (by rw[hm];omega) (by rw[hm];omega) (growslice_fits (by rw[hm];omega) (by rw[hm,e2];omega))
   rw[hnw,hm]at hr
   refine⟨_,_,hr,⟨rfl,rfl,rfl⟩,_,(grew _).1,(grew _).2, ?_⟩
   exact hK _ _ (fresh _ cap rfl) (newb _)
end Go.Vm
