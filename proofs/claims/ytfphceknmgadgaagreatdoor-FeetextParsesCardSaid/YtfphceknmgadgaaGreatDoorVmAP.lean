/-
Append over known blocks: at a slice that is nil or has a row of its own.
Conditions: none. Generic: it speaks of no program.
-/
import Derived.Test.YtfphceknmgadgaaGreatDoorVmAE
set_option linter.unusedSimpArgs false
set_option linter.unusedVariables false
namespace Go.Vm
def GF(e:TypeId)(size:Nat)(v:Value)(B:AH)(n:Nat)(xs:List Value):Prop:=
 xs.length=n*size∧((v=.slice none 0 0∧B=[]∧n=0)∨ ∃g cap cur,v=.slice (some ⟨g,0,none⟩) n cap∧B=[(g,.cells cur e)]∧n≤cap∧cap≤maxLen∧cur.size=cap*size∧cur.toList.take (n*size)=xs)
theorem GF.nil(e:TypeId)(size:Nat):GF e size (.slice none 0 0) [] 0 []:=⟨by simp,.inl ⟨rfl,rfl,rfl⟩⟩
theorem GF.at{e:TypeId}{size g n:Nat}{xs:List Value}(h:xs.length=n*size)(hn:n≤maxLen):GF e size (.slice (some ⟨g,0,none⟩) n n) [(g,.cells xs.toArray e)] n xs:=
 ⟨h,.inr ⟨g,n,xs.toArray,rfl,rfl,Nat.le_refl _,hn,by simpa using h,by rw[←h];simp⟩⟩
theorem GF.read{e:TypeId}{size:Nat}{v:Value}{B:AH}{n:Nat}{xs:List Value}(o:GF e size v B n xs)(hn:0<n):
  ∃g cap cur,v=.slice (some ⟨g,0,none⟩) n cap∧B=[(g,.cells cur e)]∧ ∀i,i<n→D0 (some (.cells cur e)) (i*size) size=some ((xs.drop (i*size)).take size).toArray:=by
 obtain⟨h1,h2⟩:=o
 rcases h2 with⟨_,_,h3⟩|⟨g,cap,cur,rfl,rfl,h5,h6,h7,h8⟩
 ·omega
 ·refine⟨g,cap,cur,rfl,rfl,fun i hi=> ?_⟩
  have e1:i*size+size≤n*size:=by rw[←Nat.succ_mul];exact Nat.mul_le_mul_right _ hi
  have e2:n*size≤cap*size:=Nat.mul_le_mul_right _ h5
  rw[DX,if_pos (by omega)]
  congr 1
  apply Array.ext'
  simp only[Array.toList_extract]
  rw[←h8]
  simp only[List.extract_eq_take_drop,List.drop_take,List.take_take]
  congr 1
  omega
theorem JK{B A:AH}{x:Nat}(h:AA B x=none):AA (B++A) x=AA A x:=by rw[By,h]
theorem AJ{B A:AH}{x:Nat}(h:AA B x=none)(h2:AA A x=none):AA (B++A) x=none:=by rw[JK h,h2]
theorem DN.app{ν:Nu}{B A:AH}(f:DN ν (B++A))(i:Nat):AA B (ν i)=none:=by
 have:=f.2 i
 rw[By]at this
 cases h:AA B (ν i)with
 |none=>rfl
 |some o=>rw[h]at this;cases this
theorem SubA.app{B A C:AH}(h:SubA A C):SubA (B++A) (B++C):=fun b o hl=>by
 rw[By]at hl⊢
 cases hb:AA B b with
 |some u=>rw[hb]at hl;exact hl
 |none=>rw[hb]at hl;exact h b o hl
theorem SubA.skip{A C:AH}{x:Nat}{o:Obj}(hx:AA A x=Option.none)(h:SubA A C):SubA A ((x,o)::C):=fun b u hl=>by
 simp only[AA]
 rw[if_neg (fun e=>by rw[e,hl]at hx;cases hx)]
 exact h b u hl
theorem SubA.trans{A B C:AH}(h:SubA A B)(k:SubA B C):SubA A C:=fun b o hl=>k b o (h b o hl)
theorem SubA.left(B A:AH):SubA B (B++A):=fun b o hl=>by rw[By,hl]
theorem SubA.right{B A:AH}(h: ∀b,AA A b≠Option.none→AA B b=Option.none):SubA A (B++A):=fun b o hl=>by rw[JK (h b (by rw[hl];simp))];exact hl
theorem El{c:Array Value}{e:TypeId}{fr:Nat×Nat}{o n:Nat}{l:List Value}(h:D0 (some (.cells c e fr)) o n=some l.toArray):l.length=n∧ ∀j u,l[j]? =some u→c[o+j]? =some u:=by
 unfold D0 at h
 simp only at h
 split at h
 ·rename_i hle
  have h1:=Option.some.inj h
  have h2:l=(c.extract o (o+n)).toList:=by rw[h1]
  refine⟨by rw[h2];simp;omega,fun j u hj=> ?_⟩
  rw[h2]at hj
  simp only[Array.getElem?_toList,Array.getElem?_extract]at hj
  split at hj
  ·exact hj
  ·cases hj
 ·cases h
theorem MV{P:Program}{t ty e:TypeId}{size bytes:Nat}{z:Value}{A B:AH}{K:Value→AH→Prop}{n m c g off:Nat}{v:Value}{xs news:List Value}
  (hs:O5 P t=some (e,size,bytes)) (hz:DD P e=some z) (hzs:z.cells.size=size) (hsz:0<size)
  (hown:GF e size v B n xs) (hB:SubA B A) (hr:D0 (AA A g) off (m*size)=some news.toArray) (h1: ∀u∈news,u.oneCell'=true)
  (h63:n+m≤maxLen) (hbytes:(n+m)*bytes≤140737488355328)
  (hK: ∀v' B',GF e size v' B' (n+m) (xs++news)→(∀b,AA B' b≠none→AA B b≠none∨AA A b=none)→K v' (B'++A)):
  NJ P (Builtin.append_ #[t,t] ty #[v,.slice (some ⟨g,off,none⟩) m c]) A K:=by
 intro h hA w hw
 subst hw
 obtain⟨ht,i,hi,e1,e2⟩:=FP hs
 have hz':i.zero=some z:=by unfold DD at hz;rw[hi]at hz;exact hz
 simp only at e1 e2
 subst e1
 subst e2
 obtain⟨cc,ce,cfr,hlook⟩:=Ek hr
 rw[hlook]at hr
 obtain⟨hl,hcell⟩:=El hr
 have hnews: ∀j u,news[j]? =some u→w.cell? ((⟨g,off,none⟩:Addr).add j)=some u:=by
  intro j u hj
  rw[Fa]
  have:=hA _ _ hlook
  simp only[World.cell?,this]
  simpa using hcell j u hj
 have hlen:(xs++news).length=(n+m)*i.size:=by rw[List.length_append,hown.1,hl,Nat.add_mul]
 have h63':n+m≤9223372036854775807:=by simp only[maxLen]at h63;omega
 -- a new row
 have fresh: ∀(cap:Nat) (old:Nat),cap=grownCap w (n+m) old e→GF e i.size (.slice (some ⟨w.heap.size,0,none⟩) (n+m) cap) [(w.heap.size,.cells (xs.toArray++news.toArray++Builtin.zeroCells z.cells (cap - (n+m))) e)] (n+m) (xs++news):=by
  intro cap old hc
  have hge:=grownCap_ge w (n+m) old e
  have hcm:=grownCap_le_maxLen w (n+m) old e h63
  rw[←hc]at hge hcm
  refine⟨hlen,.inr ⟨_,cap,_,rfl,rfl,hge,hcm, ?_, ?_⟩⟩
  ·simp only[Array.size_append,List.size_toArray,size_zeroCells,hzs,hown.1,hl,←Nat.add_mul]
   congr 1
   omega
  ·simp only[Array.toList_append,List.append_assoc]
   rw[←List.append_assoc,←hlen]
   exact List.take_left
 have grew: ∀o:Obj,DO ((w.heap.size,o)::A) (w.heap.push o)∧Ca A w.heap ((w.heap.size,o)::A) (w.heap.push o):=fun o=>⟨hA.push,Ca.push⟩
 have newb: ∀(o:Obj) (b:Nat),AA [(w.heap.size,o)] b≠none→AA B b≠none∨AA A b=none:=by
  intro o b hb
  simp only[AA]at hb
  split at hb
  ·rename_i e;subst e;exact .inr (hA.none_of_size (Nat.le_refl _))
  ·exact absurd rfl hb
 obtain⟨hxl,hv⟩:=hown
 rcases hv with⟨rfl,rfl,rfl⟩|⟨gb,cap,cur,rfl,rfl,hnc,hcm,hcs,htake⟩
 ·have hx:xs=[]:=List.eq_nil_of_length_eq_zero (by simpa using hxl)
  subst hx
  by_cases hm:m=0
  ·subst hm
   have hn:news=[]:=List.eq_nil_of_length_eq_zero (by simpa using hl)
   subst hn
   refine⟨.slice none 0 0,w, ?_,⟨rfl,rfl,rfl⟩,A,hA,Ca.refl _ _, ?_⟩
   ·simp[Builtin.append_,run_underlying ht,sizeOf,typeInfo,hi,Builtin.lenOf,Builtin.firstCells,loadCells,loadCellsFrom]
   ·have:=hK (.slice none 0 0) [] (GF.nil e i.size) (fun b hb=>absurd rfl hb)
    simpa using this
  ·have hr:=run_append_nil (P:=P) w t ty e i z ht hi hz' ⟨g,off,none⟩ m c news hl hnews (by omega) (by omega) (by have hb:=hbytes;simp only[Nat.zero_add]at hb;omega)
   have hgr:=fresh (grownCap w (0+m) 0 e) 0 rfl
   simp only[Nat.zero_add,List.nil_append,Array.empty_append]at hgr hr
   refine⟨_,_,hr,⟨rfl,rfl,rfl⟩,_,(grew _).1,(grew _).2, ?_⟩
   have:=hK _ _ (by simpa using hgr) (newb _)
   exact this
 ·have hgA:AA A gb=some (.cells cur e):=hB gb _ (by simp[AA])
  have hgb:=hA gb _ hgA
  by_cases hroom:n+m≤cap
  ·have hfit:n*i.size+news.length≤cur.size:=by rw[hl,hcs,←Nat.add_mul];exact Nat.mul_le_mul_right _ hroom
   have hr:=run_append_room (P:=P) w t ty e i ht hi gb n cap cur hgb ⟨g,off,none⟩ m c news hl hnews h1 hroom hfit
   refine⟨_,_,hr,⟨rfl,rfl,rfl⟩,[(gb,.cells (cur.toList.take (n*i.size)++news++cur.toList.drop (n*i.size+news.length)).toArray e)]++A,fun b o hl2=> ?_,⟨by simp,fun b hb hl2=> ?_⟩,hK _ _ ⟨hlen,.inr ⟨gb,cap,_,rfl,rfl,hroom,hcm, ?_, ?_⟩⟩ (fun b hb=> ?_)⟩
   ·simp only[List.cons_append,List.nil_append,AA]at hl2
    split at hl2
    ·rename_i e1
     subst e1
     rw[←hl2]
     exact setRow_heap w gb cur _ e _ hgb
    ·rename_i e1
     rw[setRow_other w gb b _ (fun h=>e1 h.symm)]
     exact hA b o hl2
   ·have hne:b≠gb:=fun h=>by rw[h,hgA]at hl2;cases hl2
    refine⟨setRow_other w gb b _ hne, ?_⟩
    simp only[List.cons_append,List.nil_append,AA]
    rw[if_neg (fun h=>hne h.symm),hl2]
   ·simp only[List.size_toArray,List.length_append,List.length_take,List.length_drop,Array.length_toList]
    omega
   ·rw[htake,←hlen]
    exact List.take_left
   ·simp only[AA]at hb⊢
    split at hb
    ·left;simp[*]
    ·exact absurd rfl hb
  ·have holds: ∀j u,xs[j]? =some u→w.cell? ((⟨gb,0,none⟩:Addr).add j)=some u:=by
    intro j u hj
    rw[Fa]
    simp only[World.cell?,hgb]
    rw[←htake]at hj
    rw[List.getElem?_take]at hj
    split at hj
    ·simpa using hj
    ·cases hj
   have hr:=run_append_grow (P:=P) w t ty e i z ht hi hz' ⟨gb,0,none⟩ n cap xs hxl holds ⟨g,off,none⟩ m c news hl hnews (by omega) (by omega) (growslice_fits (by omega) hbytes)
   refine⟨_,_,hr,⟨rfl,rfl,rfl⟩,_,(grew _).1,(grew _).2, ?_⟩
   exact hK _ _ (fresh _ cap rfl) (newb _)
end Go.Vm
