/-
Texts without fractions; the grammar of fee tables; lines and spaces between tables.
Conditions: none.
-/
import Derived.Test.YtfphceknmgadgaaGreatDoorQa
import Derived.Test.YtfphceknmgadgaaGreatDoorQg
set_option linter.unusedSimpArgs false
set_option linter.unusedVariables false
namespace Go.Proofs.YtfphceknmgadgaaGreatDoor
open Go.Vm
set_option maxHeartbeats 2000000
set_option maxRecDepth 20000
def CK:List UInt8→Nat
 | []=>0
 |c::l=>if BJ c.toNat=true then CK l+1 else 0
theorem KX: ∀l:List UInt8,CK l≤l.length
 | []=>by simp[CK]
 |c::l=>by
  have:=KX l
  simp only[CK,List.length_cons]
  split<;>omega
def JJ(l:List UInt8):Option (Nat×Nat):=
 match l.drop (CK l)with
 |c::m=>if c=46 then(if CK m=0 then none else match m.drop (CK m)with
  |d::_=>if d=37 then some (CK l,CK m+1)else none
  | []=>none)else none
 | []=>none
theorem E5{l:List UInt8}{d k:Nat}(h:JJ l=some (d,k)):d=CK l∧d+k<l.length∧2≤k:=by
 unfold JJ at h
 split at h
 ·rename_i c m hm
  split at h
  ·split at h
   ·cases h
   ·rename_i hne
    split at h
    ·rename_i x y hy
     split at h
     ·simp only[Option.some.injEq,Prod.mk.injEq]at h
      obtain⟨rfl,rfl⟩:=h
      have h1:=congrArg List.length hm
      have h2:=congrArg List.length hy
      simp only[List.length_drop,List.length_cons]at h1 h2
      exact⟨rfl,by omega,by omega⟩
     ·cases h
    ·cases h
  ·cases h
 ·cases h
def Du(c:UInt8):List UInt8→Nat
 | []=>0
 |x::l=>if x=c then 1 else Du c l+1
theorem HV(c:UInt8): ∀l:List UInt8,Du c l≤l.length
 | []=>by simp[Du]
 |x::l=>by
  have:=HV c l
  simp only[Du,List.length_cons]
  split<;>omega
def pN:Nat→Bool→List UInt8→List UInt8
 |0,_,l=>l
 |_+1,_,[]=>[]
 | f+1,w,c::r=>
  if c=35 then c::(r.take (Du 10 r)++pN f false (r.drop (Du 10 r)))
  else if c=34 then c::(r.take (Du 34 r)++pN f false (r.drop (Du 34 r)))
  else if BJ c.toNat=true∧w=false then
   match JJ (c::r)with
   |some (d,k)=>(c::r).take d++(List.replicate k 32++pN f false ((c::r).drop (d+k)))
   |none=>c::pN f true r
  else c::pN f (CA c.toNat) r
def dO(l:List UInt8):List UInt8:=pN l.length false l
theorem lX(f:Nat)(w:Bool):pN f w []=[]:=by cases f<;>rfl
theorem KC: ∀(f:Nat) (w:Bool) (l:List UInt8),(pN f w l).length=l.length
 |0,_,_=>rfl
 |f+1,_,[]=>rfl
 | f+1,w,c::r=>by
  simp only[pN]
  split
  ·have:=HV 10 r
   rw[List.length_cons,List.length_append,KC,List.length_take,List.length_drop,List.length_cons];omega
  split
  ·have:=HV 34 r
   rw[List.length_cons,List.length_append,KC,List.length_take,List.length_drop,List.length_cons];omega
  split
  ·split
   ·rename_i d k h
    obtain⟨h1,h2,h3⟩:=E5 h
    simp only[List.length_append,List.length_replicate,KC,List.length_take,List.length_drop,List.length_cons]at h2⊢
    omega
   ·rw[List.length_cons,KC,List.length_cons]
  ·rw[List.length_cons,KC,List.length_cons]
theorem M6(l:List UInt8):(dO l).length=l.length:=KC _ _ _
theorem Gf: ∀(f g:Nat) (w:Bool) (l:List UInt8),l.length≤f→l.length≤g→pN f w l=pN g w l
 |f,g,w,[],_,_=>by rw[lX,lX]
 |0,_,_,c::r,h,_=>by simp at h
 |_+1,0,_,c::r,_,h=>by simp at h
 | f+1,g+1,w,c::r,hf,hg=>by
  simp only[List.length_cons]at hf hg
  simp only[pN]
  split
  ·rw[Gf f g false _ (by rw[List.length_drop];omega) (by rw[List.length_drop];omega)]
  split
  ·rw[Gf f g false _ (by rw[List.length_drop];omega) (by rw[List.length_drop];omega)]
  split
  ·split
   ·rename_i d k h
    obtain⟨h1,h2,h3⟩:=E5 h
    rw[Gf f g false _ (by rw[List.length_drop,List.length_cons];omega) (by rw[List.length_drop,List.length_cons];omega)]
   ·rw[Gf f g true r (by omega) (by omega)]
  ·rw[Gf f g _ r (by omega) (by omega)]
def pW(w:Bool)(l:List UInt8):List UInt8:=pN l.length w l
theorem Gt(w:Bool):pW w []=[]:=rfl
theorem EC(w:Bool)(c:UInt8)(r:List UInt8):pW w (c::r)=
  if c=35 then c::(r.take (Du 10 r)++pW false (r.drop (Du 10 r)))
  else if c=34 then c::(r.take (Du 34 r)++pW false (r.drop (Du 34 r)))
  else if BJ c.toNat=true∧w=false then
   match JJ (c::r)with
   |some (d,k)=>(c::r).take d++(List.replicate k 32++pW false ((c::r).drop (d+k)))
   |none=>c::pW true r
  else c::pW (CA c.toNat) r:=by
 unfold pW
 rw[List.length_cons,pN]
 split
 ·rw[Gf _ _ _ _ (by rw[List.length_drop];omega) (Nat.le_refl _)]
 split
 ·rw[Gf _ _ _ _ (by rw[List.length_drop];omega) (Nat.le_refl _)]
 split
 ·split
  ·rename_i d k h
   obtain⟨h1,h2,h3⟩:=E5 h
   rw[Gf _ _ _ _ (by rw[List.length_drop,List.length_cons];omega) (Nat.le_refl _)]
  ·rfl
 ·rfl
theorem pW_len(w:Bool)(l:List UInt8):(pW w l).length=l.length:=KC _ _ _
theorem W9(l:List UInt8):dO l=pW false l:=rfl
end Go.Proofs.YtfphceknmgadgaaGreatDoor
namespace Go.Proofs.YtfphceknmgadgaaGreatDoor
open Go.Vm
set_option maxHeartbeats 2000000
set_option maxRecDepth 20000
def cN:Nat→Bool→List UInt8→Bool
 |0,_,_=>true
 |_+1,_,[]=>true
 | f+1,w,c::r=>
  if c=35 then cN f false (r.drop (Du 10 r))
  else if c=34 then decide (34∈r)&&cN f false (r.drop (Du 34 r))
  else if BJ c.toNat=true∧w=false then
   match JJ (c::r)with
   |some (d,k)=>cN f false ((c::r).drop (d+k))
   |none=>cN f true r
  else cN f (CA c.toNat) r
theorem i8(f:Nat)(w:Bool):cN f w []=true:=by cases f<;>rfl
theorem GX: ∀(f g:Nat) (w:Bool) (l:List UInt8),l.length≤f→l.length≤g→cN f w l=cN g w l
 |f,g,w,[],_,_=>by rw[i8,i8]
 |0,_,_,c::r,h,_=>by simp at h
 |_+1,0,_,c::r,_,h=>by simp at h
 | f+1,g+1,w,c::r,hf,hg=>by
  simp only[List.length_cons]at hf hg
  simp only[cN]
  split
  ·rw[GX f g false _ (by rw[List.length_drop];omega) (by rw[List.length_drop];omega)]
  split
  ·rw[GX f g false _ (by rw[List.length_drop];omega) (by rw[List.length_drop];omega)]
  split
  ·split
   ·rename_i d k h
    obtain⟨h1,h2,h3⟩:=E5 h
    rw[GX f g false _ (by rw[List.length_drop,List.length_cons];omega) (by rw[List.length_drop,List.length_cons];omega)]
   ·rw[GX f g true r (by omega) (by omega)]
  ·rw[GX f g _ r (by omega) (by omega)]
def cW(w:Bool)(l:List UInt8):Bool:=cN l.length w l
theorem JU(w:Bool)(c:UInt8)(r:List UInt8):cW w (c::r)=
  if c=35 then cW false (r.drop (Du 10 r))
  else if c=34 then decide (34∈r)&&cW false (r.drop (Du 34 r))
  else if BJ c.toNat=true∧w=false then
   match JJ (c::r)with
   |some (d,k)=>cW false ((c::r).drop (d+k))
   |none=>cW true r
  else cW (CA c.toNat) r:=by
 unfold cW
 rw[List.length_cons,cN]
 split
 ·rw[GX _ _ _ _ (by rw[List.length_drop];omega) (Nat.le_refl _)]
 split
 ·rw[GX _ _ _ _ (by rw[List.length_drop];omega) (Nat.le_refl _)]
 split
 ·split
  ·rename_i d k h
   obtain⟨h1,h2,h3⟩:=E5 h
   rw[GX _ _ _ _ (by rw[List.length_drop,List.length_cons];omega) (Nat.le_refl _)]
  ·rfl
 ·rfl
theorem SM(r:List UInt8): ∀l:List UInt8,CK (l++10::r)=CK l
 | []=>by simp[CK,BJ]
 |c::l=>by simp only[List.cons_append,CK,SM r l]
theorem frL_nl(l r:List UInt8):JJ (l++10::r)=JJ l:=by
 have hd:=KX l
 unfold JJ
 rw[SM,List.drop_append_of_le_length hd]
 cases hl:l.drop (CK l)with
 |nil=>simp
 |cons c m=>
  have hm:=KX m
  simp only[List.cons_append]
  rw[SM,List.drop_append_of_le_length hm]
  cases hm2:m.drop (CK m)with
  |nil=>simp
  |cons d n=>simp
theorem Sk{c:UInt8}(x:UInt8)(r:List UInt8): ∀{l:List UInt8},c∈l→Du c (l++x::r)=Du c l
 | [],h=>by cases h
 |y::l,h=>by
  simp only[List.cons_append,Du]
  by_cases hy:y=c
  ·rw[if_pos hy,if_pos hy]
  ·rw[if_neg hy,if_neg hy,Sk x r (by
    rcases List.mem_cons.1 h with e|e
    ·exact absurd e.symm hy
    ·exact e)]
theorem Mt{c:UInt8}(r:List UInt8): ∀{l:List UInt8},c∉l→Du c (l++c::r)=l.length+1∧Du c l=l.length
 | [],_=>by simp[Du]
 |y::l,h=>by
  have hy:y≠c:=fun e=>h (by rw[e];exact List.mem_cons_self ..)
  obtain⟨h1,h2⟩:=Mt r (l:=l) (fun e=>h (List.mem_cons_of_mem _ e))
  simp only[List.cons_append,Du,if_neg hy,h1,h2,List.length_cons,and_self]
theorem QV: ∀(n:Nat) (l:List UInt8) (w:Bool) (r:List UInt8),l.length≤n→cW w l=true→pW w (l++10::r)=pW w l++10::pW false r
 |_,[],w,r,_,_=>by
  have h1:BJ (10:UInt8).toNat=false:=rfl
  have h2:CA (10:UInt8).toNat=false:=rfl
  rw[List.nil_append,EC,if_neg (by decide),if_neg (by decide),if_neg (by rw[h1];simp),h2,Gt,List.nil_append]
 |0,c::l,_,_,h,_=>by simp at h
 | n+1,c::l,w,r,hn,hc=>by
  simp only[List.length_cons]at hn
  rw[JU]at hc
  have ef:JJ (c::(l++10::r))=JJ (c::l):=frL_nl (c::l) r
  have et:c::(l++10::r)=(c::l)++10::r:=rfl
  rw[List.cons_append,EC,EC w c l,ef]
  by_cases h35:c=35
  ·rw[if_pos h35]at hc
   rw[if_pos h35,if_pos h35]
   by_cases hin:(10:UInt8)∈l
   ·have hu:=HV 10 l
    rw[Sk 10 r hin,List.take_append_of_le_length hu,List.drop_append_of_le_length hu,QV n _ false r (by rw[List.length_drop];omega) hc]
    simp
   ·obtain⟨h1,h2⟩:=Mt r hin
    rw[h1,h2,List.take_length,List.drop_length]
    have e1:(l++10::r).take (l.length+1)=l++[10]:=by rw[List.take_append,List.take_of_length_le (by omega)];simp
    have e2:(l++10::r).drop (l.length+1)=r:=by rw[List.drop_append];simp
    rw[e1,e2,Gt];simp
  rw[if_neg h35]at hc
  rw[if_neg h35,if_neg h35]
  by_cases h34:c=34
  ·rw[if_pos h34,Bool.and_eq_true,decide_eq_true_eq]at hc
   rw[if_pos h34,if_pos h34]
   have hu:=HV 34 l
   rw[Sk 10 r hc.1,List.take_append_of_le_length hu,List.drop_append_of_le_length hu,QV n _ false r (by rw[List.length_drop];omega) hc.2]
   simp
  rw[if_neg h34]at hc
  rw[if_neg h34,if_neg h34]
  by_cases hd:BJ c.toNat=true∧w=false
  ·rw[if_pos hd]at hc
   rw[if_pos hd,if_pos hd]
   cases hf:JJ (c::l)with
   |none=>
    rw[hf]at hc
    simp only at hc⊢
    rw[QV n l true r (by omega) hc];simp
   |some p=>
    obtain⟨d,k⟩:=p
    obtain⟨h1,h2,h3⟩:=E5 hf
    rw[List.length_cons]at h2
    rw[hf]at hc
    simp only at hc⊢
    rw[et,List.take_append_of_le_length (by rw[List.length_cons];omega),List.drop_append_of_le_length (by rw[List.length_cons];omega),QV n _ false r (by rw[List.length_drop,List.length_cons];omega) hc]
    simp
  ·rw[if_neg hd]at hc
   rw[if_neg hd,if_neg hd,QV n l _ r (by omega) hc];simp
end Go.Proofs.YtfphceknmgadgaaGreatDoor
namespace Go.Proofs.YtfphceknmgadgaaGreatDoor
open Go.Vm
set_option maxHeartbeats 2000000
set_option maxRecDepth 20000
theorem Lv: ∀c,c<256→DA c=true→BJ c=false∧CA c=false∧c≠35∧c≠34:=by decide+kernel
theorem rP: ∀c,c<256→F0 c=true→BJ c=false∧CA c=false∧c≠35∧c≠34:=by decide+kernel
theorem VG: ∀c,c<256→CA c=true→c≠35∧c≠34∧c≠10∧DA c=false:=by decide+kernel
theorem Je{c:UInt8}{n:Nat}(h:c.toNat≠n)(hn:n<256):c≠UInt8.ofNat n:=fun e=>h (by rw[e];simp;omega)
theorem DT{w:Bool}{c:UInt8}(r:List UInt8)(h35:c.toNat≠35)(h34:c.toNat≠34)(hd: ¬(BJ c.toNat=true∧w=false)):pW w (c::r)=c::pW (CA c.toNat) r:=by
 have h1:c≠35:=Je h35 (by decide)
 have h2:c≠34:=Je h34 (by decide)
 rw[EC,if_neg h1,if_neg h2,if_neg hd]
theorem Fw{w:Bool}{c:UInt8}(r:List UInt8)(h35:c.toNat≠35)(h34:c.toNat≠34)(hd: ¬(BJ c.toNat=true∧w=false)):cW w (c::r)=cW (CA c.toNat) r:=by
 have h1:c≠35:=Je h35 (by decide)
 have h2:c≠34:=Je h34 (by decide)
 rw[JU,if_neg h1,if_neg h2,if_neg hd]
theorem TD(Y:List UInt8): ∀r:List UInt8,(10∈r∨Y=[])→Cs true (r.take (Du 10 r)++Y)=Du 10 r+Cs false Y
 | [],h=>by
  rcases h with h|h
  ·cases h
  ·subst h;simp[Du,Cs]
 | c::r,h=>by
  by_cases hc:c=10
  ·subst hc
   simp[Du,Cs];omega
  ·have hn:c.toNat≠10:=fun e=>hc (by rw[←UInt8.toNat_inj];exact e)
   have ih:=TD Y r (by
    rcases h with h|h
    ·exact .inl ((List.mem_cons.1 h).resolve_left fun e=>hc e.symm)
    ·exact .inr h)
   simp only[Du,if_neg hc,List.take_succ_cons,List.cons_append,Cs,Bool.true_or,if_true,hn,decide_false,Bool.not_false,Bool.and_true]
   rw[ih];omega
theorem ao: ∀(n:Nat) (l:List UInt8) (w:Bool),l.length≤n→ ∃w',(pW w l).drop (Cs false (pW w l))=pW w' (l.drop (Cs false (pW w l)))∧cW w l=cW w' (l.drop (Cs false (pW w l)))∧(Cs false (pW w l)=0→w'=w)
 |_,[],w,_=>⟨w,by simp[Gt],by simp[Gt],fun _=>rfl⟩
 |0,c::l,w,h=>by simp at h
 | n +1,c::r,w,hn=>by
  simp only[List.length_cons]at hn
  have hc:=Dl c
  by_cases hb:DA c.toNat=true
  ·obtain⟨b1,b2,b3,b4⟩:=Lv _ hc hb
   have e1:=DT (w:=w) r b3 b4 (by rw[b1];simp)
   have e2:=Fw (w:=w) r b3 b4 (by rw[b1];simp)
   rw[b2]at e1 e2
   have hk:Cs false (c::pW false r)=Cs false (pW false r)+1:=by simp[Cs,hb,b3]
   obtain⟨w',h1,h2,_⟩:=ao n r false (by omega)
   rw[e1,e2,hk]
   exact⟨w',by rw[List.drop_succ_cons,List.drop_succ_cons,h1],by rw[List.drop_succ_cons,h2],fun h=>by omega⟩
  by_cases h35:c=35
  ·subst h35
   have hu:=HV 10 r
   have e1:pW w (35::r)=35::(r.take (Du 10 r)++pW false (r.drop (Du 10 r))):=by rw[EC,if_pos rfl]
   have e2:cW w (35::r)=cW false (r.drop (Du 10 r)):=by rw[JU,if_pos rfl]
   have hs:Cs true (r.take (Du 10 r)++pW false (r.drop (Du 10 r)))=Du 10 r+Cs false (pW false (r.drop (Du 10 r))):=by
    refine TD _ r ?_
    by_cases hin:(10:UInt8)∈r
    ·exact .inl hin
    ·refine .inr ?_
     rw[(Mt [] hin).2,List.drop_length,Gt]
   have hk:Cs false (35::(r.take (Du 10 r)++pW false (r.drop (Du 10 r))))=Du 10 r+Cs false (pW false (r.drop (Du 10 r)))+1:=by
    rw[←hs];simp[Cs]
   obtain⟨w',h1,h2,_⟩:=ao n (r.drop (Du 10 r)) false (by rw[List.length_drop];omega)
   rw[e1,e2,hk]
   refine⟨w', ?_, ?_,fun h=>by omega⟩
   ·rw[List.drop_succ_cons,List.drop_succ_cons,List.drop_append,List.drop_eq_nil_of_le (by rw[List.length_take];omega),List.nil_append,List.length_take,Nat.min_eq_left hu,Nat.add_sub_cancel_left,h1,List.drop_drop]
   ·rw[List.drop_succ_cons,h2,List.drop_drop]
  ·have hn35:c.toNat≠35:=fun e=>h35 (by rw[←UInt8.toNat_inj];exact e)
   have hz: ∀X,Cs false (c::X)=0:=fun X=>by simp[Cs,hb,hn35]
   have hh: ∃X,pW w (c::r)=c::X:=by
    rw[EC,if_neg h35]
    split
    ·exact⟨_,rfl⟩
    split
    ·rename_i hdig
     split
     ·rename_i d k hf
      have hd:=(E5 hf).1
      have:CK (c::r)=CK r+1:=by simp only[CK,hdig.1,if_true]
      rw[hd,this,List.take_succ_cons]
      exact⟨_,rfl⟩
     ·exact⟨_,rfl⟩
    ·exact⟨_,rfl⟩
   obtain⟨X,hX⟩:=hh
   have h0:Cs false (pW w (c::r))=0:=by rw[hX];exact hz X
   rw[h0]
   exact⟨w,by simp,by simp,fun _=>rfl⟩
theorem p9: ∀r:List UInt8,∃w',BW (pW true r)=BW r∧(pW true r).drop (BW r)=pW w' (r.drop (BW r))∧cW true r=cW w' (r.drop (BW r))
 | []=>⟨true,rfl,by simp[BW],by simp[BW]⟩
 | x::y=>by
  have hc:=Dl x
  by_cases hx:CA x.toNat=true
  ·obtain⟨a1,a2,_,_⟩:=VG _ hc hx
   have e1:=DT (w:=true) y a1 a2 (by simp)
   have e2:=Fw (w:=true) y a1 a2 (by simp)
   rw[hx]at e1 e2
   obtain⟨w',h1,h2,h3⟩:=p9 y
   have hw:BW (x::y)=BW y+1:=by simp only[BW,hx,if_true]
   rw[e1,e2,hw]
   refine⟨w', ?_, ?_, ?_⟩
   ·simp only[BW,hx,if_true,h1]
   ·rw[List.drop_succ_cons,List.drop_succ_cons,h2]
   ·rw[List.drop_succ_cons,h3]
  ·have hw:BW (x::y)=0:=by simp only[BW,hx,if_false];simp
   have hh: ∃X,pW true (x::y)=x::X:=by
    rw[EC]
    split
    ·exact⟨_,rfl⟩
    split
    ·exact⟨_,rfl⟩
    rw[if_neg (by simp)]
    exact⟨_,rfl⟩
   obtain⟨X,hX⟩:=hh
   refine⟨true, ?_,by rw[hw];rfl,by rw[hw];rfl⟩
   rw[hX,hw];simp only[BW,hx,if_false];simp
theorem Nf: ∀{l:List UInt8} {k:Nat},Dh l=some k→(34:UInt8)∈l∧Du 34 l=k+1
 | [],k,h=>by simp[Dh]at h
 | c ::l,k,h=>by
  simp only[Dh]at h
  by_cases hc:c.toNat=34
  ·rw[if_pos hc]at h
   have:c=34:=by rw[←UInt8.toNat_inj];exact hc
   cases h
   exact⟨by rw[this];exact List.mem_cons_self ..,by simp[Du,this]⟩
  ·rw[if_neg hc]at h
   have hne:c≠34:=fun e=>hc (by rw[e];rfl)
   split at h
   ·cases h
   ·split at h
    ·rename_i q hq
     cases h
     obtain⟨h1,h2⟩:=Nf hq
     exact⟨List.mem_cons_of_mem _ h1,by simp only[Du,if_neg hne,h2]⟩
    ·cases h
theorem Vr{c:UInt8}(Y:List UInt8): ∀{r:List UInt8},c∈r→Du c (r.take (Du c r)++Y)=Du c r
 | [],h=>by cases h
 | x::r,h=>by
  by_cases hx:x=c
  ·simp[Du,hx]
  ·have:=Vr Y (r:=r) ((List.mem_cons.1 h).resolve_left fun e=>hx e.symm)
   simp only[Du,if_neg hx,List.take_succ_cons,List.cons_append,this]
theorem QP: ∀(l:List UInt8) (Y:List UInt8),BW (l.take (CK l)++32::Y)=CK l
 | [],Y=>by simp[CK,BW,CA,Ca,BJ]
 | c::l,Y=>by
  by_cases hc:BJ c.toNat=true
  ·have hw:CA c.toNat=true:=by simp[CA,hc]
   have:=QP l Y
   simp only[CK,hc,if_true,List.take_succ_cons,List.cons_append,BW,hw,this]
  ·simp only[CK,hc,if_false,List.take_zero,List.nil_append]
   simp[BW,CA,Ca,BJ]
theorem j6(Y:List UInt8): ∀k,Cs false (List.replicate k 32++Y)=k+Cs false Y
 |0=>by simp
 |k+1=>by
  rw[List.replicate_succ,List.cons_append]
  have:=j6 Y k
  simp only[Cs]
  simp[DA,this];omega
theorem NY: ∀(b:Bool) (l:List UInt8),Cs false (l.drop (Cs b l))=0
 |_,[]=>by simp[Cs]
 | b,c::l=>by
  by_cases hb:(b||(DA c.toNat||decide (c.toNat=35)))=true
  ·simp only[Cs,hb,if_true,List.drop_succ_cons]
   exact NY _ l
  ·have h2:(DA c.toNat||decide (c.toNat=35))=false:=by
    cases b<;>simp_all
   have e1:Cs b (c::l)=0:=by simp only[Cs];rw[if_neg hb]
   rw[e1,List.drop_zero]
   simp only[Cs,Bool.false_or,h2]
   simp
theorem Zg(w:Bool)(c:UInt8)(r:List UInt8): ∃X,pW w (c::r)=c::X:=by
 rw[EC]
 split
 ·exact⟨_,rfl⟩
 split
 ·exact⟨_,rfl⟩
 split
 ·rename_i hdig
  split
  ·rename_i d k hf
   have hd:=(E5 hf).1
   have:CK (c::r)=CK r+1:=by simp only[CK,hdig.1,if_true]
   rw[hd,this,List.take_succ_cons]
   exact⟨_,rfl⟩
  ·exact⟨_,rfl⟩
 ·exact⟨_,rfl⟩
theorem nF{P s:ByteArray}(hsz:P.size=s.size): ∀(f i:Nat) (w:Bool),P.size<i+f→i≤P.size→P.toList.drop i=pW w (s.toList.drop i)→Cs false (P.toList.drop i)=0→(B8 P f i).1=0→cW w (s.toList.drop i)=true:=by
 intro f
 induction f with
 |zero=>intro i w h hi;omega
 | succ f ih=>
  intro i w h hi hP h0 hok
  by_cases hend:P.size≤i
  ·rw[List.drop_eq_nil_of_le (by rw[Ah];omega)];rfl
  by_cases he:(BV P i).e=0
  rotate_left
  ·rw[FK f hend he]at hok;exact absurd hok he
  rw[Ef f hend he rfl]at hok
  obtain⟨n1,n2⟩:=Eo P i (by omega) he
  have next: ∀(m:Nat) (w':Bool),(BV P i).nx+Cs false (P.toList.drop (BV P i).nx)=m+Cs false (P.toList.drop m)→i<m→m≤P.size→P.toList.drop m=pW w' (s.toList.drop m)→cW w' (s.toList.drop m)=true:=fun m w' hm him hmp hn=>by
   obtain⟨w2,k1,k2,_⟩:=ao (s.toList.drop m).length (s.toList.drop m) w' (Nat.le_refl _)
   rw[←hn]at k1 k2
   rw[k2,List.drop_drop]
   rw[List.drop_drop,List.drop_drop]at k1
   have hle:=HR P m hmp
   rw[hm]at hok
   refine ih _ w2 (by omega) hle k1 ?_ hok
   rw[←List.drop_drop]
   exact NY _ _
  obtain⟨c,r,hl⟩:=EH (s:=s) (i:=i) (by omega)
  have hc:=Dl c
  have hlen:i+(r.length+1)=s.size:=by
   have:=congrArg List.length hl
   rw[List.length_drop,Ah,List.length_cons]at this
   omega
  have hd1: ∀k,s.toList.drop (i+k)=(c::r).drop k:=fun k=>by rw[←hl,List.drop_drop]
  rw[hl]at hP⊢
  have hp1: ∀k,P.toList.drop (i+k)=(pW w (c::r)).drop k:=fun k=>by rw[←hP,List.drop_drop]
  obtain⟨X,hX⟩:=Zg w c r
  rw[hP,hX]at h0
  have hnb:DA c.toNat=false∧c.toNat≠35:=by
   simp only[Cs]at h0
   by_cases hq:(false||(DA c.toNat||decide (c.toNat=35)))=true
   ·rw[if_pos hq]at h0;omega
   ·simpa using hq
  have hlex:BV P i=if Dk (c::X)=true then⟨4,P.extract i (i+2),0,i,i+2,0⟩
   else if Ca c.toNat=true then(if 16<BW (c::X)then bad 3 else⟨1,P.extract i (i+BW (c::X)),0,i,i+BW (c::X),0⟩)
   else if BJ c.toNat=true then(if(EO (P.extract i (i+BW (c::X))).toList).2≠0 then bad (EO (P.extract i (i+BW (c::X))).toList).2 else⟨2,⟨#[]⟩,(EO (P.extract i (i+BW (c::X))).toList).1,i,i+BW (c::X),0⟩)
   else if c.toNat=34 then EX P i
   else if F0 c.toNat=true then⟨4,P.extract i (i+1),0,i,i+1,0⟩else bad 2:=by
   unfold BV;rw[hP,hX]
  -- a word
  have word:CA c.toNat=true→pW w (c::r)=c::pW true r→cW w (c::r)=cW true r→(BV P i).nx=i+BW (c::X)→cW w (c::r)=true:=fun hw e1 e2 hnx=>by
   obtain⟨w',k1,k2,k3⟩:=p9 r
   rw[e1]at hX hp1
   have hXe:X=pW true r:=by simpa using hX.symm
   subst hXe
   have hwl:BW (c::pW true r)=BW r+1:=by simp only[BW,hw,if_true,k1]
   rw[hwl]at hnx
   have hwr:=GO r
   have:=next (i+(BW r+1)) w' (by rw[hnx]) (by omega) (by omega) (by rw[hp1,hd1,List.drop_succ_cons,List.drop_succ_cons,k2])
   rw[hd1,List.drop_succ_cons]at this
   rw[e2,k3,this]
  by_cases hp2:Dk (c::X)=true
  ·rw[hlex,if_pos hp2]at n1 n2 next
   simp only at n1 n2 next
   have hcc:(c=33∨c=60)∧X.head? =some 61:=by
    simp only[Dk,Bool.or_eq_true]at hp2
    rcases hp2 with q|q
    ·obtain⟨a,b,_⟩:=Gs _ _ _ _ q;exact⟨.inl a,b⟩
    ·obtain⟨a,b,_⟩:=Gs _ _ _ _ q;exact⟨.inr a,b⟩
   obtain⟨hcc,hXh⟩:=hcc
   have hcn:BJ c.toNat=false∧CA c.toNat=false∧c.toNat≠35∧c.toNat≠34:=by rcases hcc with rfl|rfl<;>decide
   have e1:=DT (w:=w) r hcn.2.2.1 hcn.2.2.2 (by rw[hcn.1];simp)
   have e2:=Fw (w:=w) r hcn.2.2.1 hcn.2.2.2 (by rw[hcn.1];simp)
   rw[hcn.2.1]at e1 e2
   rw[e1]at hX hp1
   have hXe:X=pW false r:=by simpa using hX.symm
   subst hXe
   cases r with
   |nil=>rw[Gt]at hXh;cases hXh
   |cons y r'=>
    obtain⟨X',hX'⟩:=Zg false y r'
    rw[hX']at hXh
    have hy:y=61:=by simpa using hXh
    subst hy
    have f1:=DT (w:=false) (c:=61) r' (by decide) (by decide) (by decide)
    have f2:=Fw (w:=false) (c:=61) r' (by decide) (by decide) (by decide)
    have hw61:CA (61:UInt8).toNat=false:=by decide
    rw[hw61]at f1 f2
    rw[f1]at hp1
    have:=next (i+2) false rfl (by omega) (by simp only[List.length_cons]at hlen;omega) (by rw[hp1,hd1];rfl)
    rw[hd1]at this
    rw[e2,f2]
    exact this
  rw[if_neg hp2]at hlex
  by_cases hlt:Ca c.toNat=true
  ·rw[if_pos hlt]at hlex
   obtain⟨a1,a2,_,a4,_,_⟩:=HN _ hc hlt
   have hw:CA c.toNat=true:=by simp[CA,hlt]
   have e1:=DT (w:=w) r a4 a2 (by rw[a1];simp)
   have e2:=Fw (w:=w) r a4 a2 (by rw[a1];simp)
   rw[hw]at e1 e2
   refine word hw e1 e2 ?_
   rw[hlex]at he⊢
   split at he
   ·simp[bad]at he
   ·rename_i hq;rw[if_neg hq]
  rw[if_neg hlt]at hlex
  by_cases hdg:BJ c.toNat=true
  ·rw [if_pos hdg]at hlex
   obtain⟨_,a2,_,a4,_,_,hw⟩:=Fo _ hc hdg
   have hnx:(BV P i).nx=i+BW (c::X):=by
    rw[hlex]at he⊢
    split at he
    ·rename_i hq;exact absurd he hq
    ·rename_i hq;rw[if_neg hq]
   have h35:c≠35:=Je a4 (by decide)
   have h34:c≠34:=Je a2 (by decide)
   by_cases hwf:w=false
   ·subst hwf
    cases hf:JJ (c::r)with
    |none=>
     refine word hw ?_ ?_ hnx
     ·rw[EC,if_neg h35,if_neg h34,if_pos ⟨hdg,rfl⟩,hf]
     ·rw[JU,if_neg h35,if_neg h34,if_pos ⟨hdg,rfl⟩,hf]
    | some p=>
     obtain⟨d,k⟩:=p
     obtain⟨q1,q2,q3⟩:=E5 hf
     rw[List.length_cons]at q2
     have e1:pW false (c::r)=(c::r).take d++(List.replicate k 32++pW false ((c::r).drop (d+k))):=by rw[EC,if_neg h35,if_neg h34,if_pos ⟨hdg,rfl⟩,hf]
     have e2:cW false (c::r)=cW false ((c::r).drop (d+k)):=by rw[JU,if_neg h35,if_neg h34,if_pos ⟨hdg,rfl⟩,hf]
     have hwl:BW (c::X)=d:=by
      rw[←hX,e1,q1]
      obtain⟨k',rfl⟩: ∃k',k=k'+1:=⟨k - 1,by omega⟩
      rw[List.replicate_succ,List.cons_append]
      exact QP _ _
     rw[hwl]at hnx
     have hlt':((c::r).take d).length=d:=by rw[List.length_take,List.length_cons];omega
     have hd2:(pW false (c::r)).drop d=List.replicate k 32++pW false ((c::r).drop (d+k)):=by rw[e1,List.drop_append,List.drop_eq_nil_of_le (by omega),hlt',Nat.sub_self];rfl
     have hd3:(pW false (c::r)).drop (d+k)=pW false ((c::r).drop (d+k)):=by rw[←List.drop_drop,hd2,List.drop_append,List.drop_eq_nil_of_le (by simp),List.length_replicate,Nat.sub_self];rfl
     have hpm:P.toList.drop (i+(d+k))=pW false ((c::r).drop (d+k)):=by rw[hp1,hd3]
     have hpd:P.toList.drop (i+d)=List.replicate k 32++pW false ((c::r).drop (d+k)):=by rw[hp1,hd2]
     have:=next (i+(d+k)) false (by rw[hnx,hpd,j6,hpm];omega) (by omega) (by omega) (by rw[hpm,hd1])
     rw[hd1]at this
     rw[e2,this]
   ·have hwt:w=true:=by simpa using hwf
    subst hwt
    have e1:=DT (w:=true) r a4 a2 (by simp)
    have e2:=Fw (w:=true) r a4 a2 (by simp)
    rw[hw]at e1 e2
    exact word hw e1 e2 hnx
  rw[if_neg hdg]at hlex
  by_cases h34:c.toNat=34
  ·rw[if_pos h34]at hlex
   have hce:c=34:=by rw[←UInt8.toNat_inj];exact h34
   subst hce
   have e1:pW w (34::r)=34::(r.take (Du 34 r)++pW false (r.drop (Du 34 r))):=by rw[EC,if_neg (by decide),if_pos rfl]
   have e2:cW w (34::r)=(decide (34∈r)&&cW false (r.drop (Du 34 r))):=by rw[JU,if_neg (by decide),if_pos rfl]
   have hpp:P.toList.drop (i+1)=r.take (Du 34 r)++pW false (r.drop (Du 34 r)):=by rw[hp1,e1];rfl
   unfold EX at hlex
   rw[hpp]at hlex
   cases hq:Dh (r.take (Du 34 r)++pW false (r.drop (Du 34 r)))with
   |none=>rw[hq]at hlex;rw[hlex]at he;simp[bad]at he
   | some k=>
    rw[hq]at hlex
    simp only at hlex
    by_cases h100:100<k
    ·rw[if_pos h100]at hlex;rw[hlex]at he;simp[bad]at he
    rw[if_neg h100]at hlex
    obtain⟨m1,m2⟩:=Nf hq
    have hin:(34:UInt8)∈r:=by
     refine Classical.byContradiction fun hno=> ?_
     rw[(Mt [] hno).2,List.take_length,List.drop_length,Gt,List.append_nil]at m1
     exact hno m1
    rw[Vr _ hin]at m2
    have hu:=HV 34 r
    have hnx:(BV P i).nx=i+(Du 34 r+1):=by rw[hlex];simp only;omega
    have hlt':(r.take (Du 34 r)).length=Du 34 r:=by rw[List.length_take];omega
    have:=next (i+(Du 34 r+1)) false (by rw[hnx]) (by omega) (by omega) (by rw[hp1,hd1,e1,List.drop_succ_cons,List.drop_succ_cons,List.drop_append,List.drop_eq_nil_of_le (by omega),hlt',Nat.sub_self];rfl)
    rw[hd1,List.drop_succ_cons]at this
    rw[e2,this];simp[hin]
  rw[if_neg h34]at hlex
  by_cases hm:F0 c.toNat=true
  ·rw[if_pos hm]at hlex
   obtain⟨a1,a2,a3,a4⟩:=rP _ hc hm
   have e1:=DT (w:=w) r a3 a4 (by rw[a1];simp)
   have e2:=Fw (w:=w) r a3 a4 (by rw[a1];simp)
   rw[a2]at e1 e2
   have hnx:(BV P i).nx=i+1:=by rw[hlex]
   have:=next (i+1) false (by rw[hnx]) (by omega) (by omega) (by rw[hp1,hd1,e1];rfl)
   rw[hd1]at this
   rw[e2]
   exact this
  ·rw[if_neg hm]at hlex
   rw[hlex]at he
   simp[bad]at he
theorem bl{s:ByteArray}(h:(AV (bs (dO s.toList))).1=0):cW false s.toList=true:=by
 have hz:(bs (dO s.toList)).size=s.size:=by rw[Ao,M6,Ah]
 unfold AV at h
 split at h
 ·cases h
 obtain⟨w2,k1,k2,_⟩:=ao s.toList.length s.toList false (Nat.le_refl _)
 rw[BS]at h
 rw[W9]at h hz
 have hsk:=Fd false (pW false s.toList)
 rw[pW_len,Ah]at hsk
 rw[k2]
 refine nF (P:=bs (pW false s.toList)) hz _ _ w2 (by omega) (by omega) (by rw[BS];exact k1) (by rw[BS];exact NY _ _) h
end Go.Proofs.YtfphceknmgadgaaGreatDoor
namespace Go.Proofs.YtfphceknmgadgaaGreatDoor
open Go.Vm
set_option maxHeartbeats 2000000
set_option maxRecDepth 20000
theorem XB(r:List UInt8): ∀(b:Bool) (l:List UInt8),Cs b (l++10::r)=if Cs b l=l.length then l.length+(1+Cs false r)else Cs b l
 |b,[]=>by
  simp only[List.nil_append,Cs,List.length_nil,if_true]
  cases b<;>simp[DA]<;>omega
 | b,c::l=>by
  simp only[List.cons_append,Cs,List.length_cons]
  by_cases hc:(b||(DA c.toNat||decide (c.toNat=35)))=true
  ·simp only[hc,if_true]
   rw[XB r _ l]
   by_cases hh:Cs ((b||decide (c.toNat=35))&& !decide (c.toNat=10)) l=l.length
   ·rw[if_pos hh,if_pos (by omega)];omega
   ·rw[if_neg hh,if_neg (by omega)]
  ·simp only[hc,if_false]
   rw[if_neg (by simp)]
   simp
theorem jK{P Q R:ByteArray}(h:R.toList=P.toList++10::Q.toList): ∀(n' n i i':Nat),P.size<i+n→R.size<i'+n'→i≤P.size→i'=(if i=P.size then P.size+(1+Cs false Q.toList)else i)→(B8 P n i).1=0→
  ∃K,(B8 P n i).2.2=K++[Es P]∧(B8 R n' i').1=(B8 Q (Q.size+1) (Cs false Q.toList)).1∧((B8 R n' i').1=0→(B8 R n' i').2.2.map (La 0)=K.map (La 0)++(B8 Q (Q.size+1) (Cs false Q.toList)).2.2.map (La (P.size+1))):=by
 have hz:R.size=P.size+(1+Q.size):=by rw[←Ah,h,List.length_append,List.length_cons,Ah,Ah];omega
 have hd: ∀k,k≤P.size→R.toList.drop k=P.toList.drop k++10::Q.toList:=fun k hk=>by rw[h,List.drop_append_of_le_length (by rw[Ah];exact hk)]
 have hq:R.toList=(P.toList++[10])++Q.toList:=by rw[h];simp
 have hql:(P.toList++[10]).length=P.size+1:=by rw[List.length_append,Ah];rfl
 have hkq:=Fd false Q.toList
 rw[Ah]at hkq
 intro n'
 induction n' with
 |zero=>intro n i i' h1 h2 h3 h4;split at h4<;>omega
 | succ n' ih=>
  intro n i i' h1 h2 h3 h4 hok
  cases n with
  |zero=>omega
  | succ n=>
   by_cases hi:i=P.size
   ·rw[if_pos hi]at h4
    obtain⟨g1,g2,g3⟩:=cF hq (n'+1) (Q.size+1) (Cs false Q.toList) (by omega) (by omega) hkq
    rw[hql,show Cs false Q.toList+(P.size+1)=i' by omega]at g1 g3
    refine⟨[],by rw[EU n (by omega)];rfl,g1,fun _=>by rw[g3];rfl⟩
   ·rw[if_neg hi]at h4
    subst h4
    have hl:=dK h i' (by omega)
    by_cases he:(BV P i').e=0
    rotate_left
    ·rw[FK n (by omega) he]at hok;exact absurd hok he
    obtain⟨g1,g2⟩:=Eo P i' (by omega) he
    have hk:=Fd false (P.toList.drop (BV P i').nx)
    rw[List.length_drop,Ah]at hk
    rw[Ef n (by omega) he rfl]at hok⊢
    have hok':(B8 P n ((BV P i').nx+Cs false (P.toList.drop (BV P i').nx))).1=0:=hok
    have hsk:Cs false (R.toList.drop (BV P i').nx)=if Cs false (P.toList.drop (BV P i').nx)=P.size - (BV P i').nx then P.size - (BV P i').nx+(1+Cs false Q.toList)else Cs false (P.toList.drop (BV P i').nx):=by
     rw[hd _ g2,XB,List.length_drop,Ah]
    obtain⟨K,k1,k2,k3⟩:=ih n ((BV P i').nx+Cs false (P.toList.drop (BV P i').nx)) ((BV P i').nx+Cs false (R.toList.drop (BV P i').nx)) (by omega) (by
     rw[hsk];split<;>omega) (by omega) (by
     rw[hsk]
     by_cases hh:Cs false (P.toList.drop (BV P i').nx)=P.size - (BV P i').nx
     ·rw[if_pos hh,if_pos (by omega)];omega
     ·rw[if_neg hh,if_neg (by omega)]) hok'
    rw[Ef n' (by omega) (by rw[hl];exact he) (j:=(BV P i').nx+Cs false (R.toList.drop (BV P i').nx)) (by rw[hl]),hl]
    refine⟨BV P i'::K, ?_,k2,fun h0=> ?_⟩
    ·simp only[hok',if_true,k1];rfl
    ·have h0':(B8 R n' ((BV P i').nx+Cs false (R.toList.drop (BV P i').nx))).1=0:=h0
     simp only[h0',if_true,List.map_cons,List.cons_append,k3 h0']
theorem dy{P Q R:ByteArray}(h:R.toList=P.toList++10::Q.toList)(hz:R.size≤4000)(hP:(AV P).1=0):
  ∃K,(AV P).2.2=K++[Es P]∧(AV R).1=(AV Q).1∧((AV R).1=0→(AV R).2.2.map (La 0)=K.map (La 0)++(AV Q).2.2.map (La (P.size+1))):=by
 have hz':R.size=P.size+(1+Q.size):=by rw[←Ah,h,List.length_append,List.length_cons,Ah,Ah];omega
 have hk:=Fd false P.toList
 rw[Ah]at hk
 unfold AV at hP⊢
 rw[if_neg (by omega)]at hP
 rw[if_neg (by omega),if_neg (by omega),if_neg (by omega)]
 have hsk:Cs false R.toList=if Cs false P.toList=P.size then P.size+(1+Cs false Q.toList)else Cs false P.toList:=by
  rw[h,XB,Ah]
 have hkq:=Fd false Q.toList
 rw[Ah]at hkq
 exact jK h (R.size+1) (P.size+1) (Cs false P.toList) (Cs false R.toList) (by omega) (by rw[hsk];split<;>omega) hk hsk hP
end Go.Proofs.YtfphceknmgadgaaGreatDoor
namespace Go.Proofs.YtfphceknmgadgaaGreatDoor
open Go.Vm
set_option maxHeartbeats 2000000
set_option maxRecDepth 20000
structure Fu where
 nm:ByteArray
 w:Xs
 bps:Int
 fx:Int
 mn:Int
 mx:Int
def G9:ByteArray:=⟨#[102,101,101]⟩
def Gl:ByteArray:=⟨#[109,105,110]⟩
def Gp:ByteArray:=⟨#[109,97,120]⟩
def mS(s:ByteArray):Bool:=Ju s||decide (s.toList=G9.toList)||decide (s.toList=Gl.toList)||decide (s.toList=Gp.toList)
def PG(x:LR):Bool:=decide (x.k=1)&& !(mS x.t)
def D4(nm:ByteArray)(l:List Fu):Bool:=l.any fun u=>decide (u.nm.toList=nm.toList)
def Hg(l:List UInt8):Bool:= !l.isEmpty&&l.all fun c=>BJ c.toNat
def D9(l:List UInt8):Nat:=Cd l 0
def gN(w:List UInt8):Bool:=Hg w&& !(decide (1<w.length)&&decide (w.head? =some 48))
def Nd(s:List UInt8):Int×Int:=
 if s=[]then(0,1)
 else if s.getLast? ≠some 37 then(0,2)
 else if gN (s.dropLast.take (CK s.dropLast))=false then(0,2)
 else match s.dropLast.drop (CK s.dropLast)with
  | []=>if 3<CK s.dropLast then(0,4)else if 10000<D9 (s.dropLast.take (CK s.dropLast))*100 then(0,4)else((D9 (s.dropLast.take (CK s.dropLast))*100:Nat),0)
  |c::f=>if c≠46∨2<f.length∨Hg f=false∨f.getLast? =some 48 then(0,2)
   else if 3<CK s.dropLast then(0,4)
   else if 10000<D9 (s.dropLast.take (CK s.dropLast))*100+(if f.length=2 then D9 f else D9 f*10)then(0,4)
   else((D9 (s.dropLast.take (CK s.dropLast))*100+(if f.length=2 then D9 f else D9 f*10):Nat),0)
def YS(s:List UInt8):Option Int:=if(Nd s).2=0 then some (Nd s).1 else none
def ET(L:List LR)(i:Nat):Nat:=(Bp L i).a
def Ed(x:LR):Bool:=Bs x 4 ⟨#[58]⟩
def cy(L:List LR):Nat→Nat→Nat
 |0,i=>i
 |f+1,i=>if(Bp L i).k=0∨Ed (Bp L i)=true then i else cy L f (i+1)
def exJ(L:List LR)(i:Nat):Nat:=cy L (L.length - i) i
def opN(L:List LR)(k:Int)(w:ByteArray)(i:Nat):Except Nat (Int×Nat):=
 if Bs (Bp L i) k w=true then(if(Bp L (i+1)).k=2 then .ok ((Bp L (i+1)).n,i+2)else .error (i+1))else .ok (0,i)
def PX(L:List LR)(us:List Fu)(i:Nat):Option (Int×Nat):=
 if 64≤us.length∧Bs (Bp L i) 1 G9=true then some (3,i)
 else if Bs (Bp L i) 1 G9=false then some (2,i)
 else if PG (Bp L (i+1))=false then some (2,i+1)
 else if D4 (Bp L (i+1)).t us=true then some (7,i+1)
 else if Bs (Bp L (i+2)) 1 ⟨#[119,104,101,110]⟩=false then some (2,i+2)else none
def fuT(s:ByteArray)(L:List LR)(j:Nat):Except Nat ((Int×Int×Int×Int)×Nat):=
 if Ed (Bp L j)=false then .error j
 else if(Bp L (j+1)).k≠2 then .error (j+1)
 else if Bs (Bp L (j+2)) 4 ⟨#[37]⟩=false then .error (j+2)
 else match YS (s.extract (ET L (j+1)) (ET L (j+2)+1)).toList with
  |none=>.error (j+1)
  | some b=>match opN L 4 ⟨#[43]⟩ (j+3)with
   | .error e=>.error e
   | .ok (fx,k)=>match opN L 1 Gl k with
    | .error e=>.error e
    | .ok (mn,k2)=>match opN L 1 Gp k2 with
     | .error e=>.error e
     | .ok (mx,k3)=>if Bs (Bp L k3) 4 ⟨#[59]⟩=false then .error k3 else .ok ((b,fx,mn,mx),k3+1)
def bh(pl:ByteArray)(L:List LR)(i:Nat):ByteArray:=pl.extract (ET L (i+3)) (ET L (exJ L (i+3)))
inductive FuE (s pl:ByteArray) (L:List LR) (us:List Fu) (i:Nat):Int→Nat→Prop
 |h {e:Int} {j:Nat}:PX L us i=some (e,j)→FuE s pl L us i e (ET L j)
 |x {e:Int} {a:Nat} {t:Xs}:PX L us i=none→PxO (bh pl L i) e a t→e≠0→FuE s pl L us i e (ET L (i+3)+a)
 |t {t:Xs} {k:Nat}:PX L us i=none→PxO (bh pl L i) 0 0 t→fuT s L (exJ L (i+3))=.error k→FuE s pl L us i 2 (ET L k)
inductive FuO (s pl:ByteArray) (L:List LR) (us:List Fu) (i:Nat):Fu→Nat→Prop
 |ok {t:Xs} {b fx mn mx:Int} {k:Nat}:PX L us i=none→PxO (bh pl L i) 0 0 t→fuT s L (exJ L (i+3))=.ok ((b,fx,mn,mx),k)→FuO s pl L us i ⟨(Bp L (i+1)).t,t,b,fx,mn,mx⟩ k
inductive FlO (s pl:ByteArray) (L:List LR):List Fu→Nat→List Fu→Nat→Prop
 |fin {us:List Fu} {i:Nat}:(Bp L i).k=0→FlO s pl L us i us i
 |step {us vs:List Fu} {u:Fu} {i j k:Nat}:(Bp L i).k≠0→FuO s pl L us i u j→FlO s pl L (us++[u]) j vs k→FlO s pl L us i vs k
inductive FlE (s pl:ByteArray) (L:List LR):List Fu→Nat→Int→Nat→Prop
 |err {us:List Fu} {e:Int} {i a:Nat}:(Bp L i).k≠0→FuE s pl L us i e a→FlE s pl L us i e a
 |step {us:List Fu} {u:Fu} {e:Int} {i j a:Nat}:(Bp L i).k≠0→FuO s pl L us i u j→FlE s pl L (us++[u]) j e a→FlE s pl L us i e a
def CO(s:ByteArray):ByteArray:=bs (dO s.toList)
inductive PfO (s:ByteArray):Int→Nat→List Fu→Prop
 |scan:(AV (CO s)).1≠0→PfO s (AV (CO s)).1 (AV (CO s)).2.1 []
 |er {e:Int} {a:Nat}:(AV (CO s)).1=0→FlE s (CO s) (AV (CO s)).2.2 [] 0 e a→PfO s e a []
 |ok {us:List Fu} {j:Nat}:(AV (CO s)).1=0→FlO s (CO s) (AV (CO s)).2.2 [] 0 us j→PfO s 0 0 us
section
variable {s pl:ByteArray} {L:List LR}
theorem FuE.ne{us:List Fu}{i a:Nat}{e:Int}(h:FuE s pl L us i e a):e≠0:=by
 cases h with
 |h h1=>
  unfold PX at h1
  repeat' split at h1
  all_goals first|(cases h1;done)|(cases h1;decide)
 |x _ _ h=>exact h
 |t=>decide
theorem FuE.det{us:List Fu}{i a a':Nat}{e e':Int}(h:FuE s pl L us i e a)(h':FuE s pl L us i e' a'):e=e'∧a=a':=by
 cases h with
 |h h1=>cases h' with
  |h g1=>rw[h1]at g1;cases g1;exact⟨rfl,rfl⟩
  |x g1=>rw[h1]at g1;cases g1
  |t g1=>rw[h1]at g1;cases g1
 |x h1 h2 h3=>cases h' with
  |h g1=>rw[h1]at g1;cases g1
  |x g1 g2=>obtain⟨rfl,rfl,rfl⟩:=h2.det g2;exact⟨rfl,rfl⟩
  |t g1 g2=>obtain⟨rfl,_⟩:=h2.det g2;exact absurd rfl h3
 |t h1 h2 h3=>cases h' with
  |h g1=>rw[h1]at g1;cases g1
  |x g1 g2 g3=>obtain⟨rfl,_⟩:=h2.det g2;exact absurd rfl g3
  |t g1 g2 g3=>rw[h3]at g3;cases g3;exact⟨rfl,rfl⟩
theorem FuE.not{us:List Fu}{i j a:Nat}{e:Int}{u:Fu}(h:FuE s pl L us i e a)(h':FuO s pl L us i u j):False:=by
 cases h' with
 |ok g1 g2 g3=>cases h with
  |h h1=>rw[g1]at h1;cases h1
  |x h1 h2 h3=>obtain⟨rfl,_⟩:=h2.det g2;exact h3 rfl
  |t h1 h2 h3=>rw[g3]at h3;cases h3
theorem FuO.det{us:List Fu}{i j j':Nat}{u u':Fu}(h:FuO s pl L us i u j)(h':FuO s pl L us i u' j'):u=u'∧j=j':=by
 cases h with
 |ok h1 h2 h3=>cases h' with
  |ok g1 g2 g3=>obtain⟨_,_,rfl⟩:=h2.det g2;rw[h3]at g3;cases g3;exact⟨rfl,rfl⟩
theorem FlO.det{us vs:List Fu}{i j:Nat}(h:FlO s pl L us i vs j): ∀{vs':List Fu} {j':Nat},FlO s pl L us i vs' j'→vs=vs'∧j=j':=by
 induction h with
 |fin h=>intro vs' j' h';cases h' with
  |fin=>exact⟨rfl,rfl⟩
  |step g=>exact absurd h g
 | step h1 h2 h3 ih=>intro vs' j' h';cases h' with
  |fin g=>exact absurd g h1
  |step g1 g2 g3=>
   obtain⟨rfl,rfl⟩:=h2.det g2
   exact ih g3
theorem FlE.det{us:List Fu}{i a:Nat}{e:Int}(h:FlE s pl L us i e a): ∀{e':Int} {a':Nat},FlE s pl L us i e' a'→e=e'∧a=a':=by
 induction h with
 |err h1 h2=>intro e' j' h';cases h' with
  |err g1 g2=>exact h2.det g2
  |step g1 g2 g3=>exact absurd g2 fun g=>h2.not g
 | step h1 h2 h3 ih=>intro e' j' h';cases h' with
  |err g1 g2=>exact absurd h2 fun g=>g2.not g
  |step g1 g2 g3=>
   obtain⟨rfl,rfl⟩:=h2.det g2
   exact ih g3
theorem FlE.not{us:List Fu}{i a:Nat}{e:Int}(h:FlE s pl L us i e a): ∀{vs:List Fu} {j':Nat},FlO s pl L us i vs j'→False:=by
 induction h with
 |err h1 h2=>intro vs j' h';cases h' with
  |fin g=>exact h1 g
  |step g1 g2 g3=>exact h2.not g2
 | step h1 h2 h3 ih=>intro vs j' h';cases h' with
  |fin g=>exact h1 g
  |step g1 g2 g3=>
   obtain⟨rfl,rfl⟩:=h2.det g2
   exact ih g3
end
theorem PfO.det{s:ByteArray}{e e':Int}{a a':Nat}{us us':List Fu}(h:PfO s e a us)(h':PfO s e' a' us'):e=e'∧a=a'∧us=us':=by
 cases h with
 |scan h0=>cases h' with
  |scan=>exact⟨rfl,rfl,rfl⟩
  |er g0=>exact absurd g0 h0
  |ok g0=>exact absurd g0 h0
 |er h0 h1=>cases h' with
  |scan g0=>exact absurd h0 g0
  |er g0 g1=>obtain⟨rfl,rfl⟩:=h1.det g1;exact⟨rfl,rfl,rfl⟩
  |ok g0 g1=>exact absurd g1 fun g=>h1.not g
 |ok h0 h1=>cases h' with
  |scan g0=>exact absurd h0 g0
  |er g0 g1=>exact absurd h1 fun g=>g1.not g
  |ok g0 g1=>obtain⟨rfl,rfl⟩:=h1.det g1;exact⟨rfl,rfl,rfl⟩
end Go.Proofs.YtfphceknmgadgaaGreatDoor
namespace Go.Proofs.YtfphceknmgadgaaGreatDoor
open Go.Vm
set_option maxHeartbeats 2000000
set_option maxRecDepth 20000
section
variable {x y:LR} (h:D6 x=D6 y)
include h
theorem Kt(k:Int)(t:ByteArray):Bs x k t=Bs y k t:=by unfold Bs;rw[(Cm h).1,(Cm h).2.1]
theorem lf:PG x=PG y:=by unfold PG;rw[(Cm h).1,(Cm h).2.1]
theorem SR:Ed x=Ed y:=Kt h _ _
end
structure Seg(s pl:ByteArray)(L:List LR)(n:Nat)(s' pl':ByteArray)(L':List LR)(d sg:Nat):Prop where
 key: ∀i,i<n→D6 (Bp L' (i+d))=D6 (Bp L i)
 pos: ∀i,i<n→ET L' (i+d)=ET L i+sg
 pe: ∀a b,pl'.extract (a+sg) (b+sg)=pl.extract a b∨pl.size<b
 tx: ∀a b,s'.extract (a+sg) (b+sg)=s.extract a b∨s.size<b
 lt: ∀i,i<n→ET L i+1≤s.size∧ET L i≤pl.size
 nz: ∀i,(Bp L i).k≠0→i<n
 nk: ∀{i},i<n→(Bp L i).k≠0
 n0:(Bp L n).k=0
 len:n<L.length
 len':n+d≤L'.length
theorem KF{x:LR}{k:Int}{t:ByteArray}(h:Bs x k t=true)(hk:k≠0):x.k≠0:=by rw[DK h];exact hk
theorem NB{L:List LR}: ∀(f i j:Nat),i≤j→j≤i+f→(∀m,i≤m→m<j→(Bp L m).k≠0∧Ed (Bp L m)=false)→((Bp L j).k=0∨Ed (Bp L j)=true)→cy L f i=j
 |0,i,j,h1,h2,_,_=>by simp only[cy];omega
 | f+1,i,j,h1,h2,h3,h4=>by
  simp only[cy]
  by_cases e:i=j
  ·subst e;rw[if_pos h4]
  ·obtain⟨a,b⟩:=h3 i (Nat.le_refl _) (by omega)
   rw[if_neg (by rw[b];simp[a]),NB f (i+1) j (by omega) (by omega) (fun m h5 h6=>h3 m (by omega) h6) h4]
theorem SC{L:List LR}: ∀(f i:Nat),i≤cy L f i∧cy L f i≤i+f∧(∀m,i≤m→m<cy L f i→(Bp L m).k≠0∧Ed (Bp L m)=false)
 |0,i=>⟨Nat.le_refl _,Nat.le_refl _,fun m h1 h2=>by simp only[cy]at h2;omega⟩
 | f+1,i=>by
  simp only[cy]
  by_cases h:(Bp L i).k=0∨Ed (Bp L i)=true
  ·rw[if_pos h];exact⟨Nat.le_refl _,by omega,fun m h1 h2=>by omega⟩
  ·rw[if_neg h]
   obtain⟨a,b,c⟩:=SC (L:=L) f (i+1)
   refine⟨by omega,by omega,fun m h1 h2=> ?_⟩
   by_cases e:m=i
   ·subst e;exact⟨fun h3=>h (.inl h3),by cases h4:Ed (Bp L m)with|true=>exact absurd (.inr h4) h|false=>rfl⟩
   ·exact c m (by omega) h2
section
variable {s pl s' pl':ByteArray} {L L':List LR} {n d sg:Nat} (H:Seg s pl L n s' pl' L' d sg)
include H
theorem Seg.opN{k:Int}{w:ByteArray}{i i2:Nat}{v:Int}(h:opN L k w i=.ok (v,i2))(hi:i2<n)(hk:k≠0):i≤i2∧opN L' k w (i+d)=.ok (v,i2+d):=by
 unfold Go.Proofs.YtfphceknmgadgaaGreatDoor.opN at h⊢
 split at h
 ·rename_i h1
  split at h
  ·rename_i h2
   cases h
   have e1:=H.key i (by omega)
   have e2:=H.key (i+1) (by omega)
   rw[show i+d+1=i+1+d by omega,Kt e1,if_pos h1,(Cm e2).1,if_pos h2,(Cm e2).2.2]
   exact⟨by omega,by rw[show i+d+2=i+2+d by omega]⟩
  ·cases h
 ·rename_i h1
  cases h
  have e1:=H.key i hi
  rw[Kt e1,if_neg h1]
  exact⟨Nat.le_refl _,rfl⟩
theorem Seg.fuT{j k:Nat}{q:Int×Int×Int×Int}(h:fuT s L j=.ok (q,k)):j<n∧k≤n∧j<k∧Ed (Bp L j)=true∧fuT s' L' (j+d)=.ok (q,k+d):=by
 unfold Go.Proofs.YtfphceknmgadgaaGreatDoor.fuT at h⊢
 split at h
 ·cases h
 rename_i h1
 have h1':Ed (Bp L j)=true:=by simpa using h1
 split at h
 ·cases h
 rename_i h2
 have h2':(Bp L (j+1)).k=2:=by simpa using h2
 split at h
 ·cases h
 rename_i h3
 have h3':Bs (Bp L (j+2)) 4 ⟨#[37]⟩=true:=by simpa using h3
 have n0:=H.nz j (KF h1' (by decide))
 have n1:=H.nz (j+1) (by rw[h2'];decide)
 have n2:=H.nz (j+2) (KF h3' (by decide))
 split at h
 ·cases h
 rename_i b hb
 split at h
 ·cases h
 rename_i fx k1 hk1
 split at h
 ·cases h
 rename_i mn k2 hk2
 split at h
 ·cases h
 rename_i mx k3 hk3
 split at h
 ·cases h
 rename_i h4
 have h4':Bs (Bp L k3) 4 ⟨#[59]⟩=true:=by simpa using h4
 have n3:=H.nz k3 (KF h4' (by decide))
 cases h
 have m3:k2≤k3:=by
  unfold Go.Proofs.YtfphceknmgadgaaGreatDoor.opN at hk3
  split at hk3
  ·split at hk3
   ·cases hk3;omega
   ·cases hk3
  ·cases hk3;omega
 have m2:k1≤k2:=by
  unfold Go.Proofs.YtfphceknmgadgaaGreatDoor.opN at hk2
  split at hk2
  ·split at hk2
   ·cases hk2;omega
   ·cases hk2
  ·cases hk2;omega
 obtain⟨_,o3⟩:=H.opN hk3 n3 (by decide)
 obtain⟨_,o2⟩:=H.opN hk2 (by omega) (by decide)
 obtain⟨m1,o1⟩:=H.opN hk1 (by omega) (by decide)
 have e0:=H.key j n0
 have e1:=H.key (j+1) n1
 have e2:=H.key (j+2) n2
 have e3:=H.key k3 n3
 have p1:=H.pos (j+1) n1
 have p2:=H.pos (j+2) n2
 have ht:s'.extract (ET L (j+1)+sg) (ET L (j+2)+sg+1)=s.extract (ET L (j+1)) (ET L (j+2)+1):=by
  rcases H.tx (ET L (j+1)) (ET L (j+2)+1)with h|h
  ·rw[←h];congr 1;omega
  ·have:=(H.lt (j+2) n2).1;omega
 refine⟨n0,by omega,by omega,h1', ?_⟩
 rw[show j+d+1=j+1+d by omega,show j+d+2=j+2+d by omega,show j+d+3=j+3+d by omega,SR e0,if_neg h1,(Cm e1).1,if_neg h2,Kt e2,if_neg h3,p1,p2,ht,hb]
 simp only[o1,o2,o3]
 rw[Kt e3,if_neg h4]
 simp only[Except.ok.injEq,Prod.mk.injEq,true_and]
 omega
theorem Seg.exJ{i j:Nat}(hi:i≤n)(hj:exJ L i=j)(hc:Ed (Bp L j)=true):i≤j∧j<n∧Go.Proofs.YtfphceknmgadgaaGreatDoor.exJ L' (i+d)=j+d:=by
 have nj:=H.nz j (KF hc (by decide))
 unfold Go.Proofs.YtfphceknmgadgaaGreatDoor.exJ at hj⊢
 obtain⟨a,b,c⟩:=SC (L:=L) (L.length - i) i
 rw[hj]at a b c
 refine⟨a,nj,NB _ _ _ (by omega) (by have:=H.len';omega) (fun m h1 h2=> ?_) (.inr ?_)⟩
 ·obtain⟨q1,q2⟩:=c (m - d) (by omega) (by omega)
  have e:=H.key (m - d) (by omega)
  rw[show m - d+d=m by omega]at e
  rw[(Cm e).1,SR e];exact⟨q1,q2⟩
 ·rw[SR (H.key j nj)];exact hc
theorem Seg.rule{us:List Fu}{i k:Nat}{u:Fu}(h:FuO s pl L us i u k):i<k∧k≤n∧us.length<64∧D4 u.nm us=false∧(Bp L i).k≠0∧ ∀vs:List Fu,
  (64≤vs.length→FuE s' pl' L' vs (i+d) 3 (ET L' (i+d)))∧(vs.length<64→D4 u.nm vs=true→FuE s' pl' L' vs (i+d) 7 (ET L' (i+1+d)))∧(vs.length<64→D4 u.nm vs=false→FuO s' pl' L' vs (i+d) u (k+d)):=by
 cases h with
 | @ok t b fx mn mx k h1 h2 h3=>
  obtain⟨t1,t2,t3,t4,t5⟩:=H.fuT h3
  unfold Go.Proofs.YtfphceknmgadgaaGreatDoor.PX at h1
  split at h1
  ·cases h1
  rename_i q1
  split at h1
  ·cases h1
  rename_i q2
  split at h1
  ·cases h1
  rename_i q3
  split at h1
  ·cases h1
  rename_i q4
  split at h1
  ·cases h1
  rename_i q5
  have q2':Bs (Bp L i) 1 G9=true:=by simpa using q2
  have q3':PG (Bp L (i+1))=true:=by simpa using q3
  have q5':Bs (Bp L (i+2)) 1 ⟨#[119,104,101,110]⟩=true:=by simpa using q5
  have q4':D4 (Bp L (i+1)).t us=false:=by simpa using q4
  have n0:=H.nz i (KF q2' (by decide))
  have n1:=H.nz (i+1) (by unfold PG at q3';simp only[Bool.and_eq_true,decide_eq_true_eq]at q3';rw[q3'.1];decide)
  have n2:=H.nz (i+2) (KF q5' (by decide))
  obtain⟨x1,x2,x3⟩:=H.exJ (i:=i+3) (by omega) rfl t4
  have e0:=H.key i n0
  have e1:=H.key (i+1) n1
  have e2:=H.key (i+2) n2
  have hlen:us.length<64:=by
   rcases Nat.lt_or_ge us.length 64 with h|h
   ·exact h
   ·exact absurd ⟨h,q2'⟩ q1
  refine⟨by omega,t2,hlen,q4',KF q2' (by decide),fun vs=>⟨fun hv=> ?_,fun hv hh=> ?_,fun hv hh=> ?_⟩⟩
  ·exact .h (by unfold Go.Proofs.YtfphceknmgadgaaGreatDoor.PX;rw[Kt e0,if_pos ⟨hv,q2'⟩])
  ·refine .h ?_
   unfold Go.Proofs.YtfphceknmgadgaaGreatDoor.PX
   rw[show i+d+1=i+1+d by omega,show i+d+2=i+2+d by omega,Kt e0,if_neg (fun h=>by omega),if_neg q2,lf e1,if_neg q3,(Cm e1).2.1,if_pos hh]
  ·have hH:PX L' vs (i+d)=none:=by
    unfold Go.Proofs.YtfphceknmgadgaaGreatDoor.PX
    rw[show i+d+1=i+1+d by omega,show i+d+2=i+2+d by omega,Kt e0,if_neg (fun h=>by omega),if_neg q2,lf e1,if_neg q3,(Cm e1).2.1,if_neg (by rw[hh];simp),Kt e2,if_neg q5]
   have p3:=H.pos (i+3) (by omega)
   have pj:=H.pos _ x2
   have hS:bh pl' L' (i+d)=bh pl L i:=by
    unfold bh
    rw[show i+d+3=i+3+d by omega,x3,p3,pj]
    rcases H.pe (ET L (i+3)) (ET L (Go.Proofs.YtfphceknmgadgaaGreatDoor.exJ L (i+3)))with h|h
    ·exact h
    ·have:=(H.lt _ x2).2;omega
   have:=FuO.ok (s:=s') (pl:=pl') (L:=L') (us:=vs) (i:=i+d) (t:=t) (b:=b) (fx:=fx) (mn:=mn) (mx:=mx) (k:=k+d) hH (by rw[hS];exact h2) (by rw[show i+d+3=i+3+d by omega,x3];exact t5)
   rw[show i+d+1=i+1+d by omega,(Cm e1).2.1]at this
   exact this
end
def GL(us:List Fu):List Fu→Except Int (List Fu)
 | []=>.ok us
 |v::vs=>if 64≤us.length then .error 3 else if D4 v.nm us=true then .error 7 else GL (us++[v]) vs
theorem Seg.run{s pl s' pl':ByteArray}{L L':List LR}{n d sg:Nat}(H:Seg s pl L n s' pl' L' d sg){us vs:List Fu}{i k:Nat}(h:FlO s pl L us i vs k):i≤n→ ∃added,vs=us++added∧GL us added=.ok vs∧ ∀us1,
  (∀ws,GL us1 added=.ok ws→(∀vs' k',FlO s' pl' L' ws (n+d) vs' k'→FlO s' pl' L' us1 (i+d) vs' k')∧(∀e a,FlE s' pl' L' ws (n+d) e a→FlE s' pl' L' us1 (i+d) e a))∧
  (∀e,GL us1 added=.error e→ ∃a,FlE s' pl' L' us1 (i+d) e a):=by
 induction h with
 | @fin us i h0=>
  intro hi
  have hin:i=n:=by
   rcases Nat.lt_or_ge i n with h|h
   ·exact absurd h0 (H.nk h)
   ·omega
  subst hin
  refine⟨[],by simp,rfl,fun us1=>⟨fun ws hw=> ?_,fun e he=> ?_⟩⟩
  ·simp only[GL]at hw;cases hw;exact⟨fun _ _ h=>h,fun _ _ h=>h⟩
  ·simp only[GL]at he;cases he
 | @step us vs u i j k h0 h1 h2 ih=>
  intro hi
  obtain⟨r1,r2,r3,r4,r5,r6⟩:=H.rule h1
  obtain⟨added,q1,q2,q3⟩:=ih r2
  have hk':(Bp L' (i+d)).k≠0:=by rw[(Cm (H.key i (H.nz i h0))).1];exact h0
  refine⟨u::added,by rw[q1];simp, ?_,fun us1=> ?_⟩
  ·simp only[GL]
   rw[if_neg (by omega),if_neg (by rw[r4];simp),q2]
  obtain⟨c1,c2,c3⟩:=r6 us1
  obtain⟨p1,p2⟩:=q3 (us1++[u])
  refine⟨fun ws hw=> ?_,fun e he=> ?_⟩
  ·simp only[GL]at hw
   split at hw
   ·cases hw
   rename_i hl
   split at hw
   ·cases hw
   rename_i hh
   have hO:=c3 (by omega) (by simpa using hh)
   obtain⟨z1,z2⟩:=p1 ws hw
   exact⟨fun vs' k' hv=>.step hk' hO (z1 _ _ hv),fun e a hv=>.step hk' hO (z2 _ _ hv)⟩
  ·simp only[GL]at he
   split at he
   ·rename_i hl;cases he;exact⟨_,.err hk' (c1 hl)⟩
   rename_i hl
   split at he
   ·rename_i hh;cases he;exact⟨_,.err hk' (c2 (by omega) hh)⟩
   rename_i hh
   have hO:=c3 (by omega) (by simpa using hh)
   obtain⟨a,ha⟩:=p2 e he
   exact⟨a,.step hk' hO ha⟩
end Go.Proofs.YtfphceknmgadgaaGreatDoor
namespace Go.Proofs.YtfphceknmgadgaaGreatDoor
open Go.Vm
set_option maxHeartbeats 2000000
set_option maxRecDepth 20000
theorem d7{s:ByteArray}{i:Nat}(h:(BV s i).e=0):(BV s i).a=i:=by
 revert h
 unfold BV
 split
 ·intro h;simp[bad]at h
 ·split
  ·intro _;rfl
  split
  ·split
   ·intro h;simp[bad]at h
   ·intro _;rfl
  split
  ·split
   ·rename_i h1;intro h;exact absurd h h1
   ·intro _;rfl
  split
  ·unfold EX
   split
   ·intro h;simp[bad]at h
   ·split
    ·intro h;simp[bad]at h
    ·intro _;rfl
  split
  ·intro _;rfl
  ·intro h;simp[bad]at h
theorem bp(s:ByteArray): ∀f i,(B8 s f i).1=0→ ∀x∈(B8 s f i).2.2,x.k≠0→x.a<s.size:=by
 intro f
 induction f with
 |zero=>intro i _ x hx;simp[B8]at hx
 | succ f ih=>
  intro i h0 x hx hk
  by_cases hi:s.size≤i
  ·rw[EU f hi]at hx
   simp only[List.mem_singleton]at hx
   subst hx
   exact absurd rfl hk
  by_cases he:(BV s i).e=0
  rotate_left
  ·rw[FK f hi he]at h0;exact absurd h0 he
  rw[Ef f hi he rfl]at h0 hx
  have h0':(B8 s f ((BV s i).nx+Cs false (s.toList.drop (BV s i).nx))).1=0:=h0
  simp only[h0',if_true,List.mem_cons]at hx
  rcases hx with rfl|hx
  ·rw[d7 he];omega
  ·exact ih _ h0' x hx hk
theorem Rn{s:ByteArray}(h0:(AV s).1=0): ∀x∈(AV s).2.2,x.k≠0→x.a<s.size:=by
 revert h0
 unfold AV
 split
 ·intro h;cases h
 ·exact fun h=>bp s _ _ h
theorem wf_k{x:LR}(h:KM x):x.k≠0:=by
 rcases h with h|h|h|h<;>(rw[h.1];decide)
theorem jN{s s':ByteArray}{p q:List UInt8}{sg:Nat}(h:s'.toList=p++(s.toList++q))(hp:p.length=sg)(a b:Nat):s'.extract (a+sg) (b+sg)=s.extract a b∨s.size<b:=by
 rcases Nat.lt_or_ge s.size b with hb|hb
 ·exact .inr hb
 ·left
  apply Ey
  rw[FA,FA,h,List.take_append,List.take_of_length_le (by omega),hp,Nat.add_sub_cancel,List.take_append_of_le_length (by rw[Ah];exact hb),List.drop_append,List.drop_eq_nil_of_le (by omega),hp,Nat.add_sub_cancel,List.nil_append]
theorem XA{s pl s' pl':ByteArray}{K L':List LR}{X:LR}{M N:List ((Int×ByteArray×Int)×Nat)}{d sg:Nat}(hX:X.k=0)(hK: ∀x∈K,x.k≠0∧x.a+1≤s.size)(hm:L'.map (La 0)=M++(K.map (La sg)++N))(hd:M.length=d)(hz:pl.size=s.size)
  {p q p2 q2:List UInt8} (h1:s'.toList=p++(s.toList++q)) (l1:p.length=sg) (h2:pl'.toList=p2++(pl.toList++q2)) (l2:p2.length=sg):Seg s pl (K++[X]) K.length s' pl' L' d sg:=by
 have hlen:L'.length=d+(K.length+N.length):=by
  have:=congrArg List.length hm
  simpa[hd]using this
 have hin: ∀i,i<K.length→Bp (K++[X]) i=Bp K i:=fun i hi=>by
  unfold Bp;rw[List.getD_eq_getElem?_getD,List.getD_eq_getElem?_getD,List.getElem?_append_left hi]
 have hget: ∀i (hi:i<K.length),Bp K i=K[i]:=fun i hi=>F6 (List.getElem?_eq_getElem hi)
 have hmap: ∀i,i<K.length→La 0 (Bp L' (i+d))=La sg (Bp K i):=fun i hi=>by
  have h3:(L'.map (La 0))[i+d]? =some (La sg (Bp K i)):=by
   rw[hm,List.getElem?_append_right (by omega),show i+d - M.length=i by omega,List.getElem?_append_left (by simpa using hi),List.getElem?_map,List.getElem?_eq_getElem hi,hget i hi]
   rfl
  have hb:i+d<L'.length:=by omega
  rw[List.getElem?_map,List.getElem?_eq_getElem hb]at h3
  rw[F6 (List.getElem?_eq_getElem hb)]
  simpa using h3
 have hend:Bp (K++[X]) K.length=X:=F6 (by simp)
 refine⟨fun i hi=> ?_,fun i hi=> ?_,fun a b=>jN h2 l2 a b,fun a b=>jN h1 l1 a b,fun i hi=> ?_,fun i hk=> ?_,fun hi=> ?_, ?_,by simp,by omega⟩
 ·have:=hmap i hi
  rw[hin i hi]
  simp only[La,Prod.mk.injEq]at this
  exact this.1
 ·have:=hmap i hi
  unfold ET
  rw[hin i hi]
  simp only[La,Prod.mk.injEq,Nat.add_zero]at this
  exact this.2
 ·unfold ET
  rw[hin i hi,hget i hi,hz]
  have:=(hK _ (List.getElem_mem hi)).2
  omega
 ·rcases Nat.lt_or_ge i K.length with h|h
  ·exact h
  ·exfalso
   by_cases e:i=K.length
   ·subst e;rw[hend]at hk;exact hk hX
   ·apply hk
    unfold Bp
    rw[List.getD_eq_getElem?_getD,List.getElem?_eq_none (by simp;omega)]
    rfl
 ·rw[hin _ hi,hget _ hi]
  exact(hK _ (List.getElem_mem hi)).1
 ·rw[hend];exact hX
theorem Df(s:ByteArray):(CO s).size=s.size:=by unfold CO;rw[Ao,M6,Ah]
theorem OC(s:ByteArray):(CO s).toList=pW false s.toList:=by unfold CO;rw[BS];rfl
theorem Si{P:ByteArray}(h0:(AV P).1=0): ∃K,(AV P).2.2=K++[Es P]∧ ∀x∈K,x.k≠0∧x.a+1≤P.size:=by
 obtain⟨K,hS,hw,_⟩:=FU h0
 refine⟨K,hS,fun x hx=>⟨wf_k (hw x hx), ?_⟩⟩
 exact Rn h0 x (by rw[hS];exact List.mem_append_left _ hx) (wf_k (hw x hx))
theorem PfO.ok_inv{s:ByteArray}{a:Nat}{us:List Fu}(h:PfO s 0 a us):(AV (CO s)).1=0∧a=0∧ ∃j,FlO s (CO s) (AV (CO s)).2.2 [] 0 us j:=by
 generalize he:(0:Int)=e at h
 cases h with
 |scan h0=>exact absurd he.symm h0
 | er h0 h1=>
  subst he
  exfalso
  have: ∀{us:List Fu} {e:Int} {i a:Nat},FlE s (CO s) (AV (CO s)).2.2 us i e a→e≠0:=fun h=>by
   induction h with
   |err _ h=>exact h.ne
   |step _ _ _ ih=>exact ih
  exact this h1 rfl
 |ok h0 h1=>exact⟨h0,rfl,_,h1⟩
theorem pf_nl{s t r:ByteArray}{us vs:List Fu}{a b:Nat}(h:r.toList=s.toList++10::t.toList)(hz:r.size≤4000)(h1:PfO s 0 a us)(h2:PfO t 0 b vs):(∀ws,GL us vs=.ok ws→PfO r 0 0 ws)∧(∀e,GL us vs=.error e→ ∃a,PfO r e a []):=by
 obtain⟨s0,_,js,f1⟩:=h1.ok_inv
 obtain⟨t0,_,jt,f2⟩:=h2.ok_inv
 have hc:cW false s.toList=true:=bl s0
 have hR:(CO r).toList=(CO s).toList++10::(CO t).toList:=by
  rw[OC,OC,OC,h,QV s.toList.length s.toList false t.toList (Nat.le_refl _) hc]
 obtain⟨K0,hK0,r0,hmap⟩:=dy hR (by rw[Df];exact hz) s0
 have r0:(AV (CO r)).1=0:=by rw[r0,t0]
 have hmap:=hmap r0
 obtain⟨K1,hK1,p1⟩:=Si s0
 obtain⟨K2,hK2,p2⟩:=Si t0
 have hKK:K0=K1:=by
  rw[hK1]at hK0
  exact(List.append_inj' hK0 rfl).1.symm
 subst hKK
 have S1:Seg s (CO s) (K0++[Es (CO s)]) K0.length r (CO r) (AV (CO r)).2.2 0 0:=
  XA (M:=[]) (N:=(AV (CO t)).2.2.map (La ((CO s).size+1))) rfl (fun x hx=>by have:=p1 x hx;rw[Df]at this;exact this) hmap rfl (Df s) (p:=[]) (q:=10::t.toList) h rfl (p2:=[]) (q2:=10::(CO t).toList) hR rfl
 have S2:Seg t (CO t) (K2++[Es (CO t)]) K2.length r (CO r) (AV (CO r)).2.2 K0.length (s.size+1):=by
  refine XA (M:=K0.map (La 0)) (N:=[La (s.size+1) (Es (CO t))]) rfl (fun x hx=>by have:=p2 x hx;rw[Df]at this;exact this) ?_ (by simp) (Df t) (p:=s.toList++[10]) (q:=[]) (by rw[h];simp) (by rw[List.length_append,Ah];rfl) (p2:=(CO s).toList++[10]) (q2:=[]) (by rw[hR];simp) (by rw[List.length_append,Ah,Df];rfl)
  rw[hmap,hK2,Df,List.map_append];rfl
 rw[hK1]at f1
 rw[hK2]at f2
 obtain⟨ad1,q1,q2,q3⟩:=S1.run f1 (Nat.zero_le _)
 obtain⟨ad2,w1,w2,w3⟩:=S2.run f2 (Nat.zero_le _)
 have e1:us=ad1:=by simpa using q1
 have e2:vs=ad2:=by simpa using w1
 subst e1
 subst e2
 obtain⟨y1,y2⟩:=(q3 []).1 us q2
 obtain⟨z1,z2⟩:=w3 us
 have hfin:(Bp (AV (CO r)).2.2 (K2.length+K0.length)).k=0:=by
  have h3:((AV (CO r)).2.2.map (La 0))[K2.length+K0.length]? =some (La (s.size+1) (Es (CO t))):=by
   rw[hmap,hK2,Df,List.getElem?_append_right (by simp),List.length_map,Nat.add_sub_cancel,List.getElem?_map]
   simp
  rw[List.getElem?_map]at h3
  cases hx:(AV (CO r)).2.2[K2.length+K0.length]? with
  |none=>rw[hx]at h3;cases h3
  |some x=>
   rw[hx]at h3
   rw[F6 hx]
   simp only[Option.map_some,Option.some.injEq,La,D6,Prod.mk.injEq]at h3
   rw[h3.1.1];rfl
 rw[Nat.zero_add,Nat.add_zero]at y1 y2
 rw[Nat.zero_add]at z1 z2
 refine⟨fun ws hw=> ?_,fun e he=> ?_⟩
 ·exact .ok r0 (y1 _ _ ((z1 ws hw).1 _ _ (.fin hfin)))
 ·obtain⟨a,ha⟩:=z2 e he
  exact⟨a,.er r0 (y2 _ _ ha)⟩
theorem fC{b:List UInt8}(hp:pW false b=b)(hs:Cs false b=b.length)(hl:b.length≤4000):PfO (bs b) 0 0 []:=by
 have hP:CO (bs b)=bs b:=by unfold CO;rw[BS,W9,hp]
 have hS:AV (bs b)=(0,0,[Es (bs b)]):=by
  unfold AV
  rw[Ao,if_neg (by omega),BS,hs,EU _ (by rw[Ao];omega)]
 exact .ok (j:=0) (by rw[hP,hS]) (by rw[hP,hS];exact .fin rfl)
theorem nS{s:ByteArray}{us:List Fu}{a:Nat}(h1:PfO s 0 a us):GL [] us=.ok us∧us.length≤64:=by
 obtain⟨s0,_,js,f1⟩:=h1.ok_inv
 obtain⟨K1,hK1,p1⟩:=Si s0
 have S1:Seg s (CO s) (K1++[Es (CO s)]) K1.length s (CO s) (AV (CO s)).2.2 0 0:=by
  refine XA (M:=[]) (N:=[La 0 (Es (CO s))]) rfl (fun x hx=>by have:=p1 x hx;rw[Df]at this;exact this) ?_ rfl (Df s) (p:=[]) (q:=[]) (by simp) rfl (p2:=[]) (q2:=[]) (by simp) rfl
  rw[hK1,List.map_append];rfl
 rw[hK1]at f1
 obtain⟨ad1,q1,q2,q3⟩:=S1.run f1 (Nat.zero_le _)
 have e1:us=ad1:=by simpa using q1
 subst e1
 refine⟨q2, ?_⟩
 have len: ∀(vs us ws:List Fu),us.length≤64→GL us vs=.ok ws→ws.length≤64:=by
  intro vs
  induction vs with
  |nil=>intro us ws h hr;simp only[GL]at hr;cases hr;exact h
  |cons v vs ih=>
   intro us ws h hr
   simp only[GL]at hr
   split at hr
   ·cases hr
   split at hr
   ·cases hr
   exact ih _ _ (by simp;omega) hr
 exact len us [] us (by simp) q2
end Go.Proofs.YtfphceknmgadgaaGreatDoor
