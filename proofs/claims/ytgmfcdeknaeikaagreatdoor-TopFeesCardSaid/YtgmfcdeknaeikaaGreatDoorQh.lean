/-
Texts without fractions; the grammar of fee tables; lines and spaces between tables.
Conditions: none.
-/
import Derived.Test.YtgmfcdeknaeikaaGreatDoorQg
set_option linter.unusedSimpArgs false
set_option linter.unusedVariables false
namespace Go.Proofs.YtgmfcdeknaeikaaGreatDoor
open Go.Vm
set_option maxHeartbeats 2000000
set_option maxRecDepth 20000
def BH:List UInt8→Nat
 | []=>0
 |c::l=>if Ae c.toNat=true then BH l+1 else 0
theorem JS: ∀l:List UInt8,BH l≤l.length
 | []=>by simp[BH]
 |c::l=>by
  have:=JS l
  simp only[BH,List.length_cons]
  split<;>omega
def HH(l:List UInt8):Option (Nat×Nat):=
 match l.drop (BH l)with
 |c::m=>if c=46 then(if BH m=0 then none else match m.drop (BH m)with
  |d::_=>if d=37 then some (BH l,BH m+1)else none
  | []=>none)else none
 | []=>none
theorem Dp{l:List UInt8}{d k:Nat}(h:HH l=some (d,k)):d=BH l∧d+k<l.length∧2≤k:=by
 unfold HH at h
 split at h
 ·rename_i c m hm
  split at h
  ·split at h
   ·cases h
   ·rename_i hne
    split at h
    ·rename_i x y hy
     split at h
     ·simp only[Option.some.injEq,Prod.mk.injEq]at h
      obtain⟨rfl,rfl⟩:=h
      have h1:=congrArg List.length hm
      have h2:=congrArg List.length hy
      simp only[List.length_drop,List.length_cons]at h1 h2
      exact⟨rfl,by omega,by omega⟩
     ·cases h
    ·cases h
  ·cases h
 ·cases h
def Ce(c:UInt8):List UInt8→Nat
 | []=>0
 |x::l=>if x=c then 1 else Ce c l+1
theorem GU(c:UInt8): ∀l:List UInt8,Ce c l≤l.length
 | []=>by simp[Ce]
 |x::l=>by
  have:=GU c l
  simp only[Ce,List.length_cons]
  split<;>omega
def pN:Nat→Bool→List UInt8→List UInt8
 |0,_,l=>l
 |_+1,_,[]=>[]
 | f+1,w,c::r=>
  if c=35 then c::(r.take (Ce 10 r)++pN f false (r.drop (Ce 10 r)))
  else if c=34 then c::(r.take (Ce 34 r)++pN f false (r.drop (Ce 34 r)))
  else if Ae c.toNat=true∧w=false then
   match HH (c::r)with
   |some (d,k)=>(c::r).take d++(List.replicate k 32++pN f false ((c::r).drop (d+k)))
   |none=>c::pN f true r
  else c::pN f (BG c.toNat) r
def bR(l:List UInt8):List UInt8:=pN l.length false l
theorem bL(f:Nat)(w:Bool):pN f w []=[]:=by cases f<;>rfl
theorem Hw: ∀(f:Nat) (w:Bool) (l:List UInt8),(pN f w l).length=l.length
 |0,_,_=>rfl
 |f+1,_,[]=>rfl
 | f+1,w,c::r=>by
  simp only[pN]
  split
  ·have:=GU 10 r
   rw[List.length_cons,List.length_append,Hw,List.length_take,List.length_drop,List.length_cons];omega
  split
  ·have:=GU 34 r
   rw[List.length_cons,List.length_append,Hw,List.length_take,List.length_drop,List.length_cons];omega
  split
  ·split
   ·rename_i d k h
    obtain⟨h1,h2,h3⟩:=Dp h
    simp only[List.length_append,List.length_replicate,Hw,List.length_take,List.length_drop,List.length_cons]at h2⊢
    omega
   ·rw[List.length_cons,Hw,List.length_cons]
  ·rw[List.length_cons,Hw,List.length_cons]
theorem LO(l:List UInt8):(bR l).length=l.length:=Hw _ _ _
theorem FU: ∀(f g:Nat) (w:Bool) (l:List UInt8),l.length≤f→l.length≤g→pN f w l=pN g w l
 |f,g,w,[],_,_=>by rw[bL,bL]
 |0,_,_,c::r,h,_=>by simp at h
 |_+1,0,_,c::r,_,h=>by simp at h
 | f+1,g+1,w,c::r,hf,hg=>by
  simp only[List.length_cons]at hf hg
  simp only[pN]
  split
  ·rw[FU f g false _ (by rw[List.length_drop];omega) (by rw[List.length_drop];omega)]
  split
  ·rw[FU f g false _ (by rw[List.length_drop];omega) (by rw[List.length_drop];omega)]
  split
  ·split
   ·rename_i d k h
    obtain⟨h1,h2,h3⟩:=Dp h
    rw[FU f g false _ (by rw[List.length_drop,List.length_cons];omega) (by rw[List.length_drop,List.length_cons];omega)]
   ·rw[FU f g true r (by omega) (by omega)]
  ·rw[FU f g _ r (by omega) (by omega)]
def pW(w:Bool)(l:List UInt8):List UInt8:=pN l.length w l
theorem Fk(w:Bool):pW w []=[]:=rfl
theorem Cs(w:Bool)(c:UInt8)(r:List UInt8):pW w (c::r)=
  if c=35 then c::(r.take (Ce 10 r)++pW false (r.drop (Ce 10 r)))
  else if c=34 then c::(r.take (Ce 34 r)++pW false (r.drop (Ce 34 r)))
  else if Ae c.toNat=true∧w=false then
   match HH (c::r)with
   |some (d,k)=>(c::r).take d++(List.replicate k 32++pW false ((c::r).drop (d+k)))
   |none=>c::pW true r
  else c::pW (BG c.toNat) r:=by
 unfold pW
 rw[List.length_cons,pN]
 split
 ·rw[FU _ _ _ _ (by rw[List.length_drop];omega) (Nat.le_refl _)]
 split
 ·rw[FU _ _ _ _ (by rw[List.length_drop];omega) (Nat.le_refl _)]
 split
 ·split
  ·rename_i d k h
   obtain⟨h1,h2,h3⟩:=Dp h
   rw[FU _ _ _ _ (by rw[List.length_drop,List.length_cons];omega) (Nat.le_refl _)]
  ·rfl
 ·rfl
theorem nE(w:Bool)(l:List UInt8):(pW w l).length=l.length:=Hw _ _ _
theorem Sr(l:List UInt8):bR l=pW false l:=rfl
set_option maxHeartbeats 2000000
set_option maxRecDepth 20000
def cN:Nat→Bool→List UInt8→Bool
 |0,_,_=>true
 |_+1,_,[]=>true
 | f+1,w,c::r=>
  if c=35 then cN f false (r.drop (Ce 10 r))
  else if c=34 then decide (34∈r)&&cN f false (r.drop (Ce 34 r))
  else if Ae c.toNat=true∧w=false then
   match HH (c::r)with
   |some (d,k)=>cN f false ((c::r).drop (d+k))
   |none=>cN f true r
  else cN f (BG c.toNat) r
theorem Y0(f:Nat)(w:Bool):cN f w []=true:=by cases f<;>rfl
theorem FJ: ∀(f g:Nat) (w:Bool) (l:List UInt8),l.length≤f→l.length≤g→cN f w l=cN g w l
 |f,g,w,[],_,_=>by rw[Y0,Y0]
 |0,_,_,c::r,h,_=>by simp at h
 |_+1,0,_,c::r,_,h=>by simp at h
 | f+1,g+1,w,c::r,hf,hg=>by
  simp only[List.length_cons]at hf hg
  simp only[cN]
  split
  ·rw[FJ f g false _ (by rw[List.length_drop];omega) (by rw[List.length_drop];omega)]
  split
  ·rw[FJ f g false _ (by rw[List.length_drop];omega) (by rw[List.length_drop];omega)]
  split
  ·split
   ·rename_i d k h
    obtain⟨h1,h2,h3⟩:=Dp h
    rw[FJ f g false _ (by rw[List.length_drop,List.length_cons];omega) (by rw[List.length_drop,List.length_cons];omega)]
   ·rw[FJ f g true r (by omega) (by omega)]
  ·rw[FJ f g _ r (by omega) (by omega)]
def cW(w:Bool)(l:List UInt8):Bool:=cN l.length w l
theorem HC(w:Bool)(c:UInt8)(r:List UInt8):cW w (c::r)=
  if c=35 then cW false (r.drop (Ce 10 r))
  else if c=34 then decide (34∈r)&&cW false (r.drop (Ce 34 r))
  else if Ae c.toNat=true∧w=false then
   match HH (c::r)with
   |some (d,k)=>cW false ((c::r).drop (d+k))
   |none=>cW true r
  else cW (BG c.toNat) r:=by
 unfold cW
 rw[List.length_cons,cN]
 split
 ·rw[FJ _ _ _ _ (by rw[List.length_drop];omega) (Nat.le_refl _)]
 split
 ·rw[FJ _ _ _ _ (by rw[List.length_drop];omega) (Nat.le_refl _)]
 split
 ·split
  ·rename_i d k h
   obtain⟨h1,h2,h3⟩:=Dp h
   rw[FJ _ _ _ _ (by rw[List.length_drop,List.length_cons];omega) (Nat.le_refl _)]
  ·rfl
 ·rfl
theorem OS(r:List UInt8): ∀l:List UInt8,BH (l++10::r)=BH l
 | []=>by simp[BH,Ae]
 |c::l=>by simp only[List.cons_append,BH,OS r l]
theorem mM(l r:List UInt8):HH (l++10::r)=HH l:=by
 have hd:=JS l
 unfold HH
 rw[OS,List.drop_append_of_le_length hd]
 cases hl:l.drop (BH l)with
 |nil=>simp
 |cons c m=>
  have hm:=JS m
  simp only[List.cons_append]
  rw[OS,List.drop_append_of_le_length hm]
  cases hm2:m.drop (BH m)with
  |nil=>simp
  |cons d n=>simp
theorem PU{c:UInt8}(x:UInt8)(r:List UInt8): ∀{l:List UInt8},c∈l→Ce c (l++x::r)=Ce c l
 | [],h=>by cases h
 |y::l,h=>by
  simp only[List.cons_append,Ce]
  by_cases hy:y=c
  ·rw[if_pos hy,if_pos hy]
  ·rw[if_neg hy,if_neg hy,PU x r (by
    rcases List.mem_cons.1 h with e|e
    ·exact absurd e.symm hy
    ·exact e)]
theorem LQ{c:UInt8}(r:List UInt8): ∀{l:List UInt8},c∉l→Ce c (l++c::r)=l.length+1∧Ce c l=l.length
 | [],_=>by simp[Ce]
 |y::l,h=>by
  have hy:y≠c:=fun e=>h (by rw[e];exact List.mem_cons_self ..)
  obtain⟨h1,h2⟩:=LQ r (l:=l) (fun e=>h (List.mem_cons_of_mem _ e))
  simp only[List.cons_append,Ce,if_neg hy,h1,h2,List.length_cons,and_self]
theorem Nv: ∀(n:Nat) (l:List UInt8) (w:Bool) (r:List UInt8),l.length≤n→cW w l=true→pW w (l++10::r)=pW w l++10::pW false r
 |_,[],w,r,_,_=>by
  have h1:Ae (10:UInt8).toNat=false:=rfl
  have h2:BG (10:UInt8).toNat=false:=rfl
  rw[List.nil_append,Cs,if_neg (by decide),if_neg (by decide),if_neg (by rw[h1];simp),h2,Fk,List.nil_append]
 |0,c::l,_,_,h,_=>by simp at h
 | n+1,c::l,w,r,hn,hc=>by
  simp only[List.length_cons]at hn
  rw[HC]at hc
  have ef:HH (c::(l++10::r))=HH (c::l):=mM (c::l) r
  have et:c::(l++10::r)=(c::l)++10::r:=rfl
  rw[List.cons_append,Cs,Cs w c l,ef]
  by_cases h35:c=35
  ·rw[if_pos h35]at hc
   rw[if_pos h35,if_pos h35]
   by_cases hin:(10:UInt8)∈l
   ·have hu:=GU 10 l
    rw[PU 10 r hin,List.take_append_of_le_length hu,List.drop_append_of_le_length hu,Nv n _ false r (by rw[List.length_drop];omega) hc]
    simp
   ·obtain⟨h1,h2⟩:=LQ r hin
    rw[h1,h2,List.take_length,List.drop_length]
    have e1:(l++10::r).take (l.length+1)=l++[10]:=by rw[List.take_append,List.take_of_length_le (by omega)];simp
    have e2:(l++10::r).drop (l.length+1)=r:=by rw[List.drop_append];simp
    rw[e1,e2,Fk];simp
  rw[if_neg h35]at hc
  rw[if_neg h35,if_neg h35]
  by_cases h34:c=34
  ·rw[if_pos h34,Bool.and_eq_true,decide_eq_true_eq]at hc
   rw[if_pos h34,if_pos h34]
   have hu:=GU 34 l
   rw[PU 10 r hc.1,List.take_append_of_le_length hu,List.drop_append_of_le_length hu,Nv n _ false r (by rw[List.length_drop];omega) hc.2]
   simp
  rw[if_neg h34]at hc
  rw[if_neg h34,if_neg h34]
  by_cases hd:Ae c.toNat=true∧w=false
  ·rw[if_pos hd]at hc
   rw[if_pos hd,if_pos hd]
   cases hf:HH (c::l)with
   |none=>
    rw[hf]at hc
    simp only at hc⊢
    rw[Nv n l true r (by omega) hc];simp
   |some p=>
    obtain⟨d,k⟩:=p
    obtain⟨h1,h2,h3⟩:=Dp hf
    rw[List.length_cons]at h2
    rw[hf]at hc
    simp only at hc⊢
    rw[et,List.take_append_of_le_length (by rw[List.length_cons];omega),List.drop_append_of_le_length (by rw[List.length_cons];omega),Nv n _ false r (by rw[List.length_drop,List.length_cons];omega) hc]
    simp
  ·rw[if_neg hd]at hc
   rw[if_neg hd,if_neg hd,Nv n l _ r (by omega) hc];simp
set_option maxHeartbeats 2000000
set_option maxRecDepth 20000
theorem J7: ∀c,c<256→CL c=true→Ae c=false∧BG c=false∧c≠35∧c≠34:=by decide+kernel
theorem kk: ∀c,c<256→Gb c=true→Ae c=false∧BG c=false∧c≠35∧c≠34:=by decide+kernel
theorem RX: ∀c,c<256→BG c=true→c≠35∧c≠34∧c≠10∧CL c=false:=by decide+kernel
theorem Hf{c:UInt8}{n:Nat}(h:c.toNat≠n)(hn:n<256):c≠UInt8.ofNat n:=fun e=>h (by rw[e];simp;omega)
theorem CC{w:Bool}{c:UInt8}(r:List UInt8)(h35:c.toNat≠35)(h34:c.toNat≠34)(hd: ¬(Ae c.toNat=true∧w=false)):pW w (c::r)=c::pW (BG c.toNat) r:=by
 have h1:c≠35:=Hf h35 (by decide)
 have h2:c≠34:=Hf h34 (by decide)
 rw[Cs,if_neg h1,if_neg h2,if_neg hd]
theorem Ee{w:Bool}{c:UInt8}(r:List UInt8)(h35:c.toNat≠35)(h34:c.toNat≠34)(hd: ¬(Ae c.toNat=true∧w=false)):cW w (c::r)=cW (BG c.toNat) r:=by
 have h1:c≠35:=Hf h35 (by decide)
 have h2:c≠34:=Hf h34 (by decide)
 rw[HC,if_neg h1,if_neg h2,if_neg hd]
theorem Q7(Y:List UInt8): ∀r:List UInt8,(10∈r∨Y=[])→Bi true (r.take (Ce 10 r)++Y)=Ce 10 r+Bi false Y
 | [],h=>by
  rcases h with h|h
  ·cases h
  ·subst h;simp[Ce,Bi]
 | c::r,h=>by
  by_cases hc:c=10
  ·subst hc
   simp[Ce,Bi];omega
  ·have hn:c.toNat≠10:=fun e=>hc (by rw[←UInt8.toNat_inj];exact e)
   have ih:=Q7 Y r (by
    rcases h with h|h
    ·exact .inl ((List.mem_cons.1 h).resolve_left fun e=>hc e.symm)
    ·exact .inr h)
   simp only[Ce,if_neg hc,List.take_succ_cons,List.cons_append,Bi,Bool.true_or,if_true,hn,decide_false,Bool.not_false,Bool.and_true]
   rw[ih];omega
theorem U9: ∀(n:Nat) (l:List UInt8) (w:Bool),l.length≤n→ ∃w',(pW w l).drop (Bi false (pW w l))=pW w' (l.drop (Bi false (pW w l)))∧cW w l=cW w' (l.drop (Bi false (pW w l)))∧(Bi false (pW w l)=0→w'=w)
 |_,[],w,_=>⟨w,by simp[Fk],by simp[Fk],fun _=>rfl⟩
 |0,c::l,w,h=>by simp at h
 | n +1,c::r,w,hn=>by
  simp only[List.length_cons]at hn
  have hc:=CZ c
  by_cases hb:CL c.toNat=true
  ·obtain⟨b1,b2,b3,b4⟩:=J7 _ hc hb
   have e1:=CC (w:=w) r b3 b4 (by rw[b1];simp)
   have e2:=Ee (w:=w) r b3 b4 (by rw[b1];simp)
   rw[b2]at e1 e2
   have hk:Bi false (c::pW false r)=Bi false (pW false r)+1:=by simp[Bi,hb,b3]
   obtain⟨w',h1,h2,_⟩:=U9 n r false (by omega)
   rw[e1,e2,hk]
   exact⟨w',by rw[List.drop_succ_cons,List.drop_succ_cons,h1],by rw[List.drop_succ_cons,h2],fun h=>by omega⟩
  by_cases h35:c=35
  ·subst h35
   have hu:=GU 10 r
   have e1:pW w (35::r)=35::(r.take (Ce 10 r)++pW false (r.drop (Ce 10 r))):=by rw[Cs,if_pos rfl]
   have e2:cW w (35::r)=cW false (r.drop (Ce 10 r)):=by rw[HC,if_pos rfl]
   have hs:Bi true (r.take (Ce 10 r)++pW false (r.drop (Ce 10 r)))=Ce 10 r+Bi false (pW false (r.drop (Ce 10 r))):=by
    refine Q7 _ r ?_
    by_cases hin:(10:UInt8)∈r
    ·exact .inl hin
    ·refine .inr ?_
     rw[(LQ [] hin).2,List.drop_length,Fk]
   have hk:Bi false (35::(r.take (Ce 10 r)++pW false (r.drop (Ce 10 r))))=Ce 10 r+Bi false (pW false (r.drop (Ce 10 r)))+1:=by
    rw[←hs];simp[Bi]
   obtain⟨w',h1,h2,_⟩:=U9 n (r.drop (Ce 10 r)) false (by rw[List.length_drop];omega)
   rw[e1,e2,hk]
   refine⟨w', ?_, ?_,fun h=>by omega⟩
   ·rw[List.drop_succ_cons,List.drop_succ_cons,List.drop_append,List.drop_eq_nil_of_le (by rw[List.length_take];omega),List.nil_append,List.length_take,Nat.min_eq_left hu,Nat.add_sub_cancel_left,h1,List.drop_drop]
   ·rw[List.drop_succ_cons,h2,List.drop_drop]
  ·have hn35:c.toNat≠35:=fun e=>h35 (by rw[←UInt8.toNat_inj];exact e)
   have hz: ∀X,Bi false (c::X)=0:=fun X=>by simp[Bi,hb,hn35]
   have hh: ∃X,pW w (c::r)=c::X:=by
    rw[Cs,if_neg h35]
    split
    ·exact⟨_,rfl⟩
    split
    ·rename_i hdig
     split
     ·rename_i d k hf
      have hd:=(Dp hf).1
      have:BH (c::r)=BH r+1:=by simp only[BH,hdig.1,if_true]
      rw[hd,this,List.take_succ_cons]
      exact⟨_,rfl⟩
     ·exact⟨_,rfl⟩
    ·exact⟨_,rfl⟩
   obtain⟨X,hX⟩:=hh
   have h0:Bi false (pW w (c::r))=0:=by rw[hX];exact hz X
   rw[h0]
   exact⟨w,by simp,by simp,fun _=>rfl⟩
theorem lG: ∀r:List UInt8,∃w',Ax (pW true r)=Ax r∧(pW true r).drop (Ax r)=pW w' (r.drop (Ax r))∧cW true r=cW w' (r.drop (Ax r))
 | []=>⟨true,rfl,by simp[Ax],by simp[Ax]⟩
 | x::y=>by
  have hc:=CZ x
  by_cases hx:BG x.toNat=true
  ·obtain⟨a1,a2,_,_⟩:=RX _ hc hx
   have e1:=CC (w:=true) y a1 a2 (by simp)
   have e2:=Ee (w:=true) y a1 a2 (by simp)
   rw[hx]at e1 e2
   obtain⟨w',h1,h2,h3⟩:=lG y
   have hw:Ax (x::y)=Ax y+1:=by simp only[Ax,hx,if_true]
   rw[e1,e2,hw]
   refine⟨w', ?_, ?_, ?_⟩
   ·simp only[Ax,hx,if_true,h1]
   ·rw[List.drop_succ_cons,List.drop_succ_cons,h2]
   ·rw[List.drop_succ_cons,h3]
  ·have hw:Ax (x::y)=0:=by simp only[Ax,hx];simp
   have hh: ∃X,pW true (x::y)=x::X:=by
    rw[Cs]
    split
    ·exact⟨_,rfl⟩
    split
    ·exact⟨_,rfl⟩
    rw[if_neg (by simp)]
    exact⟨_,rfl⟩
   obtain⟨X,hX⟩:=hh
   refine⟨true, ?_,by rw[hw];rfl,by rw[hw];rfl⟩
   rw[hX,hw];simp only[Ax,hx];simp
theorem L3: ∀{l:List UInt8} {k:Nat},Ci l=some k→(34:UInt8)∈l∧Ce 34 l=k+1
 | [],k,h=>by simp[Ci]at h
 | c ::l,k,h=>by
  simp only[Ci]at h
  by_cases hc:c.toNat=34
  ·rw[if_pos hc]at h
   have:c=34:=by rw[←UInt8.toNat_inj];exact hc
   cases h
   exact⟨by rw[this];exact List.mem_cons_self ..,by simp[Ce,this]⟩
  ·rw[if_neg hc]at h
   have hne:c≠34:=fun e=>hc (by rw[e];rfl)
   split at h
   ·cases h
   ·split at h
    ·rename_i q hq
     cases h
     obtain⟨h1,h2⟩:=L3 hq
     exact⟨List.mem_cons_of_mem _ h1,by simp only[Ce,if_neg hne,h2]⟩
    ·cases h
theorem RS{c:UInt8}(Y:List UInt8): ∀{r:List UInt8},c∈r→Ce c (r.take (Ce c r)++Y)=Ce c r
 | [],h=>by cases h
 | x::r,h=>by
  by_cases hx:x=c
  ·simp[Ce,hx]
  ·have:=RS Y (r:=r) ((List.mem_cons.1 h).resolve_left fun e=>hx e.symm)
   simp only[Ce,if_neg hx,List.take_succ_cons,List.cons_append,this]
theorem OB: ∀(l:List UInt8) (Y:List UInt8),Ax (l.take (BH l)++32::Y)=BH l
 | [],Y=>by simp[BH,Ax,BG,BX,Ae]
 | c::l,Y=>by
  by_cases hc:Ae c.toNat=true
  ·have hw:BG c.toNat=true:=by simp[BG,hc]
   have:=OB l Y
   simp only[BH,hc,if_true,List.take_succ_cons,List.cons_append,Ax,hw,this]
  ·simp only[BH,hc]
   simp[Ax,BG,BX,Ae]
theorem ci(Y:List UInt8): ∀k,Bi false (List.replicate k 32++Y)=k+Bi false Y
 |0=>by simp
 |k+1=>by
  rw[List.replicate_succ,List.cons_append]
  have:=ci Y k
  simp only[Bi]
  simp[CL,this];omega
theorem MS: ∀(b:Bool) (l:List UInt8),Bi false (l.drop (Bi b l))=0
 |_,[]=>by simp[Bi]
 | b,c::l=>by
  by_cases hb:(b||(CL c.toNat||decide (c.toNat=35)))=true
  ·simp only[Bi,hb,if_true,List.drop_succ_cons]
   exact MS _ l
  ·have h2:(CL c.toNat||decide (c.toNat=35))=false:=by
    cases b<;>simp_all
   have e1:Bi b (c::l)=0:=by simp only[Bi];rw[if_neg hb]
   rw[e1,List.drop_zero]
   simp only[Bi,Bool.false_or,h2]
   simp
theorem Uq(w:Bool)(c:UInt8)(r:List UInt8): ∃X,pW w (c::r)=c::X:=by
 rw[Cs]
 split
 ·exact⟨_,rfl⟩
 split
 ·exact⟨_,rfl⟩
 split
 ·rename_i hdig
  split
  ·rename_i d k hf
   have hd:=(Dp hf).1
   have:BH (c::r)=BH r+1:=by simp only[BH,hdig.1,if_true]
   rw[hd,this,List.take_succ_cons]
   exact⟨_,rfl⟩
  ·exact⟨_,rfl⟩
 ·exact⟨_,rfl⟩
theorem el{P s:ByteArray}(hsz:P.size=s.size): ∀(f i:Nat) (w:Bool),P.size<i+f→i≤P.size→P.toList.drop i=pW w (s.toList.drop i)→Bi false (P.toList.drop i)=0→(A9 P f i).1=0→cW w (s.toList.drop i)=true:=by
 intro f
 induction f with
 |zero=>intro i w h hi;omega
 | succ f ih=>
  intro i w h hi hP h0 hok
  by_cases hend:P.size≤i
  ·rw[List.drop_eq_nil_of_le (by rw[AP];omega)];rfl
  by_cases he:(Al P i).e=0
  rotate_left
  ·rw[Dg f hend he]at hok;exact absurd hok he
  rw[DC f hend he rfl]at hok
  obtain⟨n1,n2⟩:=DF P i (by omega) he
  have next: ∀(m:Nat) (w':Bool),(Al P i).nx+Bi false (P.toList.drop (Al P i).nx)=m+Bi false (P.toList.drop m)→i<m→m≤P.size→P.toList.drop m=pW w' (s.toList.drop m)→cW w' (s.toList.drop m)=true:=fun m w' hm him hmp hn=>by
   obtain⟨w2,k1,k2,_⟩:=U9 (s.toList.drop m).length (s.toList.drop m) w' (Nat.le_refl _)
   rw[←hn]at k1 k2
   rw[k2,List.drop_drop]
   rw[List.drop_drop,List.drop_drop]at k1
   have hle:=Fd P m hmp
   rw[hm]at hok
   refine ih _ w2 (by omega) hle k1 ?_ hok
   rw[←List.drop_drop]
   exact MS _ _
  obtain⟨c,r,hl⟩:=D3 (s:=s) (i:=i) (by omega)
  have hc:=CZ c
  have hlen:i+(r.length+1)=s.size:=by
   have:=congrArg List.length hl
   rw[List.length_drop,AP,List.length_cons]at this
   omega
  have hd1: ∀k,s.toList.drop (i+k)=(c::r).drop k:=fun k=>by rw[←hl,List.drop_drop]
  rw[hl]at hP⊢
  have hp1: ∀k,P.toList.drop (i+k)=(pW w (c::r)).drop k:=fun k=>by rw[←hP,List.drop_drop]
  obtain⟨X,hX⟩:=Uq w c r
  rw[hP,hX]at h0
  have hnb:CL c.toNat=false∧c.toNat≠35:=by
   simp only[Bi]at h0
   by_cases hq:(false||(CL c.toNat||decide (c.toNat=35)))=true
   ·rw[if_pos hq]at h0;omega
   ·simpa using hq
  have hlex:Al P i=if DJ (c::X)=true then⟨4,P.extract i (i+2),0,i,i+2,0⟩
   else if BX c.toNat=true then(if 16<Ax (c::X)then bad 3 else⟨1,P.extract i (i+Ax (c::X)),0,i,i+Ax (c::X),0⟩)
   else if Ae c.toNat=true then(if(EM (P.extract i (i+Ax (c::X))).toList).2≠0 then bad (EM (P.extract i (i+Ax (c::X))).toList).2 else⟨2,⟨#[]⟩,(EM (P.extract i (i+Ax (c::X))).toList).1,i,i+Ax (c::X),0⟩)
   else if c.toNat=34 then Fg P i
   else if Gb c.toNat=true then⟨4,P.extract i (i+1),0,i,i+1,0⟩else bad 2:=by
   unfold Al;rw[hP,hX]
  -- a word
  have word:BG c.toNat=true→pW w (c::r)=c::pW true r→cW w (c::r)=cW true r→(Al P i).nx=i+Ax (c::X)→cW w (c::r)=true:=fun hw e1 e2 hnx=>by
   obtain⟨w',k1,k2,k3⟩:=lG r
   rw[e1]at hX hp1
   have hXe:X=pW true r:=by simpa using hX.symm
   subst hXe
   have hwl:Ax (c::pW true r)=Ax r+1:=by simp only[Ax,hw,if_true,k1]
   rw[hwl]at hnx
   have hwr:=GV r
   have:=next (i+(Ax r+1)) w' (by rw[hnx]) (by omega) (by omega) (by rw[hp1,hd1,List.drop_succ_cons,List.drop_succ_cons,k2])
   rw[hd1,List.drop_succ_cons]at this
   rw[e2,k3,this]
  by_cases hp2:DJ (c::X)=true
  ·rw[hlex,if_pos hp2]at n1 n2 next
   simp only at n1 n2 next
   have hcc:(c=33∨c=60)∧X.head? =some 61:=by
    simp only[DJ,Bool.or_eq_true]at hp2
    rcases hp2 with q|q
    ·obtain⟨a,b,_⟩:=Hp _ _ _ _ q;exact⟨.inl a,b⟩
    ·obtain⟨a,b,_⟩:=Hp _ _ _ _ q;exact⟨.inr a,b⟩
   obtain⟨hcc,hXh⟩:=hcc
   have hcn:Ae c.toNat=false∧BG c.toNat=false∧c.toNat≠35∧c.toNat≠34:=by rcases hcc with rfl|rfl<;>decide
   have e1:=CC (w:=w) r hcn.2.2.1 hcn.2.2.2 (by rw[hcn.1];simp)
   have e2:=Ee (w:=w) r hcn.2.2.1 hcn.2.2.2 (by rw[hcn.1];simp)
   rw[hcn.2.1]at e1 e2
   rw[e1]at hX hp1
   have hXe:X=pW false r:=by simpa using hX.symm
   subst hXe
   cases r with
   |nil=>rw[Fk]at hXh;cases hXh
   |cons y r'=>
    obtain⟨X',hX'⟩:=Uq false y r'
    rw[hX']at hXh
    have hy:y=61:=by simpa using hXh
    subst hy
    have f1:=CC (w:=false) (c:=61) r' (by decide) (by decide) (by decide)
    have f2:=Ee (w:=false) (c:=61) r' (by decide) (by decide) (by decide)
    have hw61:BG (61:UInt8).toNat=false:=by decide
    rw[hw61]at f1 f2
    rw[f1]at hp1
    have:=next (i+2) false rfl (by omega) (by simp only[List.length_cons]at hlen;omega) (by rw[hp1,hd1];rfl)
    rw[hd1]at this
    rw[e2,f2]
    exact this
  rw[if_neg hp2]at hlex
  by_cases hlt:BX c.toNat=true
  ·rw[if_pos hlt]at hlex
   obtain⟨a1,a2,_,a4,_,_⟩:=GH _ hc hlt
   have hw:BG c.toNat=true:=by simp[BG,hlt]
   have e1:=CC (w:=w) r a4 a2 (by rw[a1];simp)
   have e2:=Ee (w:=w) r a4 a2 (by rw[a1];simp)
   rw[hw]at e1 e2
   refine word hw e1 e2 ?_
   rw[hlex]at he⊢
   split at he
   ·simp[bad]at he
   ·rename_i hq;rw[if_neg hq]
  rw[if_neg hlt]at hlex
  by_cases hdg:Ae c.toNat=true
  ·rw [if_pos hdg]at hlex
   obtain⟨_,a2,_,a4,_,_,hw⟩:=EW _ hc hdg
   have hnx:(Al P i).nx=i+Ax (c::X):=by
    rw[hlex]at he⊢
    split at he
    ·rename_i hq;exact absurd he hq
    ·rename_i hq;rw[if_neg hq]
   have h35:c≠35:=Hf a4 (by decide)
   have h34:c≠34:=Hf a2 (by decide)
   by_cases hwf:w=false
   ·subst hwf
    cases hf:HH (c::r)with
    |none=>
     refine word hw ?_ ?_ hnx
     ·rw[Cs,if_neg h35,if_neg h34,if_pos ⟨hdg,rfl⟩,hf]
     ·rw[HC,if_neg h35,if_neg h34,if_pos ⟨hdg,rfl⟩,hf]
    | some p=>
     obtain⟨d,k⟩:=p
     obtain⟨q1,q2,q3⟩:=Dp hf
     rw[List.length_cons]at q2
     have e1:pW false (c::r)=(c::r).take d++(List.replicate k 32++pW false ((c::r).drop (d+k))):=by rw[Cs,if_neg h35,if_neg h34,if_pos ⟨hdg,rfl⟩,hf]
     have e2:cW false (c::r)=cW false ((c::r).drop (d+k)):=by rw[HC,if_neg h35,if_neg h34,if_pos ⟨hdg,rfl⟩,hf]
     have hwl:Ax (c::X)=d:=by
      rw[←hX,e1,q1]
      obtain⟨k',rfl⟩: ∃k',k=k'+1:=⟨k - 1,by omega⟩
      rw[List.replicate_succ,List.cons_append]
      exact OB _ _
     rw[hwl]at hnx
     have hlt':((c::r).take d).length=d:=by rw[List.length_take,List.length_cons];omega
     have hd2:(pW false (c::r)).drop d=List.replicate k 32++pW false ((c::r).drop (d+k)):=by rw[e1,List.drop_append,List.drop_eq_nil_of_le (by omega),hlt',Nat.sub_self];rfl
     have hd3:(pW false (c::r)).drop (d+k)=pW false ((c::r).drop (d+k)):=by rw[←List.drop_drop,hd2,List.drop_append,List.drop_eq_nil_of_le (by simp),List.length_replicate,Nat.sub_self];rfl
     have hpm:P.toList.drop (i+(d+k))=pW false ((c::r).drop (d+k)):=by rw[hp1,hd3]
     have hpd:P.toList.drop (i+d)=List.replicate k 32++pW false ((c::r).drop (d+k)):=by rw[hp1,hd2]
     have:=next (i+(d+k)) false (by rw[hnx,hpd,ci,hpm];omega) (by omega) (by omega) (by rw[hpm,hd1])
     rw[hd1]at this
     rw[e2,this]
   ·have hwt:w=true:=by simpa using hwf
    subst hwt
    have e1:=CC (w:=true) r a4 a2 (by simp)
    have e2:=Ee (w:=true) r a4 a2 (by simp)
    rw[hw]at e1 e2
    exact word hw e1 e2 hnx
  rw[if_neg hdg]at hlex
  by_cases h34:c.toNat=34
  ·rw[if_pos h34]at hlex
   have hce:c=34:=by rw[←UInt8.toNat_inj];exact h34
   subst hce
   have e1:pW w (34::r)=34::(r.take (Ce 34 r)++pW false (r.drop (Ce 34 r))):=by rw[Cs,if_neg (by decide),if_pos rfl]
   have e2:cW w (34::r)=(decide (34∈r)&&cW false (r.drop (Ce 34 r))):=by rw[HC,if_neg (by decide),if_pos rfl]
   have hpp:P.toList.drop (i+1)=r.take (Ce 34 r)++pW false (r.drop (Ce 34 r)):=by rw[hp1,e1];rfl
   unfold Fg at hlex
   rw[hpp]at hlex
   cases hq:Ci (r.take (Ce 34 r)++pW false (r.drop (Ce 34 r)))with
   |none=>rw[hq]at hlex;rw[hlex]at he;simp[bad]at he
   | some k=>
    rw[hq]at hlex
    simp only at hlex
    by_cases h100:100<k
    ·rw[if_pos h100]at hlex;rw[hlex]at he;simp[bad]at he
    rw[if_neg h100]at hlex
    obtain⟨m1,m2⟩:=L3 hq
    have hin:(34:UInt8)∈r:=by
     refine Classical.byContradiction fun hno=> ?_
     rw[(LQ [] hno).2,List.take_length,List.drop_length,Fk,List.append_nil]at m1
     exact hno m1
    rw[RS _ hin]at m2
    have hu:=GU 34 r
    have hnx:(Al P i).nx=i+(Ce 34 r+1):=by rw[hlex];simp only;omega
    have hlt':(r.take (Ce 34 r)).length=Ce 34 r:=by rw[List.length_take];omega
    have:=next (i+(Ce 34 r+1)) false (by rw[hnx]) (by omega) (by omega) (by rw[hp1,hd1,e1,List.drop_succ_cons,List.drop_succ_cons,List.drop_append,List.drop_eq_nil_of_le (by omega),hlt',Nat.sub_self];rfl)
    rw[hd1,List.drop_succ_cons]at this
    rw[e2,this];simp[hin]
  rw[if_neg h34]at hlex
  by_cases hm:Gb c.toNat=true
  ·rw[if_pos hm]at hlex
   obtain⟨a1,a2,a3,a4⟩:=kk _ hc hm
   have e1:=CC (w:=w) r a3 a4 (by rw[a1];simp)
   have e2:=Ee (w:=w) r a3 a4 (by rw[a1];simp)
   rw[a2]at e1 e2
   have hnx:(Al P i).nx=i+1:=by rw[hlex]
   have:=next (i+1) false (by rw[hnx]) (by omega) (by omega) (by rw[hp1,hd1,e1];rfl)
   rw[hd1]at this
   rw[e2]
   exact this
  ·rw[if_neg hm]at hlex
   rw[hlex]at he
   simp[bad]at he
theorem Vr{s:ByteArray}(h:(AG (bs (bR s.toList))).1=0):cW false s.toList=true:=by
 have hz:(bs (bR s.toList)).size=s.size:=by rw[Ab,LO,AP]
 unfold AG at h
 split at h
 ·cases h
 obtain⟨w2,k1,k2,_⟩:=U9 s.toList.length s.toList false (Nat.le_refl _)
 rw[Ar]at h
 rw[Sr]at h hz
 have hsk:=D8 false (pW false s.toList)
 rw[nE,AP]at hsk
 rw[k2]
 refine el (P:=bs (pW false s.toList)) hz _ _ w2 (by omega) (by omega) (by rw[Ar];exact k1) (by rw[Ar];exact MS _ _) h
set_option maxHeartbeats 2000000
set_option maxRecDepth 20000
theorem TW(r:List UInt8): ∀(b:Bool) (l:List UInt8),Bi b (l++10::r)=if Bi b l=l.length then l.length+(1+Bi false r)else Bi b l
 |b,[]=>by
  simp only[List.nil_append,Bi,List.length_nil,if_true]
  cases b<;>simp[CL]<;>omega
 | b,c::l=>by
  simp only[List.cons_append,Bi,List.length_cons]
  by_cases hc:(b||(CL c.toNat||decide (c.toNat=35)))=true
  ·simp only[hc,if_true]
   rw[TW r _ l]
   by_cases hh:Bi ((b||decide (c.toNat=35))&& !decide (c.toNat=10)) l=l.length
   ·rw[if_pos hh,if_pos (by omega)];omega
   ·rw[if_neg hh,if_neg (by omega)]
  ·simp only[hc]
   rw[if_neg (by simp)]
   simp
theorem cV{P Q R:ByteArray}(h:R.toList=P.toList++10::Q.toList): ∀(n' n i i':Nat),P.size<i+n→R.size<i'+n'→i≤P.size→i'=(if i=P.size then P.size+(1+Bi false Q.toList)else i)→(A9 P n i).1=0→
  ∃K,(A9 P n i).2.2=K++[DS P]∧(A9 R n' i').1=(A9 Q (Q.size+1) (Bi false Q.toList)).1∧((A9 R n' i').1=0→(A9 R n' i').2.2.map (J0 0)=K.map (J0 0)++(A9 Q (Q.size+1) (Bi false Q.toList)).2.2.map (J0 (P.size+1))):=by
 have hz:R.size=P.size+(1+Q.size):=by rw[←AP,h,List.length_append,List.length_cons,AP,AP];omega
 have hd: ∀k,k≤P.size→R.toList.drop k=P.toList.drop k++10::Q.toList:=fun k hk=>by rw[h,List.drop_append_of_le_length (by rw[AP];exact hk)]
 have hq:R.toList=(P.toList++[10])++Q.toList:=by rw[h];simp
 have hql:(P.toList++[10]).length=P.size+1:=by rw[List.length_append,AP];rfl
 have hkq:=D8 false Q.toList
 rw[AP]at hkq
 intro n'
 induction n' with
 |zero=>intro n i i' h1 h2 h3 h4;split at h4<;>omega
 | succ n' ih=>
  intro n i i' h1 h2 h3 h4 hok
  cases n with
  |zero=>omega
  | succ n=>
   by_cases hi:i=P.size
   ·rw[if_pos hi]at h4
    obtain⟨g1,g2,g3⟩:=Xj hq (n'+1) (Q.size+1) (Bi false Q.toList) (by omega) (by omega) hkq
    rw[hql,show Bi false Q.toList+(P.size+1)=i' by omega]at g1 g3
    refine⟨[],by rw[C0 n (by omega)];rfl,g1,fun _=>by rw[g3];rfl⟩
   ·rw[if_neg hi]at h4
    subst h4
    have hl:=aa h i' (by omega)
    by_cases he:(Al P i').e=0
    rotate_left
    ·rw[Dg n (by omega) he]at hok;exact absurd hok he
    obtain⟨g1,g2⟩:=DF P i' (by omega) he
    have hk:=D8 false (P.toList.drop (Al P i').nx)
    rw[List.length_drop,AP]at hk
    rw[DC n (by omega) he rfl]at hok⊢
    have hok':(A9 P n ((Al P i').nx+Bi false (P.toList.drop (Al P i').nx))).1=0:=hok
    have hsk:Bi false (R.toList.drop (Al P i').nx)=if Bi false (P.toList.drop (Al P i').nx)=P.size - (Al P i').nx then P.size - (Al P i').nx+(1+Bi false Q.toList)else Bi false (P.toList.drop (Al P i').nx):=by
     rw[hd _ g2,TW,List.length_drop,AP]
    obtain⟨K,k1,k2,k3⟩:=ih n ((Al P i').nx+Bi false (P.toList.drop (Al P i').nx)) ((Al P i').nx+Bi false (R.toList.drop (Al P i').nx)) (by omega) (by
     rw[hsk];split<;>omega) (by omega) (by
     rw[hsk]
     by_cases hh:Bi false (P.toList.drop (Al P i').nx)=P.size - (Al P i').nx
     ·rw[if_pos hh,if_pos (by omega)];omega
     ·rw[if_neg hh,if_neg (by omega)]) hok'
    rw[DC n' (by omega) (by rw[hl];exact he) (j:=(Al P i').nx+Bi false (R.toList.drop (Al P i').nx)) (by rw[hl]),hl]
    refine⟨Al P i'::K, ?_,k2,fun h0=> ?_⟩
    ·simp only[hok',if_true,k1];rfl
    ·have h0':(A9 R n' ((Al P i').nx+Bi false (R.toList.drop (Al P i').nx))).1=0:=h0
     simp only[h0',if_true,List.map_cons,List.cons_append,k3 h0']
theorem cT{P Q R:ByteArray}(h:R.toList=P.toList++10::Q.toList)(hz:R.size≤4000)(hP:(AG P).1=0):
  ∃K,(AG P).2.2=K++[DS P]∧(AG R).1=(AG Q).1∧((AG R).1=0→(AG R).2.2.map (J0 0)=K.map (J0 0)++(AG Q).2.2.map (J0 (P.size+1))):=by
 have hz':R.size=P.size+(1+Q.size):=by rw[←AP,h,List.length_append,List.length_cons,AP,AP];omega
 have hk:=D8 false P.toList
 rw[AP]at hk
 unfold AG at hP⊢
 rw[if_neg (by omega)]at hP
 rw[if_neg (by omega),if_neg (by omega),if_neg (by omega)]
 have hsk:Bi false R.toList=if Bi false P.toList=P.size then P.size+(1+Bi false Q.toList)else Bi false P.toList:=by
  rw[h,TW,AP]
 have hkq:=D8 false Q.toList
 rw[AP]at hkq
 exact cV h (R.size+1) (P.size+1) (Bi false P.toList) (Bi false R.toList) (by omega) (by rw[hsk];split<;>omega) hk hsk hP
set_option maxHeartbeats 2000000
set_option maxRecDepth 20000
structure Fu where
 nm:ByteArray
 w:Xs
 bps:Int
 fx:Int
 mn:Int
 mx:Int
def F2:ByteArray:=⟨#[102,101,101]⟩
def FB:ByteArray:=⟨#[109,105,110]⟩
def FA:ByteArray:=⟨#[109,97,120]⟩
def kr(s:ByteArray):Bool:=M9 s||decide (s.toList=F2.toList)||decide (s.toList=FB.toList)||decide (s.toList=FA.toList)
def LJ(x:LR):Bool:=decide (x.k=1)&& !(kr x.t)
def Cn(nm:ByteArray)(l:List Fu):Bool:=l.any fun u=>decide (u.nm.toList=nm.toList)
def Gd(l:List UInt8):Bool:= !l.isEmpty&&l.all fun c=>Ae c.toNat
def Cv(l:List UInt8):Nat:=BW l 0
def bS(w:List UInt8):Bool:=Gd w&& !(decide (1<w.length)&&decide (w.head? =some 48))
def Ny(s:List UInt8):Int×Int:=
 if s=[]then(0,1)
 else if s.getLast? ≠some 37 then(0,2)
 else if bS (s.dropLast.take (BH s.dropLast))=false then(0,2)
 else match s.dropLast.drop (BH s.dropLast)with
  | []=>if 3<BH s.dropLast then(0,4)else if 10000<Cv (s.dropLast.take (BH s.dropLast))*100 then(0,4)else((Cv (s.dropLast.take (BH s.dropLast))*100:Nat),0)
  |c::f=>if c≠46∨2<f.length∨Gd f=false∨f.getLast? =some 48 then(0,2)
   else if 3<BH s.dropLast then(0,4)
   else if 10000<Cv (s.dropLast.take (BH s.dropLast))*100+(if f.length=2 then Cv f else Cv f*10)then(0,4)
   else((Cv (s.dropLast.take (BH s.dropLast))*100+(if f.length=2 then Cv f else Cv f*10):Nat),0)
def Ux(s:List UInt8):Option Int:=if(Ny s).2=0 then some (Ny s).1 else none
def CR(L:List LR)(i:Nat):Nat:=(Af L i).a
def DE(x:LR):Bool:=Aw x 4 ⟨#[58]⟩
def YJ(L:List LR):Nat→Nat→Nat
 |0,i=>i
 |f+1,i=>if(Af L i).k=0∨DE (Af L i)=true then i else YJ L f (i+1)
def exJ(L:List LR)(i:Nat):Nat:=YJ L (L.length - i) i
def opN(L:List LR)(k:Int)(w:ByteArray)(i:Nat):Except Nat (Int×Nat):=
 if Aw (Af L i) k w=true then(if(Af L (i+1)).k=2 then .ok ((Af L (i+1)).n,i+2)else .error (i+1))else .ok (0,i)
def Mo(L:List LR)(us:List Fu)(i:Nat):Option (Int×Nat):=
 if 64≤us.length∧Aw (Af L i) 1 F2=true then some (3,i)
 else if Aw (Af L i) 1 F2=false then some (2,i)
 else if LJ (Af L (i+1))=false then some (2,i+1)
 else if Cn (Af L (i+1)).t us=true then some (7,i+1)
 else if Aw (Af L (i+2)) 1 ⟨#[119,104,101,110]⟩=false then some (2,i+2)else none
def fuT(s:ByteArray)(L:List LR)(j:Nat):Except Nat ((Int×Int×Int×Int)×Nat):=
 if DE (Af L j)=false then .error j
 else if(Af L (j+1)).k≠2 then .error (j+1)
 else if Aw (Af L (j+2)) 4 ⟨#[37]⟩=false then .error (j+2)
 else match Ux (s.extract (CR L (j+1)) (CR L (j+2)+1)).toList with
  |none=>.error (j+1)
  | some b=>match opN L 4 ⟨#[43]⟩ (j+3)with
   | .error e=>.error e
   | .ok (fx,k)=>match opN L 1 FB k with
    | .error e=>.error e
    | .ok (mn,k2)=>match opN L 1 FA k2 with
     | .error e=>.error e
     | .ok (mx,k3)=>if Aw (Af L k3) 4 ⟨#[59]⟩=false then .error k3 else .ok ((b,fx,mn,mx),k3+1)
def SC(pl:ByteArray)(L:List LR)(i:Nat):ByteArray:=pl.extract (CR L (i+3)) (CR L (exJ L (i+3)))
inductive FuE (s pl:ByteArray) (L:List LR) (us:List Fu) (i:Nat):Int→Nat→Prop
 |h {e:Int} {j:Nat}:Mo L us i=some (e,j)→FuE s pl L us i e (CR L j)
 |x {e:Int} {a:Nat} {t:Xs}:Mo L us i=none→PxO (SC pl L i) e a t→e≠0→FuE s pl L us i e (CR L (i+3)+a)
 |t {t:Xs} {k:Nat}:Mo L us i=none→PxO (SC pl L i) 0 0 t→fuT s L (exJ L (i+3))=.error k→FuE s pl L us i 2 (CR L k)
inductive FuO (s pl:ByteArray) (L:List LR) (us:List Fu) (i:Nat):Fu→Nat→Prop
 |ok {t:Xs} {b fx mn mx:Int} {k:Nat}:Mo L us i=none→PxO (SC pl L i) 0 0 t→fuT s L (exJ L (i+3))=.ok ((b,fx,mn,mx),k)→FuO s pl L us i ⟨(Af L (i+1)).t,t,b,fx,mn,mx⟩ k
inductive FlO (s pl:ByteArray) (L:List LR):List Fu→Nat→List Fu→Nat→Prop
 |fin {us:List Fu} {i:Nat}:(Af L i).k=0→FlO s pl L us i us i
 |step {us vs:List Fu} {u:Fu} {i j k:Nat}:(Af L i).k≠0→FuO s pl L us i u j→FlO s pl L (us++[u]) j vs k→FlO s pl L us i vs k
inductive FlE (s pl:ByteArray) (L:List LR):List Fu→Nat→Int→Nat→Prop
 |err {us:List Fu} {e:Int} {i a:Nat}:(Af L i).k≠0→FuE s pl L us i e a→FlE s pl L us i e a
 |step {us:List Fu} {u:Fu} {e:Int} {i j a:Nat}:(Af L i).k≠0→FuO s pl L us i u j→FlE s pl L (us++[u]) j e a→FlE s pl L us i e a
def BM(s:ByteArray):ByteArray:=bs (bR s.toList)
inductive PfO (s:ByteArray):Int→Nat→List Fu→Prop
 |scan:(AG (BM s)).1≠0→PfO s (AG (BM s)).1 (AG (BM s)).2.1 []
 |er {e:Int} {a:Nat}:(AG (BM s)).1=0→FlE s (BM s) (AG (BM s)).2.2 [] 0 e a→PfO s e a []
 |ok {us:List Fu} {j:Nat}:(AG (BM s)).1=0→FlO s (BM s) (AG (BM s)).2.2 [] 0 us j→PfO s 0 0 us
section
variable {s pl:ByteArray} {L:List LR}
theorem FuE.ne{us:List Fu}{i a:Nat}{e:Int}(h:FuE s pl L us i e a):e≠0:=by
 cases h with
 |h h1=>
  unfold Mo at h1
  repeat' split at h1
  all_goals first|(cases h1;done)|(cases h1;decide)
 |x _ _ h=>exact h
 |t=>decide
theorem FuE.det{us:List Fu}{i a a':Nat}{e e':Int}(h:FuE s pl L us i e a)(h':FuE s pl L us i e' a'):e=e'∧a=a':=by
 cases h with
 |h h1=>cases h' with
  |h g1=>rw[h1]at g1;cases g1;exact⟨rfl,rfl⟩
  |x g1=>rw[h1]at g1;cases g1
  |t g1=>rw[h1]at g1;cases g1
 |x h1 h2 h3=>cases h' with
  |h g1=>rw[h1]at g1;cases g1
  |x g1 g2=>obtain⟨rfl,rfl,rfl⟩:=h2.det g2;exact⟨rfl,rfl⟩
  |t g1 g2=>obtain⟨rfl,_⟩:=h2.det g2;exact absurd rfl h3
 |t h1 h2 h3=>cases h' with
  |h g1=>rw[h1]at g1;cases g1
  |x g1 g2 g3=>obtain⟨rfl,_⟩:=h2.det g2;exact absurd rfl g3
  |t g1 g2 g3=>rw[h3]at g3;cases g3;exact⟨rfl,rfl⟩
theorem FuE.not{us:List Fu}{i j a:Nat}{e:Int}{u:Fu}(h:FuE s pl L us i e a)(h':FuO s pl L us i u j):False:=by
 cases h' with
 |ok g1 g2 g3=>cases h with
  |h h1=>rw[g1]at h1;cases h1
  |x h1 h2 h3=>obtain⟨rfl,_⟩:=h2.det g2;exact h3 rfl
  |t h1 h2 h3=>rw[g3]at h3;cases h3
theorem FuO.det{us:List Fu}{i j j':Nat}{u u':Fu}(h:FuO s pl L us i u j)(h':FuO s pl L us i u' j'):u=u'∧j=j':=by
 cases h with
 |ok h1 h2 h3=>cases h' with
  |ok g1 g2 g3=>obtain⟨_,_,rfl⟩:=h2.det g2;rw[h3]at g3;cases g3;exact⟨rfl,rfl⟩
theorem FlO.det{us vs:List Fu}{i j:Nat}(h:FlO s pl L us i vs j): ∀{vs':List Fu} {j':Nat},FlO s pl L us i vs' j'→vs=vs'∧j=j':=by
 induction h with
 |fin h=>intro vs' j' h';cases h' with
  |fin=>exact⟨rfl,rfl⟩
  |step g=>exact absurd h g
 | step h1 h2 h3 ih=>intro vs' j' h';cases h' with
  |fin g=>exact absurd g h1
  |step g1 g2 g3=>
   obtain⟨rfl,rfl⟩:=h2.det g2
   exact ih g3
theorem FlE.det{us:List Fu}{i a:Nat}{e:Int}(h:FlE s pl L us i e a): ∀{e':Int} {a':Nat},FlE s pl L us i e' a'→e=e'∧a=a':=by
 induction h with
 |err h1 h2=>intro e' j' h';cases h' with
  |err g1 g2=>exact h2.det g2
  |step g1 g2 g3=>exact absurd g2 fun g=>h2.not g
 | step h1 h2 h3 ih=>intro e' j' h';cases h' with
  |err g1 g2=>exact absurd h2 fun g=>g2.not g
  |step g1 g2 g3=>
   obtain⟨rfl,rfl⟩:=h2.det g2
   exact ih g3
theorem FlE.not{us:List Fu}{i a:Nat}{e:Int}(h:FlE s pl L us i e a): ∀{vs:List Fu} {j':Nat},FlO s pl L us i vs j'→False:=by
 induction h with
 |err h1 h2=>intro vs j' h';cases h' with
  |fin g=>exact h1 g
  |step g1 g2 g3=>exact h2.not g2
 | step h1 h2 h3 ih=>intro vs j' h';cases h' with
  |fin g=>exact h1 g
  |step g1 g2 g3=>
   obtain⟨rfl,rfl⟩:=h2.det g2
   exact ih g3
end
theorem PfO.det{s:ByteArray}{e e':Int}{a a':Nat}{us us':List Fu}(h:PfO s e a us)(h':PfO s e' a' us'):e=e'∧a=a'∧us=us':=by
 cases h with
 |scan h0=>cases h' with
  |scan=>exact⟨rfl,rfl,rfl⟩
  |er g0=>exact absurd g0 h0
  |ok g0=>exact absurd g0 h0
 |er h0 h1=>cases h' with
  |scan g0=>exact absurd h0 g0
  |er g0 g1=>obtain⟨rfl,rfl⟩:=h1.det g1;exact⟨rfl,rfl,rfl⟩
  |ok g0 g1=>exact absurd g1 fun g=>h1.not g
 |ok h0 h1=>cases h' with
  |scan g0=>exact absurd h0 g0
  |er g0 g1=>exact absurd h1 fun g=>g1.not g
  |ok g0 g1=>obtain⟨rfl,rfl⟩:=h1.det g1;exact⟨rfl,rfl,rfl⟩
set_option maxHeartbeats 2000000
set_option maxRecDepth 20000
section
variable {x y:LR} (h:Cl x=Cl y)
include h
theorem Je(k:Int)(t:ByteArray):Aw x k t=Aw y k t:=by unfold Aw;rw[(Bb h).1,(Bb h).2.1]
theorem aS:LJ x=LJ y:=by unfold LJ;rw[(Bb h).1,(Bb h).2.1]
theorem Oi:DE x=DE y:=Je h _ _
end
structure Seg(s pl:ByteArray)(L:List LR)(n:Nat)(s' pl':ByteArray)(L':List LR)(d sg:Nat):Prop where
 key: ∀i,i<n→Cl (Af L' (i+d))=Cl (Af L i)
 pos: ∀i,i<n→CR L' (i+d)=CR L i+sg
 pe: ∀a b,pl'.extract (a+sg) (b+sg)=pl.extract a b∨pl.size<b
 tx: ∀a b,s'.extract (a+sg) (b+sg)=s.extract a b∨s.size<b
 lt: ∀i,i<n→CR L i+1≤s.size∧CR L i≤pl.size
 nz: ∀i,(Af L i).k≠0→i<n
 nk: ∀{i},i<n→(Af L i).k≠0
 n0:(Af L n).k=0
 len:n<L.length
 len':n+d≤L'.length
theorem Ho{x:LR}{k:Int}{t:ByteArray}(h:Aw x k t=true)(hk:k≠0):x.k≠0:=by rw[B0 h];exact hk
theorem Lr{L:List LR}: ∀(f i j:Nat),i≤j→j≤i+f→(∀m,i≤m→m<j→(Af L m).k≠0∧DE (Af L m)=false)→((Af L j).k=0∨DE (Af L j)=true)→YJ L f i=j
 |0,i,j,h1,h2,_,_=>by simp only[YJ];omega
 | f+1,i,j,h1,h2,h3,h4=>by
  simp only[YJ]
  by_cases e:i=j
  ·subst e;rw[if_pos h4]
  ·obtain⟨a,b⟩:=h3 i (Nat.le_refl _) (by omega)
   rw[if_neg (by rw[b];simp[a]),Lr f (i+1) j (by omega) (by omega) (fun m h5 h6=>h3 m (by omega) h6) h4]
theorem OT{L:List LR}: ∀(f i:Nat),i≤YJ L f i∧YJ L f i≤i+f∧(∀m,i≤m→m<YJ L f i→(Af L m).k≠0∧DE (Af L m)=false)
 |0,i=>⟨Nat.le_refl _,Nat.le_refl _,fun m h1 h2=>by simp only[YJ]at h2;omega⟩
 | f+1,i=>by
  simp only[YJ]
  by_cases h:(Af L i).k=0∨DE (Af L i)=true
  ·rw[if_pos h];exact⟨Nat.le_refl _,by omega,fun m h1 h2=>by omega⟩
  ·rw[if_neg h]
   obtain⟨a,b,c⟩:=OT (L:=L) f (i+1)
   refine⟨by omega,by omega,fun m h1 h2=> ?_⟩
   by_cases e:m=i
   ·subst e;exact⟨fun h3=>h (.inl h3),by cases h4:DE (Af L m)with|true=>exact absurd (.inr h4) h|false=>rfl⟩
   ·exact c m (by omega) h2
section
variable {s pl s' pl':ByteArray} {L L':List LR} {n d sg:Nat} (H:Seg s pl L n s' pl' L' d sg)
include H
theorem Seg.opN{k:Int}{w:ByteArray}{i i2:Nat}{v:Int}(h:opN L k w i=.ok (v,i2))(hi:i2<n)(hk:k≠0):i≤i2∧opN L' k w (i+d)=.ok (v,i2+d):=by
 unfold Go.Proofs.YtgmfcdeknaeikaaGreatDoor.opN at h⊢
 split at h
 ·rename_i h1
  split at h
  ·rename_i h2
   cases h
   have e1:=H.key i (by omega)
   have e2:=H.key (i+1) (by omega)
   rw[show i+d+1=i+1+d by omega,Je e1,if_pos h1,(Bb e2).1,if_pos h2,(Bb e2).2.2]
   exact⟨by omega,by rw[show i+d+2=i+2+d by omega]⟩
  ·cases h
 ·rename_i h1
  cases h
  have e1:=H.key i hi
  rw[Je e1,if_neg h1]
  exact⟨Nat.le_refl _,rfl⟩
theorem Seg.fuT{j k:Nat}{q:Int×Int×Int×Int}(h:fuT s L j=.ok (q,k)):j<n∧k≤n∧j<k∧DE (Af L j)=true∧fuT s' L' (j+d)=.ok (q,k+d):=by
 unfold Go.Proofs.YtgmfcdeknaeikaaGreatDoor.fuT at h⊢
 split at h
 ·cases h
 rename_i h1
 have h1':DE (Af L j)=true:=by simpa using h1
 split at h
 ·cases h
 rename_i h2
 have h2':(Af L (j+1)).k=2:=by simpa using h2
 split at h
 ·cases h
 rename_i h3
 have h3':Aw (Af L (j+2)) 4 ⟨#[37]⟩=true:=by simpa using h3
 have n0:=H.nz j (Ho h1' (by decide))
 have n1:=H.nz (j+1) (by rw[h2'];decide)
 have n2:=H.nz (j+2) (Ho h3' (by decide))
 split at h
 ·cases h
 rename_i b hb
 split at h
 ·cases h
 rename_i fx k1 hk1
 split at h
 ·cases h
 rename_i mn k2 hk2
 split at h
 ·cases h
 rename_i mx k3 hk3
 split at h
 ·cases h
 rename_i h4
 have h4':Aw (Af L k3) 4 ⟨#[59]⟩=true:=by simpa using h4
 have n3:=H.nz k3 (Ho h4' (by decide))
 cases h
 have m3:k2≤k3:=by
  unfold Go.Proofs.YtgmfcdeknaeikaaGreatDoor.opN at hk3
  split at hk3
  ·split at hk3
   ·cases hk3;omega
   ·cases hk3
  ·cases hk3;omega
 have m2:k1≤k2:=by
  unfold Go.Proofs.YtgmfcdeknaeikaaGreatDoor.opN at hk2
  split at hk2
  ·split at hk2
   ·cases hk2;omega
   ·cases hk2
  ·cases hk2;omega
 obtain⟨_,o3⟩:=H.opN hk3 n3 (by decide)
 obtain⟨_,o2⟩:=H.opN hk2 (by omega) (by decide)
 obtain⟨m1,o1⟩:=H.opN hk1 (by omega) (by decide)
 have e0:=H.key j n0
 have e1:=H.key (j+1) n1
 have e2:=H.key (j+2) n2
 have e3:=H.key k3 n3
 have p1:=H.pos (j+1) n1
 have p2:=H.pos (j+2) n2
 have ht:s'.extract (CR L (j+1)+sg) (CR L (j+2)+sg+1)=s.extract (CR L (j+1)) (CR L (j+2)+1):=by
  rcases H.tx (CR L (j+1)) (CR L (j+2)+1)with h|h
  ·rw[←h];congr 1;omega
  ·have:=(H.lt (j+2) n2).1;omega
 refine⟨n0,by omega,by omega,h1', ?_⟩
 rw[show j+d+1=j+1+d by omega,show j+d+2=j+2+d by omega,show j+d+3=j+3+d by omega,Oi e0,if_neg h1,(Bb e1).1,if_neg h2,Je e2,if_neg h3,p1,p2,ht,hb]
 simp only[o1,o2,o3]
 rw[Je e3,if_neg h4]
 simp only[Except.ok.injEq,Prod.mk.injEq,true_and]
 omega
theorem Seg.exJ{i j:Nat}(hi:i≤n)(hj:exJ L i=j)(hc:DE (Af L j)=true):i≤j∧j<n∧Go.Proofs.YtgmfcdeknaeikaaGreatDoor.exJ L' (i+d)=j+d:=by
 have nj:=H.nz j (Ho hc (by decide))
 unfold Go.Proofs.YtgmfcdeknaeikaaGreatDoor.exJ at hj⊢
 obtain⟨a,b,c⟩:=OT (L:=L) (L.length - i) i
 rw[hj]at a b c
 refine⟨a,nj,Lr _ _ _ (by omega) (by have:=H.len';omega) (fun m h1 h2=> ?_) (.inr ?_)⟩
 ·obtain⟨q1,q2⟩:=c (m - d) (by omega) (by omega)
  have e:=H.key (m - d) (by omega)
  rw[show m - d+d=m by omega]at e
  rw[(Bb e).1,Oi e];exact⟨q1,q2⟩
 ·rw[Oi (H.key j nj)];exact hc
theorem Seg.rule{us:List Fu}{i k:Nat}{u:Fu}(h:FuO s pl L us i u k):i<k∧k≤n∧us.length<64∧Cn u.nm us=false∧(Af L i).k≠0∧ ∀vs:List Fu,
  (64≤vs.length→FuE s' pl' L' vs (i+d) 3 (CR L' (i+d)))∧(vs.length<64→Cn u.nm vs=true→FuE s' pl' L' vs (i+d) 7 (CR L' (i+1+d)))∧(vs.length<64→Cn u.nm vs=false→FuO s' pl' L' vs (i+d) u (k+d)):=by
 cases h with
 | @ok t b fx mn mx k h1 h2 h3=>
  obtain⟨t1,t2,t3,t4,t5⟩:=H.fuT h3
  unfold Go.Proofs.YtgmfcdeknaeikaaGreatDoor.Mo at h1
  split at h1
  ·cases h1
  rename_i q1
  split at h1
  ·cases h1
  rename_i q2
  split at h1
  ·cases h1
  rename_i q3
  split at h1
  ·cases h1
  rename_i q4
  split at h1
  ·cases h1
  rename_i q5
  have q2':Aw (Af L i) 1 F2=true:=by simpa using q2
  have q3':LJ (Af L (i+1))=true:=by simpa using q3
  have q5':Aw (Af L (i+2)) 1 ⟨#[119,104,101,110]⟩=true:=by simpa using q5
  have q4':Cn (Af L (i+1)).t us=false:=by simpa using q4
  have n0:=H.nz i (Ho q2' (by decide))
  have n1:=H.nz (i+1) (by unfold LJ at q3';simp only[Bool.and_eq_true,decide_eq_true_eq]at q3';rw[q3'.1];decide)
  have n2:=H.nz (i+2) (Ho q5' (by decide))
  obtain⟨x1,x2,x3⟩:=H.exJ (i:=i+3) (by omega) rfl t4
  have e0:=H.key i n0
  have e1:=H.key (i+1) n1
  have e2:=H.key (i+2) n2
  have hlen:us.length<64:=by
   rcases Nat.lt_or_ge us.length 64 with h|h
   ·exact h
   ·exact absurd ⟨h,q2'⟩ q1
  refine⟨by omega,t2,hlen,q4',Ho q2' (by decide),fun vs=>⟨fun hv=> ?_,fun hv hh=> ?_,fun hv hh=> ?_⟩⟩
  ·exact .h (by unfold Go.Proofs.YtgmfcdeknaeikaaGreatDoor.Mo;rw[Je e0,if_pos ⟨hv,q2'⟩])
  ·refine .h ?_
   unfold Go.Proofs.YtgmfcdeknaeikaaGreatDoor.Mo
   rw[show i+d+1=i+1+d by omega,show i+d+2=i+2+d by omega,Je e0,if_neg (fun h=>by omega),if_neg q2,aS e1,if_neg q3,(Bb e1).2.1,if_pos hh]
  ·have hH:Mo L' vs (i+d)=none:=by
    unfold Go.Proofs.YtgmfcdeknaeikaaGreatDoor.Mo
    rw[show i+d+1=i+1+d by omega,show i+d+2=i+2+d by omega,Je e0,if_neg (fun h=>by omega),if_neg q2,aS e1,if_neg q3,(Bb e1).2.1,if_neg (by rw[hh];simp),Je e2,if_neg q5]
   have p3:=H.pos (i+3) (by omega)
   have pj:=H.pos _ x2
   have hS:SC pl' L' (i+d)=SC pl L i:=by
    unfold SC
    rw[show i+d+3=i+3+d by omega,x3,p3,pj]
    rcases H.pe (CR L (i+3)) (CR L (Go.Proofs.YtgmfcdeknaeikaaGreatDoor.exJ L (i+3)))with h|h
    ·exact h
    ·have:=(H.lt _ x2).2;omega
   have:=FuO.ok (s:=s') (pl:=pl') (L:=L') (us:=vs) (i:=i+d) (t:=t) (b:=b) (fx:=fx) (mn:=mn) (mx:=mx) (k:=k+d) hH (by rw[hS];exact h2) (by rw[show i+d+3=i+3+d by omega,x3];exact t5)
   rw[show i+d+1=i+1+d by omega,(Bb e1).2.1]at this
   exact this
end
def FF(us:List Fu):List Fu→Except Int (List Fu)
 | []=>.ok us
 |v::vs=>if 64≤us.length then .error 3 else if Cn v.nm us=true then .error 7 else FF (us++[v]) vs
theorem Seg.run{s pl s' pl':ByteArray}{L L':List LR}{n d sg:Nat}(H:Seg s pl L n s' pl' L' d sg){us vs:List Fu}{i k:Nat}(h:FlO s pl L us i vs k):i≤n→ ∃added,vs=us++added∧FF us added=.ok vs∧ ∀us1,
  (∀ws,FF us1 added=.ok ws→(∀vs' k',FlO s' pl' L' ws (n+d) vs' k'→FlO s' pl' L' us1 (i+d) vs' k')∧(∀e a,FlE s' pl' L' ws (n+d) e a→FlE s' pl' L' us1 (i+d) e a))∧
  (∀e,FF us1 added=.error e→ ∃a,FlE s' pl' L' us1 (i+d) e a):=by
 induction h with
 | @fin us i h0=>
  intro hi
  have hin:i=n:=by
   rcases Nat.lt_or_ge i n with h|h
   ·exact absurd h0 (H.nk h)
   ·omega
  subst hin
  refine⟨[],by simp,rfl,fun us1=>⟨fun ws hw=> ?_,fun e he=> ?_⟩⟩
  ·simp only[FF]at hw;cases hw;exact⟨fun _ _ h=>h,fun _ _ h=>h⟩
  ·simp only[FF]at he;cases he
 | @step us vs u i j k h0 h1 h2 ih=>
  intro hi
  obtain⟨r1,r2,r3,r4,r5,r6⟩:=H.rule h1
  obtain⟨added,q1,q2,q3⟩:=ih r2
  have hk':(Af L' (i+d)).k≠0:=by rw[(Bb (H.key i (H.nz i h0))).1];exact h0
  refine⟨u::added,by rw[q1];simp, ?_,fun us1=> ?_⟩
  ·simp only[FF]
   rw[if_neg (by omega),if_neg (by rw[r4];simp),q2]
  obtain⟨c1,c2,c3⟩:=r6 us1
  obtain⟨p1,p2⟩:=q3 (us1++[u])
  refine⟨fun ws hw=> ?_,fun e he=> ?_⟩
  ·simp only[FF]at hw
   split at hw
   ·cases hw
   rename_i hl
   split at hw
   ·cases hw
   rename_i hh
   have hO:=c3 (by omega) (by simpa using hh)
   obtain⟨z1,z2⟩:=p1 ws hw
   exact⟨fun vs' k' hv=>.step hk' hO (z1 _ _ hv),fun e a hv=>.step hk' hO (z2 _ _ hv)⟩
  ·simp only[FF]at he
   split at he
   ·rename_i hl;cases he;exact⟨_,.err hk' (c1 hl)⟩
   rename_i hl
   split at he
   ·rename_i hh;cases he;exact⟨_,.err hk' (c2 (by omega) hh)⟩
   rename_i hh
   have hO:=c3 (by omega) (by simpa using hh)
   obtain⟨a,ha⟩:=p2 e he
   exact⟨a,.step hk' hO ha⟩
set_option maxHeartbeats 2000000
set_option maxRecDepth 20000
theorem Sa{s:ByteArray}{i:Nat}(h:(Al s i).e=0):(Al s i).a=i:=by
 revert h
 unfold Al
 split
 ·intro h;simp[bad]at h
 ·split
  ·intro _;rfl
  split
  ·split
   ·intro h;simp[bad]at h
   ·intro _;rfl
  split
  ·split
   ·rename_i h1;intro h;exact absurd h h1
   ·intro _;rfl
  split
  ·unfold Fg
   split
   ·intro h;simp[bad]at h
   ·split
    ·intro h;simp[bad]at h
    ·intro _;rfl
  split
  ·intro _;rfl
  ·intro h;simp[bad]at h
theorem Xi(s:ByteArray): ∀f i,(A9 s f i).1=0→ ∀x∈(A9 s f i).2.2,x.k≠0→x.a<s.size:=by
 intro f
 induction f with
 |zero=>intro i _ x hx;simp[A9]at hx
 | succ f ih=>
  intro i h0 x hx hk
  by_cases hi:s.size≤i
  ·rw[C0 f hi]at hx
   simp only[List.mem_singleton]at hx
   subst hx
   exact absurd rfl hk
  by_cases he:(Al s i).e=0
  rotate_left
  ·rw[Dg f hi he]at h0;exact absurd h0 he
  rw[DC f hi he rfl]at h0 hx
  have h0':(A9 s f ((Al s i).nx+Bi false (s.toList.drop (Al s i).nx))).1=0:=h0
  simp only[h0',if_true,List.mem_cons]at hx
  rcases hx with rfl|hx
  ·rw[Sa he];omega
  ·exact ih _ h0' x hx hk
theorem N6{s:ByteArray}(h0:(AG s).1=0): ∀x∈(AG s).2.2,x.k≠0→x.a<s.size:=by
 revert h0
 unfold AG
 split
 ·intro h;cases h
 ·exact fun h=>Xi s _ _ h
theorem r8{x:LR}(h:JG x):x.k≠0:=by
 rcases h with h|h|h|h<;>(rw[h.1];decide)
theorem eD{s s':ByteArray}{p q:List UInt8}{sg:Nat}(h:s'.toList=p++(s.toList++q))(hp:p.length=sg)(a b:Nat):s'.extract (a+sg) (b+sg)=s.extract a b∨s.size<b:=by
 rcases Nat.lt_or_ge s.size b with hb|hb
 ·exact .inr hb
 ·left
  apply DD
  rw[Ds,Ds,h,List.take_append,List.take_of_length_le (by omega),hp,Nat.add_sub_cancel,List.take_append_of_le_length (by rw[AP];exact hb),List.drop_append,List.drop_eq_nil_of_le (by omega),hp,Nat.add_sub_cancel,List.nil_append]
theorem TP{s pl s' pl':ByteArray}{K L':List LR}{X:LR}{M N:List ((Int×ByteArray×Int)×Nat)}{d sg:Nat}(hX:X.k=0)(hK: ∀x∈K,x.k≠0∧x.a+1≤s.size)(hm:L'.map (J0 0)=M++(K.map (J0 sg)++N))(hd:M.length=d)(hz:pl.size=s.size)
  {p q p2 q2:List UInt8} (h1:s'.toList=p++(s.toList++q)) (l1:p.length=sg) (h2:pl'.toList=p2++(pl.toList++q2)) (l2:p2.length=sg):Seg s pl (K++[X]) K.length s' pl' L' d sg:=by
 have hlen:L'.length=d+(K.length+N.length):=by
  have:=congrArg List.length hm
  simpa[hd]using this
 have hin: ∀i,i<K.length→Af (K++[X]) i=Af K i:=fun i hi=>by
  unfold Af;rw[List.getD_eq_getElem?_getD,List.getD_eq_getElem?_getD,List.getElem?_append_left hi]
 have hget: ∀i (hi:i<K.length),Af K i=K[i]:=fun i hi=>Eo (List.getElem?_eq_getElem hi)
 have hmap: ∀i,i<K.length→J0 0 (Af L' (i+d))=J0 sg (Af K i):=fun i hi=>by
  have h3:(L'.map (J0 0))[i+d]? =some (J0 sg (Af K i)):=by
   rw[hm,List.getElem?_append_right (by omega),show i+d - M.length=i by omega,List.getElem?_append_left (by simpa using hi),List.getElem?_map,List.getElem?_eq_getElem hi,hget i hi]
   rfl
  have hb:i+d<L'.length:=by omega
  rw[List.getElem?_map,List.getElem?_eq_getElem hb]at h3
  rw[Eo (List.getElem?_eq_getElem hb)]
  simpa using h3
 have hend:Af (K++[X]) K.length=X:=Eo (by simp)
 refine⟨fun i hi=> ?_,fun i hi=> ?_,fun a b=>eD h2 l2 a b,fun a b=>eD h1 l1 a b,fun i hi=> ?_,fun i hk=> ?_,fun hi=> ?_, ?_,by simp,by omega⟩
 ·have:=hmap i hi
  rw[hin i hi]
  simp only[J0,Prod.mk.injEq]at this
  exact this.1
 ·have:=hmap i hi
  unfold CR
  rw[hin i hi]
  simp only[J0,Prod.mk.injEq,Nat.add_zero]at this
  exact this.2
 ·unfold CR
  rw[hin i hi,hget i hi,hz]
  have:=(hK _ (List.getElem_mem hi)).2
  omega
 ·rcases Nat.lt_or_ge i K.length with h|h
  ·exact h
  ·exfalso
   by_cases e:i=K.length
   ·subst e;rw[hend]at hk;exact hk hX
   ·apply hk
    unfold Af
    rw[List.getD_eq_getElem?_getD,List.getElem?_eq_none (by simp;omega)]
    rfl
 ·rw[hin _ hi,hget _ hi]
  exact(hK _ (List.getElem_mem hi)).1
 ·rw[hend];exact hX
theorem CD(s:ByteArray):(BM s).size=s.size:=by unfold BM;rw[Ab,LO,AP]
theorem MD(s:ByteArray):(BM s).toList=pW false s.toList:=by unfold BM;rw[Ar];rfl
theorem PA{P:ByteArray}(h0:(AG P).1=0): ∃K,(AG P).2.2=K++[DS P]∧ ∀x∈K,x.k≠0∧x.a+1≤P.size:=by
 obtain⟨K,hS,hw,_⟩:=DY h0
 refine⟨K,hS,fun x hx=>⟨r8 (hw x hx), ?_⟩⟩
 exact N6 h0 x (by rw[hS];exact List.mem_append_left _ hx) (r8 (hw x hx))
theorem PfO.ok_inv{s:ByteArray}{a:Nat}{us:List Fu}(h:PfO s 0 a us):(AG (BM s)).1=0∧a=0∧ ∃j,FlO s (BM s) (AG (BM s)).2.2 [] 0 us j:=by
 generalize he:(0:Int)=e at h
 cases h with
 |scan h0=>exact absurd he.symm h0
 | er h0 h1=>
  subst he
  exfalso
  have: ∀{us:List Fu} {e:Int} {i a:Nat},FlE s (BM s) (AG (BM s)).2.2 us i e a→e≠0:=fun h=>by
   induction h with
   |err _ h=>exact h.ne
   |step _ _ _ ih=>exact ih
  exact this h1 rfl
 |ok h0 h1=>exact⟨h0,rfl,_,h1⟩
theorem qy{s t r:ByteArray}{us vs:List Fu}{a b:Nat}(h:r.toList=s.toList++10::t.toList)(hz:r.size≤4000)(h1:PfO s 0 a us)(h2:PfO t 0 b vs):(∀ws,FF us vs=.ok ws→PfO r 0 0 ws)∧(∀e,FF us vs=.error e→ ∃a,PfO r e a []):=by
 obtain⟨s0,_,js,f1⟩:=h1.ok_inv
 obtain⟨t0,_,jt,f2⟩:=h2.ok_inv
 have hc:cW false s.toList=true:=Vr s0
 have hR:(BM r).toList=(BM s).toList++10::(BM t).toList:=by
  rw[MD,MD,MD,h,Nv s.toList.length s.toList false t.toList (Nat.le_refl _) hc]
 obtain⟨K0,hK0,r0,hmap⟩:=cT hR (by rw[CD];exact hz) s0
 have r0:(AG (BM r)).1=0:=by rw[r0,t0]
 have hmap:=hmap r0
 obtain⟨K1,hK1,p1⟩:=PA s0
 obtain⟨K2,hK2,p2⟩:=PA t0
 have hKK:K0=K1:=by
  rw[hK1]at hK0
  exact(List.append_inj' hK0 rfl).1.symm
 subst hKK
 have S1:Seg s (BM s) (K0++[DS (BM s)]) K0.length r (BM r) (AG (BM r)).2.2 0 0:=
  TP (M:=[]) (N:=(AG (BM t)).2.2.map (J0 ((BM s).size+1))) rfl (fun x hx=>by have:=p1 x hx;rw[CD]at this;exact this) hmap rfl (CD s) (p:=[]) (q:=10::t.toList) h rfl (p2:=[]) (q2:=10::(BM t).toList) hR rfl
 have S2:Seg t (BM t) (K2++[DS (BM t)]) K2.length r (BM r) (AG (BM r)).2.2 K0.length (s.size+1):=by
  refine TP (M:=K0.map (J0 0)) (N:=[J0 (s.size+1) (DS (BM t))]) rfl (fun x hx=>by have:=p2 x hx;rw[CD]at this;exact this) ?_ (by simp) (CD t) (p:=s.toList++[10]) (q:=[]) (by rw[h];simp) (by rw[List.length_append,AP];rfl) (p2:=(BM s).toList++[10]) (q2:=[]) (by rw[hR];simp) (by rw[List.length_append,AP,CD];rfl)
  rw[hmap,hK2,CD,List.map_append];rfl
 rw[hK1]at f1
 rw[hK2]at f2
 obtain⟨ad1,q1,q2,q3⟩:=S1.run f1 (Nat.zero_le _)
 obtain⟨ad2,w1,w2,w3⟩:=S2.run f2 (Nat.zero_le _)
 have e1:us=ad1:=by simpa using q1
 have e2:vs=ad2:=by simpa using w1
 subst e1
 subst e2
 obtain⟨y1,y2⟩:=(q3 []).1 us q2
 obtain⟨z1,z2⟩:=w3 us
 have hfin:(Af (AG (BM r)).2.2 (K2.length+K0.length)).k=0:=by
  have h3:((AG (BM r)).2.2.map (J0 0))[K2.length+K0.length]? =some (J0 (s.size+1) (DS (BM t))):=by
   rw[hmap,hK2,CD,List.getElem?_append_right (by simp),List.length_map,Nat.add_sub_cancel,List.getElem?_map]
   simp
  rw[List.getElem?_map]at h3
  cases hx:(AG (BM r)).2.2[K2.length+K0.length]? with
  |none=>rw[hx]at h3;cases h3
  |some x=>
   rw[hx]at h3
   rw[Eo hx]
   simp only[Option.map_some,Option.some.injEq,J0,Cl,Prod.mk.injEq]at h3
   rw[h3.1.1];rfl
 rw[Nat.zero_add,Nat.add_zero]at y1 y2
 rw[Nat.zero_add]at z1 z2
 refine⟨fun ws hw=> ?_,fun e he=> ?_⟩
 ·exact .ok r0 (y1 _ _ ((z1 ws hw).1 _ _ (.fin hfin)))
 ·obtain⟨a,ha⟩:=z2 e he
  exact⟨a,.er r0 (y2 _ _ ha)⟩
theorem bP{b:List UInt8}(hp:pW false b=b)(hs:Bi false b=b.length)(hl:b.length≤4000):PfO (bs b) 0 0 []:=by
 have hP:BM (bs b)=bs b:=by unfold BM;rw[Ar,Sr,hp]
 have hS:AG (bs b)=(0,0,[DS (bs b)]):=by
  unfold AG
  rw[Ab,if_neg (by omega),Ar,hs,C0 _ (by rw[Ab];omega)]
 exact .ok (j:=0) (by rw[hP,hS]) (by rw[hP,hS];exact .fin rfl)
theorem jS{s:ByteArray}{us:List Fu}{a:Nat}(h1:PfO s 0 a us):FF [] us=.ok us∧us.length≤64:=by
 obtain⟨s0,_,js,f1⟩:=h1.ok_inv
 obtain⟨K1,hK1,p1⟩:=PA s0
 have S1:Seg s (BM s) (K1++[DS (BM s)]) K1.length s (BM s) (AG (BM s)).2.2 0 0:=by
  refine TP (M:=[]) (N:=[J0 0 (DS (BM s))]) rfl (fun x hx=>by have:=p1 x hx;rw[CD]at this;exact this) ?_ rfl (CD s) (p:=[]) (q:=[]) (by simp) rfl (p2:=[]) (q2:=[]) (by simp) rfl
  rw[hK1,List.map_append];rfl
 rw[hK1]at f1
 obtain⟨ad1,q1,q2,q3⟩:=S1.run f1 (Nat.zero_le _)
 have e1:us=ad1:=by simpa using q1
 subst e1
 refine⟨q2, ?_⟩
 have len: ∀(vs us ws:List Fu),us.length≤64→FF us vs=.ok ws→ws.length≤64:=by
  intro vs
  induction vs with
  |nil=>intro us ws h hr;simp only[FF]at hr;cases hr;exact h
  |cons v vs ih=>
   intro us ws h hr
   simp only[FF]at hr
   split at hr
   ·cases hr
   split at hr
   ·cases hr
   exact ih _ _ (by simp;omega) hr
 exact len us [] us (by simp) q2
end Go.Proofs.YtgmfcdeknaeikaaGreatDoor
