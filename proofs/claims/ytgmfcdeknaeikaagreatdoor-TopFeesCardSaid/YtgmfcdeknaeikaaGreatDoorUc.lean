/-
Evaluating expressions; their names.
Conditions: none.
-/
import Derived.Test.YtgmfcdeknaeikaaGreatDoorUb
set_option linter.unusedSimpArgs false
set_option linter.unusedVariables false
set_option linter.defProp false
namespace Go.Proofs.YtgmfcdeknaeikaaGreatDoor
open Go.Vm
set_option maxHeartbeats 8000000
set_option maxRecDepth 20000
def Cm:=An @Cd (An @C8 (An @C9 (An @CM (An @Cc (An @C6 (An @D1 (An @Cr (An @E5 (An @H2 (An @Es (An @D5 (An @Db (An @El (An @GP (An @CW (An @OV (An @OU (An @Bn (An @De (An @Hh (An @Hi (An @HJ (An @QK (An @Do (An @Ek (An @KG (An @KA (An @KB (An @KH (An @J9 (An @KC (An @Nz (An @EF (An @Bx (An @LF (An @FM (An @OW @C5)))))))))))))))))))))))))))))))))))))
theorem B5.tl{α:Type}{f:α→List Value}{n:Nat}{A:AH}{b off:Nat}{x:α}{L:List α}(h:B5 f n A (some ⟨b,off,none⟩) (x::L)):B5 f n A (some ⟨b,off+n,none⟩) L:=by
 rcases h with h|⟨b',off',cs,e,fr,h1,h2,h3⟩
 ·cases h
 ·cases h1
  refine .inr ⟨b,off+n,cs,e,fr,rfl,h2,fun i a hi=> ?_⟩
  have:=h3 (i+1) a (by simpa using hi)
  rw[←this]
  congr 1
  rw[Nat.succ_mul];omega
theorem Zh(A:AH)(op n:Int)(nm tx:ByteArray)(args:List Xs)(p:Option Addr)(cap:Nat)(rs:List Xr)(hcap:args.length≤cap)(hrs:rs.length=args.length)(hS:B5 Ba 5 A p rs)(fs:List Ft)(xb mb:Nat)(es:Array MapEntry)(cl:Nat)(hx:Vm.AA A xb=some (.cells #[.map (some mb),.nilIface] 186))(hmb:Vm.AA A mb=some (.map es cl))(hm:DK es (QH fs))(hfo:Mn op nm tx n args.length=true)(hnum: ∀x∈args,∀v,EQ fs x=some v→Bc v.n=true)(ih: ∀(k:Nat) (x:Xs) (r:Xr),args[k]? =some x→rs[k]? =some r→ ∀B,SubA A B→Ag Tryz.prog 128 #[.pointer (some ⟨xb,0,none⟩),Bt r] B=some (CE (EQ fs x))):AK Tryz.prog 128 #[.pointer (some ⟨xb,0,none⟩),.agg #[.int .i64 op,.string nm,.string tx,.int .i64 n,.slice p args.length cap]] A (fun u_ A_=>u_=CE (EQ fs (.mk op nm tx n args))∧SubA A A_):=by
 refine AC ⟨Tryz.prog,128,Tryz.f128,110,[0,1,3,4,5,6,7,8,9,10,12,56],⟨[],none⟩,[(23,.p [(0,0),(1,0),(2,0),(3,0),(4,0),(5,0),(6,0),(7,0),(8,2),(9,0)])],_⟩ rfl (args:=[_,_]) Tryz.func128 rfl (by kernel_rfl) Tryz.ntmps128 (by simp) (by kernel_rfl) ?_
 intro ν fr;have nuE:=fr.nu
 have hop:=kY hfo
 have hl:args.length≤17:=by omega
 have f0:=fr.2 0
 have f1:=fr.2 1
 have n01:(ν 1=ν 0)=False:=by simp[nuE]
 have hw:EQ fs (.mk op nm tx n args)=oW fs op nm tx n (args.map (EQ fs)):=by rw[EQ,VN]
 rw[hw]
 obtain⟨q1,q2⟩:=AU f0 hx
 obtain⟨q3,q4⟩:=AU f1 hx
 have sA: ∀o o1,SubA A ((ν 1,o)::(ν 0,o1)::A):=fun o o1=>SubA.skip f1 (SubA.skip f0 (SubA.refl _))
 by_cases o1:op=1
 ·subst o1
  simp (maxDischargeDepth:=16) only[AF,↓AE,simprocAttr,nuE,fr.2,Cm]
  rfl
 by_cases o2:op=2
 ·subst o2
  simp (maxDischargeDepth:=16) only[AF,↓AE,simprocAttr,nuE,fr.2,Cm]
  rfl
 by_cases o3:op=3
 ·subst o3
  have fv:=fun o o1=>Zc A xb mb es cl fs hx hmb hm nm ((ν 1,o)::(ν 0,o1)::A) (sA o o1)
  simp (maxDischargeDepth:=16) only[AF,↓AE,simprocAttr,nuE,fr.2,Cm,fv]
  have e1:(Pb fs nm).nm=eB:=by unfold Pb;split<;>first|rfl|(split<;>rfl)
  show _=CE (some (Pb fs nm))
  simp only[CE,e1,eB]
 by_cases o16:op=16
 ·subst o16
  have fv:=fun o o1=>pY hx ⟨16,nm,tx,n,p,args.length,cap⟩ ((ν 1,o)::(ν 0,o1)::A) (sA o o1)
  simp only[Bt,Ba]at fv
  simp (maxDischargeDepth:=16) only[AF,↓AE,simprocAttr,nuE,fr.2,Cm,fv]
  rfl
 by_cases o17:op=17
 ·subst o17
  have fv:=fun o o1=>pY hx ⟨17,nm,tx,n,p,args.length,cap⟩ ((ν 1,o)::(ν 0,o1)::A) (sA o o1)
  simp only[Bt,Ba]at fv
  simp (maxDischargeDepth:=16) only[AF,↓AE,simprocAttr,nuE,fr.2,Cm,fv]
  rfl
 obtain⟨x,L,rfl⟩: ∃x L,args=x::L:=by
  cases args with
  |nil=>simp at hop;omega
  |cons x L=>exact⟨x,L,rfl⟩
 obtain⟨r,R,rfl⟩: ∃r R,rs=r::R:=by
  cases rs with
  |nil=>simp at hrs
  |cons r R=>exact⟨r,R,rfl⟩
 obtain⟨bk,off,cs,ty,fr0,hp0,hbk,hcr,hcc⟩:=hS.at (i:=0) (a:=r) rfl
 subst hp0
 simp only[Ba,Nat.zero_mul,Nat.add_zero]at hcr
 obtain⟨q5,q6⟩:=AU f0 hbk
 obtain⟨q7,q8⟩:=AU f1 hbk
 have lt:((0:Int)<((L.length+1:Nat):Int))=True:=eq_true (by omega)
 have iv:=fun o o1=>ih 0 x r rfl rfl ((ν 1,o)::(ν 0,o1)::A) (sA o o1)
 simp only[Bt,Ba]at iv
 have f2:=fr.2 2
 have n02:(ν 2=ν 0)=False:=by simp[nuE]
 have n12:(ν 2=ν 1)=False:=by simp[nuE]
 have sB: ∀o o1 o2,SubA A ((ν 2,o)::(ν 1,o1)::(ν 0,o2)::A):=fun o o1 o2=>SubA.skip f2 (sA o1 o2)
 cases hv:EQ fs x with
 |none=>
  rw[hv]at iv
  simp only[CE]at iv
  simp (maxDischargeDepth:=16) only[AF,↓AE,simprocAttr,nuE,fr.2,Cm,eq_false o1,eq_false o2,eq_false o3,eq_false o16,eq_false o17,lt,hbk,hcr,q5,q7,iv]
  unfold oW;rw[if_neg o1,if_neg o2,if_neg o3,if_neg (by omega)];simp[hv,CE]
 | some f=>
  rw[hv]at iv
  simp only[CE]at iv
  have hfn:Bc f.n=true:=hnum x (by simp) f hv
  have hO:oW fs op nm tx n ((x::L).map (EQ fs))=(if op=4 then some (Ej (decide (f.n=0)))else if op=5 then some (Gy (-f.n))
   else if op=15 then H6 f (L.map (EQ fs))
   else if(op=6∧f.n=0)∨(op=7∧f.n=1)then some f
   else match L.map (EQ fs)with
    |some g::_=>Bd op f g
    |_=>none):=by
   unfold oW;rw[if_neg o1,if_neg o2,if_neg o3,if_neg (by omega),List.map_cons,hv]
   rfl
  rw[hO]
  clear hO hw
  by_cases o4:op=4
  ·subst o4
   by_cases hz:f.n=0
   ·have hz':(f.n==0)=true:=by simp[hz]
    simp (maxDischargeDepth:=16) only[AF,↓AE,simprocAttr,nuE,fr.2,Cm,lt,hbk,hcr,q5,q7,iv,hz']
    simp[hz,CE,Ej,eB]
   ·have hz':(f.n==0)=false:=by simp[hz]
    simp (maxDischargeDepth:=16) only[AF,↓AE,simprocAttr,nuE,fr.2,Cm,lt,hbk,hcr,q5,q7,iv,hz']
    simp[hz,CE,Ej,eB]
  by_cases o5:op=5
  ·subst o5
   have wn:IntKind.i64.wrap (0 - f.n)= -f.n:=by simp only[Bc,Bool.and_eq_true,decide_eq_true_eq]at hfn;rw[AW (by omega) (by omega)];omega
   simp (maxDischargeDepth:=16) only[AF,↓AE,simprocAttr,nuE,fr.2,Cm,lt,hbk,hcr,q5,q7,iv,wn]
   simp[CE,Gy,eB]
  by_cases o15:op=15
  ·subst o15
   simp only[List.length_cons]at hop hcap hl hrs
   have s1:((1:Int)≤((L.length+1:Nat):Int))=True:=eq_true (by omega)
   have s2:(((L.length+1:Nat):Int)≤(cap:Int))=True:=eq_true (by omega)
   have cn:(cap=1)=False:=eq_false (by omega)
   have jv:=fun o o1 o2=>gZ A xb fs f L (some ⟨bk,off+5,none⟩) (cap - 1) R (by omega) (by omega) (B5.tl hS) (fun k y s hy hs B hB=>ih (k+1) y s (by simpa using hy) (by simpa using hs) B hB) ((ν 2,o)::(ν 1,o1)::(ν 0,o2)::A) (sB o o1 o2)
   cases hvi:H6 f (L.map (EQ fs))with
   |none=>
    rw[hvi]at jv
    simp only[CE]at jv
    simp (maxDischargeDepth:=16) only[AF,↓AE,simprocAttr,nuE,fr.2,Cm,lt,hbk,hcr,q5,q7,iv,s1,s2,cn,jv]
    rfl
   |some g=>
    rw[hvi]at jv
    simp only[CE]at jv
    simp (maxDischargeDepth:=16) only[AF,↓AE,simprocAttr,nuE,fr.2,Cm,lt,hbk,hcr,q5,q7,iv,s1,s2,cn,jv]
    rfl
  have o6:op=6∨op=7∨op=8∨op=9∨op=10∨op=11∨op=12∨op=13∨op=14:=by omega
  obtain⟨y,rfl⟩: ∃y,L=[y]:=by
   match L,hop with
   | [],h=>simp at h;omega
   | [y],_=>exact⟨y,rfl⟩
   |_::_::_,h=>simp at h;omega
  obtain⟨s,rfl⟩: ∃s,R=[s]:=by
   match R,hrs with
   | [],h=>simp at h
   | [s],_=>exact⟨s,rfl⟩
   |_::_::_,h=>simp at h
  obtain⟨bk2,off2,cs2,ty2,fz2,hp2,hbk2,hcr2,hcc2⟩:=hS.at (i:=1) (a:=s) rfl
  cases hp2
  cases hbk.symm.trans hbk2
  simp only[Ba,Nat.one_mul]at hcr2
  have iw:=fun o o1 o2=>ih 1 y s rfl rfl ((ν 2,o)::(ν 1,o1)::(ν 0,o2)::A) (sB o o1 o2)
  simp only[Bt,Ba]at iw
  obtain⟨q9,q10⟩:=AU f2 hbk
  have n03:(ν 3=ν 0)=False:=by simp[nuE]
  have n13:(ν 3=ν 1)=False:=by simp[nuE]
  have n23:(ν 3=ν 2)=False:=by simp[nuE]
  have lt1:((1:Int)<(([y].length+1:Nat):Int))=True:=eq_true (by simp)
  have hy: ∀v,EQ fs y=some v→Bc v.n=true:=hnum y (by simp)
  clear hop hfo ih hS hnum
  rcases o6 with rfl|rfl|rfl|rfl|rfl|rfl|rfl|rfl|rfl
  ·by_cases hz:f.n=0
   ·have hz':(f.n==0)=true:=by simp[hz]
    simp (maxDischargeDepth:=16) only[AF,↓AE,simprocAttr,nuE,fr.2,Cm,hbk,hcr,q5,q7,q9,iv,iw,hcr2,hz]
    simp[hz,CE]
   have hz':(f.n==0)=false:=by simp[hz]
   cases hw2:EQ fs y with
   |none=>
    rw[hw2]at iw
    simp only[CE]at iw
    simp (maxDischargeDepth:=16) only[AF,↓AE,simprocAttr,nuE,fr.2,Cm,hbk,hcr,q5,q7,q9,iv,iw,hcr2,hz',eq_false hz]
    simp[hw2,CE]
   | some g=>
    rw[hw2]at iw
    simp only[CE]at iw
    have cv:=C5 6 f g hfn (hy g hw2)
    have hr:(match List.map (EQ fs) [y]with|some g::_=>Bd 6 f g|_=>none)=Bd 6 f g:=by simp[hw2]
    cases hc:Bd 6 f g with
    |none=>
     rw[hc]at cv
     simp only[CE]at cv
     simp (maxDischargeDepth:=16) only[AF,↓AE,simprocAttr,nuE,fr.2,Cm,hbk,hcr,q5,q7,q9,iv,iw,hcr2,hz',eq_false hz,cv]
     simp[hw2,hc,CE]
    |some c=>
     rw[hc]at cv
     simp only[CE]at cv
     simp (maxDischargeDepth:=16) only[AF,↓AE,simprocAttr,nuE,fr.2,Cm,hbk,hcr,q5,q7,q9,iv,iw,hcr2,hz',eq_false hz,cv]
     simp[hw2,hc,CE]
  ·by_cases hz:f.n=1
   ·have hz':(f.n==1)=true:=by simp[hz]
    simp (maxDischargeDepth:=16) only[AF,↓AE,simprocAttr,nuE,fr.2,Cm,hbk,hcr,q5,q7,q9,iv,iw,hcr2,hz]
    simp[hz,CE]
   have hz':(f.n==1)=false:=by simp[hz]
   cases hw2:EQ fs y with
   |none=>
    rw[hw2]at iw
    simp only[CE]at iw
    simp (maxDischargeDepth:=16) only[AF,↓AE,simprocAttr,nuE,fr.2,Cm,hbk,hcr,q5,q7,q9,iv,iw,hcr2,hz',eq_false hz]
    simp[hw2,CE]
   | some g=>
    rw[hw2]at iw
    simp only[CE]at iw
    have cv:=C5 7 f g hfn (hy g hw2)
    have hr:(match List.map (EQ fs) [y]with|some g::_=>Bd 7 f g|_=>none)=Bd 7 f g:=by simp[hw2]
    cases hc:Bd 7 f g with
    |none=>
     rw[hc]at cv
     simp only[CE]at cv
     simp (maxDischargeDepth:=16) only[AF,↓AE,simprocAttr,nuE,fr.2,Cm,hbk,hcr,q5,q7,q9,iv,iw,hcr2,hz',eq_false hz,cv]
     simp[hw2,hc,CE]
    |some c=>
     rw[hc]at cv
     simp only[CE]at cv
     simp (maxDischargeDepth:=16) only[AF,↓AE,simprocAttr,nuE,fr.2,Cm,hbk,hcr,q5,q7,q9,iv,iw,hcr2,hz',eq_false hz,cv]
     simp[hw2,hc,CE]
  ·cases hw2:EQ fs y with
   |none=>
    rw[hw2]at iw
    simp only[CE]at iw
    simp (maxDischargeDepth:=16) only[AF,↓AE,simprocAttr,nuE,fr.2,Cm,hbk,hcr,q5,q7,q9,iv,iw,hcr2]
    simp[hw2,CE]
   | some g=>
    rw[hw2]at iw
    simp only[CE]at iw
    have cv:=C5 8 f g hfn (hy g hw2)
    have hr:(match List.map (EQ fs) [y]with|some g::_=>Bd 8 f g|_=>none)=Bd 8 f g:=by simp[hw2]
    cases hc:Bd 8 f g with
    |none=>
     rw[hc]at cv
     simp only[CE]at cv
     simp (maxDischargeDepth:=16) only[AF,↓AE,simprocAttr,nuE,fr.2,Cm,hbk,hcr,q5,q7,q9,iv,iw,hcr2,cv]
     simp[hw2,hc,CE]
    |some c=>
     rw[hc]at cv
     simp only[CE]at cv
     simp (maxDischargeDepth:=16) only[AF,↓AE,simprocAttr,nuE,fr.2,Cm,hbk,hcr,q5,q7,q9,iv,iw,hcr2,cv]
     simp[hw2,hc,CE]
  ·cases hw2:EQ fs y with
   |none=>
    rw[hw2]at iw
    simp only[CE]at iw
    simp (maxDischargeDepth:=16) only[AF,↓AE,simprocAttr,nuE,fr.2,Cm,hbk,hcr,q5,q7,q9,iv,iw,hcr2]
    simp[hw2,CE]
   | some g=>
    rw[hw2]at iw
    simp only[CE]at iw
    have cv:=C5 9 f g hfn (hy g hw2)
    have hr:(match List.map (EQ fs) [y]with|some g::_=>Bd 9 f g|_=>none)=Bd 9 f g:=by simp[hw2]
    cases hc:Bd 9 f g with
    |none=>
     rw[hc]at cv
     simp only[CE]at cv
     simp (maxDischargeDepth:=16) only[AF,↓AE,simprocAttr,nuE,fr.2,Cm,hbk,hcr,q5,q7,q9,iv,iw,hcr2,cv]
     simp[hw2,hc,CE]
    |some c=>
     rw[hc]at cv
     simp only[CE]at cv
     simp (maxDischargeDepth:=16) only[AF,↓AE,simprocAttr,nuE,fr.2,Cm,hbk,hcr,q5,q7,q9,iv,iw,hcr2,cv]
     simp[hw2,hc,CE]
  ·cases hw2:EQ fs y with
   |none=>
    rw[hw2]at iw
    simp only[CE]at iw
    simp (maxDischargeDepth:=16) only[AF,↓AE,simprocAttr,nuE,fr.2,Cm,hbk,hcr,q5,q7,q9,iv,iw,hcr2]
    simp[hw2,CE]
   | some g=>
    rw[hw2]at iw
    simp only[CE]at iw
    have cv:=C5 10 f g hfn (hy g hw2)
    have hr:(match List.map (EQ fs) [y]with|some g::_=>Bd 10 f g|_=>none)=Bd 10 f g:=by simp[hw2]
    cases hc:Bd 10 f g with
    |none=>
     rw[hc]at cv
     simp only[CE]at cv
     simp (maxDischargeDepth:=16) only[AF,↓AE,simprocAttr,nuE,fr.2,Cm,hbk,hcr,q5,q7,q9,iv,iw,hcr2,cv]
     simp[hw2,hc,CE]
    |some c=>
     rw[hc]at cv
     simp only[CE]at cv
     simp (maxDischargeDepth:=16) only[AF,↓AE,simprocAttr,nuE,fr.2,Cm,hbk,hcr,q5,q7,q9,iv,iw,hcr2,cv]
     simp[hw2,hc,CE]
  ·cases hw2:EQ fs y with
   |none=>
    rw[hw2]at iw
    simp only[CE]at iw
    simp (maxDischargeDepth:=16) only[AF,↓AE,simprocAttr,nuE,fr.2,Cm,hbk,hcr,q5,q7,q9,iv,iw,hcr2]
    simp[hw2,CE]
   | some g=>
    rw[hw2]at iw
    simp only[CE]at iw
    have cv:=C5 11 f g hfn (hy g hw2)
    have hr:(match List.map (EQ fs) [y]with|some g::_=>Bd 11 f g|_=>none)=Bd 11 f g:=by simp[hw2]
    cases hc:Bd 11 f g with
    |none=>
     rw[hc]at cv
     simp only[CE]at cv
     simp (maxDischargeDepth:=16) only[AF,↓AE,simprocAttr,nuE,fr.2,Cm,hbk,hcr,q5,q7,q9,iv,iw,hcr2,cv]
     simp[hw2,hc,CE]
    |some c=>
     rw[hc]at cv
     simp only[CE]at cv
     simp (maxDischargeDepth:=16) only[AF,↓AE,simprocAttr,nuE,fr.2,Cm,hbk,hcr,q5,q7,q9,iv,iw,hcr2,cv]
     simp[hw2,hc,CE]
  ·cases hw2:EQ fs y with
   |none=>
    rw[hw2]at iw
    simp only[CE]at iw
    simp (maxDischargeDepth:=16) only[AF,↓AE,simprocAttr,nuE,fr.2,Cm,hbk,hcr,q5,q7,q9,iv,iw,hcr2]
    simp[hw2,CE]
   | some g=>
    rw[hw2]at iw
    simp only[CE]at iw
    have cv:=C5 12 f g hfn (hy g hw2)
    have hr:(match List.map (EQ fs) [y]with|some g::_=>Bd 12 f g|_=>none)=Bd 12 f g:=by simp[hw2]
    cases hc:Bd 12 f g with
    |none=>
     rw[hc]at cv
     simp only[CE]at cv
     simp (maxDischargeDepth:=16) only[AF,↓AE,simprocAttr,nuE,fr.2,Cm,hbk,hcr,q5,q7,q9,iv,iw,hcr2,cv]
     simp[hw2,hc,CE]
    |some c=>
     rw[hc]at cv
     simp only[CE]at cv
     simp (maxDischargeDepth:=16) only[AF,↓AE,simprocAttr,nuE,fr.2,Cm,hbk,hcr,q5,q7,q9,iv,iw,hcr2,cv]
     simp[hw2,hc,CE]
  ·cases hw2:EQ fs y with
   |none=>
    rw[hw2]at iw
    simp only[CE]at iw
    simp (maxDischargeDepth:=16) only[AF,↓AE,simprocAttr,nuE,fr.2,Cm,hbk,hcr,q5,q7,q9,iv,iw,hcr2]
    simp[hw2,CE]
   | some g=>
    rw[hw2]at iw
    simp only[CE]at iw
    have cv:=C5 13 f g hfn (hy g hw2)
    have hr:(match List.map (EQ fs) [y]with|some g::_=>Bd 13 f g|_=>none)=Bd 13 f g:=by simp[hw2]
    cases hc:Bd 13 f g with
    |none=>
     rw[hc]at cv
     simp only[CE]at cv
     simp (maxDischargeDepth:=16) only[AF,↓AE,simprocAttr,nuE,fr.2,Cm,hbk,hcr,q5,q7,q9,iv,iw,hcr2,cv]
     simp[hw2,hc,CE]
    |some c=>
     rw[hc]at cv
     simp only[CE]at cv
     simp (maxDischargeDepth:=16) only[AF,↓AE,simprocAttr,nuE,fr.2,Cm,hbk,hcr,q5,q7,q9,iv,iw,hcr2,cv]
     simp[hw2,hc,CE]
  ·cases hw2:EQ fs y with
   |none=>
    rw[hw2]at iw
    simp only[CE]at iw
    simp (maxDischargeDepth:=16) only[AF,↓AE,simprocAttr,nuE,fr.2,Cm,hbk,hcr,q5,q7,q9,iv,iw,hcr2]
    simp[hw2,CE]
   | some g=>
    rw[hw2]at iw
    simp only[CE]at iw
    have cv:=C5 14 f g hfn (hy g hw2)
    have hr:(match List.map (EQ fs) [y]with|some g::_=>Bd 14 f g|_=>none)=Bd 14 f g:=by simp[hw2]
    cases hc:Bd 14 f g with
    |none=>
     rw[hc]at cv
     simp only[CE]at cv
     simp (maxDischargeDepth:=16) only[AF,↓AE,simprocAttr,nuE,fr.2,Cm,hbk,hcr,q5,q7,q9,iv,iw,hcr2,cv]
     simp[hw2,hc,CE]
    |some c=>
     rw[hc]at cv
     simp only[CE]at cv
     simp (maxDischargeDepth:=16) only[AF,↓AE,simprocAttr,nuE,fr.2,Cm,hbk,hcr,q5,q7,q9,iv,iw,hcr2,cv]
     simp[hw2,hc,CE]
theorem Zi(A:AH)(op n:Int)(nm tx:ByteArray)(args:List Xs)(p:Option Addr)(cap:Nat)(rs:List Xr)(hcap:args.length≤cap)(hrs:rs.length=args.length)(hS:B5 Ba 5 A p rs)(fs:List Ft)(xb mb:Nat)(es:Array MapEntry)(cl:Nat)(hx:Vm.AA A xb=some (.cells #[.map (some mb),.nilIface] 186))(hmb:Vm.AA A mb=some (.map es cl))(hm:DK es (QH fs))(hfo:Mn op nm tx n args.length=true)(hnum: ∀x∈args,∀v,EQ fs x=some v→Bc v.n=true)(ih: ∀(k:Nat) (x:Xs) (r:Xr),args[k]? =some x→rs[k]? =some r→ ∀B,SubA A B→Ag Tryz.prog 128 #[.pointer (some ⟨xb,0,none⟩),Bt r] B=some (CE (EQ fs x)))(B_:AH)(hB_:SubA A B_):Ag Tryz.prog 128 #[.pointer (some ⟨xb,0,none⟩),.agg #[.int .i64 op,.string nm,.string tx,.int .i64 n,.slice p args.length cap]] B_=some (CE (EQ fs (.mk op nm tx n args))):=AX (Aj (by kernel_rfl) (Zh A op n nm tx args p cap rs hcap hrs hS fs xb mb es cl hx hmb hm hfo hnum ih) hB_)
set_option maxHeartbeats 4000000
set_option maxRecDepth 20000
theorem MA{n:Int}:Bc n=true↔ -4611686018427387904≤n∧n≤4611686018427387904:=by simp[Bc]
theorem GT(b:Bool):Bc (Ej b).n=true:=by cases b<;>rfl
theorem RR{a b c:Int}(ha:Bc a=true)(hb:Bc b=true)(h:H5 a b=some c):Bc c=true:=by
 unfold H5 at h
 split at h
 ·cases h
 ·cases h
  rw[MA]at ha hb⊢
  omega
theorem Wu{a b c:Int}(h:Jk a b=some c):Bc c=true:=by
 unfold Jk at h
 split at h
 ·cases h
 ·cases h
  rename_i h1
  rw[MA]
  have:=Int.natAbs_mul a b
  omega
theorem UM{nm:ByteArray}{f:Ft}: ∀{fs:List Ft},QL nm fs=some f→f∈fs
 | [],h=>by cases h
 |g::l,h=>by
  unfold QL at h
  split at h
  ·cases h;exact List.mem_cons_self
  ·exact List.mem_cons_of_mem _ (UM h)
theorem iS{fs:List Ft}(hfs: ∀f∈fs,Ei f=true)(nm:ByteArray):Bc (Pb fs nm).n=true:=by
 unfold Pb
 cases h:QL nm fs with
 |none=>rfl
 | some f=>
  have hk:=hfs f (UM h)
  simp only[Ei,Bool.or_eq_true,Bool.and_eq_true,decide_eq_true_eq]at hk
  by_cases h2:f.k=2
  ·simp only[h2,if_true];rfl
  ·simp only[h2,if_false]
   rcases hk with(h3|h3)|h3
   ·exact absurd h3 h2
   ·exact h3.2
   ·rcases h3.2 with h4|h4<;>rw[h4]<;>rfl
theorem Y6{op:Int}{a b v:Ft}(ha:Bc a.n=true)(hb:Bc b.n=true)(h:Bd op a b=some v):Bc v.n=true:=by
 unfold Bd at h
 split at h;· cases h;exact GT _
 split at h;· cases h;exact GT _
 split at h;· cases h;exact GT _
 split at h;· cases h;exact GT _
 split at h
 ·cases hs:H5 a.n b.n with
  |none=>rw[hs]at h;cases h
  |some c=>rw[hs]at h;cases h;exact RR ha hb hs
 split at h
 ·cases hs:H5 a.n (-b.n)with
  |none=>rw[hs]at h;cases h
  |some c=>rw[hs]at h;cases h;exact RR ha (L9 hb) hs
 split at h
 ·cases hs:Jk a.n b.n with
  |none=>rw[hs]at h;cases h
  |some c=>rw[hs]at h;cases h;exact Wu hs
 cases h;exact hb
theorem RT(f:Ft): ∀{l:List (Option Ft)} {v:Ft},H6 f l=some v→Bc v.n=true
 | [],v,h=>by cases h;exact GT _
 |none::_,v,h=>by cases h
 |some g::l,v,h=>by
  unfold H6 at h
  split at h
  ·cases h;exact GT _
  ·exact RT f h
theorem kR{fs:List Ft}(hfs: ∀f∈fs,Ei f=true){op n:Int}{nm tx:ByteArray}{vs:List (Option Ft)}{k:Nat}(hf:Mn op nm tx n k=true)(hvs: ∀v,some v∈vs→Bc v.n=true){v:Ft}(h:oW fs op nm tx n vs=some v):Bc v.n=true:=by
 unfold oW at h
 split at h
 ·rename_i o1
  cases h
  unfold Mn at hf
  rw[if_pos o1]at hf
  simp only[Bool.and_eq_true]at hf
  exact hf.1.1.1
 split at h;· cases h;rfl
 split at h;· cases h;exact iS hfs nm
 split at h;· cases h;rfl
 match vs,hvs,h with
 | [],_,h=>cases h
 |none::_,_,h=>cases h
 |some f::l,hvs,h=>
  have hfn:=hvs f (by simp)
  simp only at h
  split at h;· cases h;exact GT _
  split at h;· cases h;exact L9 hfn
  split at h;· exact RT f h
  split at h;· cases h;exact hfn
  match l,hvs,h with
  |some g::_,hvs,h=>exact Y6 hfn (hvs g (by simp)) h
  |none::_,_,h=>cases h
  | [],_,h=>cases h
mutual
theorem PV{fs:List Ft}(hfs: ∀f∈fs,Ei f=true): ∀(t:Xs),HX t=true→ ∀v,EQ fs t=some v→Bc v.n=true
 | .mk op nm tx n args,ho,v,hv=>by
  rw[HX,Bool.and_eq_true]at ho
  rw[EQ]at hv
  exact kR hfs ho.1 (VO hfs args ho.2) hv
theorem VO{fs:List Ft}(hfs: ∀f∈fs,Ei f=true): ∀(l:List Xs),mJ l=true→ ∀v,some v∈lD fs l→Bc v.n=true
 | [],_,v,hv=>by simp[lD]at hv
 |x::l,ho,v,hv=>by
  rw[mJ,Bool.and_eq_true]at ho
  rw[lD]at hv
  rcases List.mem_cons.1 hv with h|h
  ·exact PV hfs x ho.1 v h.symm
  ·exact VO hfs l ho.2 v h
end
theorem qD{A:AH}{fs:List Ft}{xb mb:Nat}{es:Array MapEntry}{cl:Nat}(hfs: ∀f∈fs,Ei f=true)(hx:Vm.AA A xb=some (.cells #[.map (some mb),.nilIface] 186))(hmb:Vm.AA A mb=some (.map es cl))(hm:DK es (QH fs)){t:Xs}{r:Xr}(h:ExR A t r):HX t=true→ ∀B,SubA A B→Ag Tryz.prog 128 #[.pointer (some ⟨xb,0,none⟩),Bt r] B=some (CE (EQ fs t)):=by
 induction h with
 | @mk op n nm tx args p cap rs h0 h0' h1 h2 h3 ih=>
  intro ho B hB
  rw[HX,Bool.and_eq_true,JW,List.all_eq_true]at ho
  exact Zi A op n nm tx args p cap rs h0' h1 h2 fs xb mb es cl hx hmb hm ho.1 (fun x hx v hv=>PV hfs x (ho.2 x hx) v hv) (fun k x r hx hr C hC=>ih k x r hx hr (ho.2 x (List.mem_of_getElem? hx)) C hC) B hB
theorem sr{A:AH}{fs:List Ft}{mb:Nat}{es:Array MapEntry}{cl:Nat}(hmb:Vm.AA A mb=some (.map es cl))(hm:DK es (QH fs)){t:Xs}{r:Xr}(h:ExR A t r):HX t=true→ ∀B,SubA A B→Ag Tryz.prog 87 #[Bt r,.map (some mb)] B=some (.tuple #[.int .i64 (K4 fs t).1,.int .i64 (K4 fs t).2]):=by
 induction h with
 | @mk op n nm tx args p cap rs h0 h0' h1 h2 h3 ih=>
  intro ho B hB
  rw[HX,Bool.and_eq_true,JW,List.all_eq_true]at ho
  exact gm A op n nm tx args p cap rs h1 h2 fs mb es cl hmb hm ho.1 (fun k x r hx hr C hC=>ih k x r hx hr (ho.2 x (List.mem_of_getElem? hx)) C hC) B hB
end Go.Proofs.YtgmfcdeknaeikaaGreatDoor
namespace Go.Vm
theorem AK.ownX{P:Program}{g:FuncId}{args:Array Value}{E Y:AH}{K0 K:Value→AH→Prop}(hc:AK P g args E K0)(hd:Dis E Y)
  (hk: ∀v D,K0 v D→Dis D Y→ ∃F,SubA F D∧K v (Y++F)):AK P g args (Y++E) K:=
 AK.toX hc hd.symm.right Y (SubA.left _ _) hd fun v D h dD=>by
  obtain⟨F,h1,h2⟩:=hk v D h dD
  exact⟨_,SubA.front dD h1,h2⟩
theorem AK.par{P:Program}{g:FuncId}{args:Array Value}{E Y X:AH}{K0 K:Value→AH→Prop}(hc:AK P g args E K0)(hd:Dis E Y)(hX:Dis E X)(hYX:Dis Y X)
  (hk: ∀v D,K0 v D→Dis D (Y++X)→ ∃F,SubA F D∧K v (Y++(F++X))):AK P g args (Y++(E++X)) K:=by
 refine AK.toX hc (SubA.trans (SubA.left E X) (Dis.appr hd.symm hYX).right) (Y++X) (SubA.app hX.right) (Dis.appr hd hX) fun v D h dD=> ?_
 obtain⟨F,h1,h2⟩:=hk v D h dD
 exact⟨_,SubA.both (SubA.trans (SubA.left Y X) dD.right) (SubA.both (SubA.trans h1 (SubA.left _ _)) (SubA.trans hYX.right dD.right)),h2⟩
end Go.Vm
namespace Go.Proofs.YtgmfcdeknaeikaaGreatDoor
open Go.Vm
set_option maxHeartbeats 4000000
set_option maxRecDepth 20000
theorem ly(A:AH)(t:Xs)(r:Xr)(hE:ExR A t r)(hz:SzT t)(fs:List Ft)(p:Option Addr)(cap:Nat)(hS:B5 Kg 4 A p fs)(hl:fs.length≤1000)(hg:WO [] fs=true):AK Tryz.prog 59 #[.agg #[.int .i64 r.op,.string r.nm,.string r.tx,.int .i64 r.n,.slice r.p r.len r.cap],.slice p fs.length cap] A (fun u_ A_=>u_=.tuple #[.int .i64 (Mv fs t).1,.int .i64 (Mv fs t).2]∧SubA A A_):=by
 refine AC ⟨Tryz.prog,59,Tryz.f59,26,[0,1,2,4,5,6,7],⟨[84],none⟩,[],_⟩ rfl (args:=[_,_]) Tryz.func59 rfl (by kernel_rfl) Tryz.ntmps59 (by simp) (by kernel_rfl) ?_
 intro ν fr
 have f0:=fr.2 0
 simp only[AF,↓AE,simprocAttr]
 have dst_:True:=(by simp[]);generalize ν 0=n2 at dst_  f0⊢
 clear fr
 refine AK.ownX (Y:=[(n2,_)]) (Nb A fs p cap hS hl hg) (Dis.one f0).symm ?_
 rintro v D ⟨mb,es,cl,rfl,hm,hmb,hD⟩ dD
 refine⟨_,hD, ?_⟩
 have hn:=dD.subl hD
 have gB:Vm.AA ((mb,Obj.map es cl)::A) n2=none:=hn n2 (by simp[Vm.AA])
 clear hD dD D hn
 obtain⟨d1,d2⟩:=AU gB (show Vm.AA ((mb,Obj.map es cl)::A) mb=some (Obj.map es cl) by simp[Vm.AA])
 simp only[List.cons_append,List.nil_append]
 intro ν fr
 have sM:SubA A ((mb,Obj.map es cl)::A):=SubA.skip hmb (SubA.refl _)
 have sA:SubA A ((n2,Obj.cells #[.int .i64 r.op,.string r.nm,.string r.tx,.int .i64 r.n,.slice r.p r.len r.cap] 60)::(mb,Obj.map es cl)::A):=SubA.skip f0 sM
 have sN:SubA ((mb,Obj.map es cl)::A) ((n2,Obj.cells #[.int .i64 r.op,.string r.nm,.string r.tx,.int .i64 r.n,.slice r.p r.len r.cap] 60)::(mb,Obj.map es cl)::A):=SubA.fresh gB (SubA.refl _)
 have dv:Ag Tryz.prog 85 #[.agg #[.int .i64 r.op,.string r.nm,.string r.tx,.int .i64 r.n,.slice r.p r.len r.cap],.int .i64 8] _=_:=py hE 8 (by omega) _ sA
 have fv:=pz hE hz _ sA
 simp only[Bt,Ba]at fv
 unfold Mv
 cases hd:Mm t 8 with
 |true=>
  rw[hd]at dv
  simp only[AF,↓AE,simprocAttr,dv]
  exact sA
 | false=>
  rw[hd]at dv
  cases ho:HX t with
  |false=>
   rw[ho]at fv
   simp only[AF,↓AE,simprocAttr,dv,fv]
   exact sA
  |true=>
   rw[ho]at fv
   have tv:=sr (A:=(mb,Obj.map es cl)::A) (mb:=mb) (es:=es) (cl:=cl) (by simp[Vm.AA]) hm (hE.mono sM) ho _ sN
   simp only[Bt,Ba]at tv
   simp only[AF,↓AE,simprocAttr,dv,fv,tv]
   exact sA
theorem ZY(A:AH)(t:Xs)(r:Xr)(hE:ExR A t r)(hz:SzT t)(fs:List Ft)(p:Option Addr)(cap:Nat)(hS:B5 Kg 4 A p fs)(hl:fs.length≤1000)(hg:WO [] fs=true)(B_:AH)(hB_:SubA A B_):Ag Tryz.prog 59 #[.agg #[.int .i64 r.op,.string r.nm,.string r.tx,.int .i64 r.n,.slice r.p r.len r.cap],.slice p fs.length cap] B_=some (.tuple #[.int .i64 (Mv fs t).1,.int .i64 (Mv fs t).2]):=AX (Aj (by kernel_rfl) (ly A t r hE hz fs p cap hS hl hg) hB_)
theorem l6(A:AH)(t:Xs)(r:Xr)(hE:ExR A t r)(hz:SzT t)(fs:List Ft)(p:Option Addr)(cap:Nat)(hS:B5 Kg 4 A p fs)(hl:fs.length≤1000)(hg:WO [] fs=true)(hfs: ∀f∈fs,Ei f=true):AK Tryz.prog 95 #[.agg #[.int .i64 r.op,.string r.nm,.string r.tx,.int .i64 r.n,.slice r.p r.len r.cap],.slice p fs.length cap,.nilIface] A (fun u_ A_=>u_=.tuple #[.agg #[.string (Fr fs t).2.nm,.int .i64 (Fr fs t).2.k,.int .i64 (Fr fs t).2.n,.string (Fr fs t).2.tx],.int .i64 (Fr fs t).1]∧SubA A A_):=by
 refine AC ⟨Tryz.prog,95,Tryz.f95,46,[0,1,2,3,6,7,9,10,11,12,13,14],⟨[84],none⟩,[],_⟩ rfl (args:=[_,_,_]) Tryz.func95 rfl (by kernel_rfl) Tryz.ntmps95 (by simp) (by kernel_rfl) ?_
 intro ν fr;have nuE:=fr.nu
 have f0:=fr.2 0
 have f1:=fr.2 1
 have n01:(ν 1=ν 0)=False:=by simp[nuE]
 have s0: ∀o o1,SubA A ((ν 1,o)::(ν 0,o1)::A):=fun o o1=>SubA.skip f1 (SubA.skip f0 (SubA.refl _))
 have cv:=fun o o1=>ZY A t r hE hz fs p cap hS hl hg ((ν 1,o)::(ν 0,o1)::A) (s0 o o1)
 unfold Fr
 by_cases hc:(Mv fs t).2=0
 rotate_left
 ·have hc':((Mv fs t).2 !=0)=true:=by simp[hc]
  rw[if_neg hc]
  simp only[AF,↓AE,simprocAttr,nuE,fr.2,cv,hc']
  rfl
 have hc':((Mv fs t).2 !=0)=false:=by simp[hc]
 rw[if_pos hc]
 have ho:HX t=true:=by
  unfold Mv at hc
  split at hc
  ·cases hc
  ·split at hc
   ·cases hc
   ·rename_i h;simpa using h
 simp only[AF,↓AE,simprocAttr,nuE,fr.2,cv,hc]
 have dst_:((ν 0=ν 1)=False)∧((ν 1=ν 0)=False):=(by simp[nuE]);generalize ν 0=n3 at dst_  f0 f1 n01 ⊢;generalize ν 1=n6 at dst_  f0 f1 n01⊢
 clear nuE fr cv s0
 have g6:Vm.AA A n6=none:=f1
 refine AK.ownX (Y:=[(n6,_),(n3,_)]) (Nb A fs p cap hS hl hg) (dis2 f1 f0) ?_
 rintro v D ⟨mb,es,cl,rfl,hm,hmb,hD⟩ dD
 refine⟨_,hD, ?_⟩
 have hn:=dD.subl hD
 have gB3:Vm.AA ((mb,Obj.map es cl)::A) n3=none:=hn n3 (by simp[Vm.AA,n01])
 have gB6:Vm.AA ((mb,Obj.map es cl)::A) n6=none:=hn n6 (by simp[Vm.AA])
 clear hD dD D hn
 obtain⟨d1,d2⟩:=AU gB3 (show Vm.AA ((mb,Obj.map es cl)::A) mb=some (Obj.map es cl) by simp[Vm.AA])
 obtain⟨d3,d4⟩:=AU gB6 (show Vm.AA ((mb,Obj.map es cl)::A) mb=some (Obj.map es cl) by simp[Vm.AA])
 simp only[List.cons_append,List.nil_append]
 intro ν fr;have nuE:=fr.m3 rfl
 have f2:=fr.2 0
 have h2:Vm.AA ((mb,Obj.map es cl)::A) (ν 0)=none:=(show SubA ((mb,Obj.map es cl)::A) ((n6,_)::(n3,_)::(mb,Obj.map es cl)::A) from SubA.skip gB6 (SubA.skip gB3 (SubA.refl _))).none f2
 have n63:(n3=n6)=False:=eq_false fun h=>by rw[h]at n01;simp at n01
 have n20:(ν 0=n3)=False:=by simp[nuE]
 have n26:(ν 0=n6)=False:=by simp[nuE]
 have sM:SubA A ((mb,Obj.map es cl)::A):=SubA.skip hmb (SubA.refl _)
 have sX: ∀o,SubA A ((ν 0,o)::(mb,Obj.map es cl)::A):=fun o=>SubA.trans sM (SubA.fresh h2 (SubA.refl _))
 have sA2: ∀o o1 o2,SubA ((ν 0,o)::(mb,Obj.map es cl)::A) ((ν 0,o)::(n6,o1)::(n3,o2)::(mb,Obj.map es cl)::A):=fun o o1 o2=>SubA.both (X:=[(ν 0,o)]) (SubA.left [_] _) (SubA.trans (SubA.skip gB6 (SubA.skip gB3 (SubA.refl _))) (SubA.fresh (AJ (by simp[nuE]) (AJ (by simp[nuE]) h2)) (SubA.refl _)))
 have vv:=fun o1 o2=>qD (A:=(ν 0,.cells #[.map (some mb),.nilIface] 186)::(mb,Obj.map es cl)::A) (xb:=ν 0) (mb:=mb) (es:=es) (cl:=cl) hfs (by simp[Vm.AA]) (by simp[Vm.AA,nuE]) hm (hE.mono (sX _)) ho _ (sA2 _ o1 o2)
 simp only[Bt,Ba]at vv
 have f21:=fr.2 1
 have h21:Vm.AA ((mb,Obj.map es cl)::A) (ν 1)=none:=(show SubA ((mb,Obj.map es cl)::A) ((n6,_)::(n3,_)::(mb,Obj.map es cl)::A) from SubA.skip gB6 (SubA.skip gB3 (SubA.refl _))).none f21
 have sF: ∀o o1 o2 o3,SubA A ((ν 1,o)::(ν 0,o1)::(n6,o2)::(n3,o3)::(mb,Obj.map es cl)::A):=fun _ _ _ _=>SubA.skip (sM.none h21) (SubA.skip (sM.none h2) (SubA.skip f1 (SubA.skip f0 sM)))
 have cn:Value.nilIface.cells= #[Value.nilIface]:=rfl
 have ow:Value.nilIface.oneCell'=true:=rfl
 cases hv:EQ fs t with
 |none=>
  rw[hv]at vv
  simp only[CE]at vv
  simp only[AF,↓AE,simprocAttr,nuE,n01,vv,cn,ow]
  exact⟨rfl,sF _ _ _ _⟩
 |some g=>
  rw[hv]at vv
  simp only[CE]at vv
  simp only[AF,↓AE,simprocAttr,nuE,n01,vv,cn,ow]
  exact sF _ _ _ _
theorem Za(A:AH)(t:Xs)(r:Xr)(hE:ExR A t r)(hz:SzT t)(fs:List Ft)(p:Option Addr)(cap:Nat)(hS:B5 Kg 4 A p fs)(hl:fs.length≤1000)(hg:WO [] fs=true)(hfs: ∀f∈fs,Ei f=true)(B_:AH)(hB_:SubA A B_):Ag Tryz.prog 95 #[.agg #[.int .i64 r.op,.string r.nm,.string r.tx,.int .i64 r.n,.slice r.p r.len r.cap],.slice p fs.length cap,.nilIface] B_=some (.tuple #[.agg #[.string (Fr fs t).2.nm,.int .i64 (Fr fs t).2.k,.int .i64 (Fr fs t).2.n,.string (Fr fs t).2.tx],.int .i64 (Fr fs t).1]):=AX (Aj (by kernel_rfl) (l6 A t r hE hz fs p cap hS hl hg hfs) hB_)
set_option maxHeartbeats 4000000
set_option maxRecDepth 20000
theorem fU(s:ByteArray):bs s.toList=s:=DD (Ar _)
def mt(op:Int)(nm:ByteArray):List Gm:=if op=3∨op=16∨op=17 then [nm.toList]else []
def JF(t:Xs):List Gm:=(FC t).map ByteArray.toList
theorem mu(op n:Int)(nm tx:ByteArray)(args:List Xs):JF (.mk op nm tx n args)=mt op nm++args.flatMap JF:=by
 have h: ∀l:List Xs,(LL l).map ByteArray.toList=l.flatMap JF:=by
  intro l
  induction l with
  |nil=>simp[LL]
  |cons x l ih=>simp[LL,JF,ih]
 unfold JF
 rw[FC,List.map_append,h]
 congr 1
 unfold mt
 split<;>simp_all
theorem VC(t:Gm):(DO t).length=1:=rfl
theorem cQ(a:ByteArray):BP Tryz.prog 126 1 [(0,.string a)]=some (9,#[.string a]):=by kernel_rfl
theorem gh(lb:Nat)(L:List Gm)(v:Value)(B:AH)(ho:BU DO 1 9 v B L)(hlb:Vm.AA B lb=none)(hL:L.length≤1000000)(r:Xr):AK Tryz.prog 97 #[.agg #[.int .i64 r.op,.string r.nm,.string r.tx,.int .i64 r.n,.slice r.p r.len r.cap],.pointer (some ⟨lb,0,none⟩)] ((lb,.cells #[v] 126)::B) (fun u_ A_=>u_=.tuple #[]∧ ∃v' B',BU DO 1 9 v' B' (L++mt r.op r.nm)∧Vm.AA B' lb=none∧SubA ((lb,.cells #[v'] 126)::B') A_):=by
 refine AC ⟨Tryz.prog,97,Tryz.f97,14,[0,1,2,4],⟨[],none⟩,[],_⟩ rfl (args:=[_,_]) Tryz.func97 rfl (by kernel_rfl) Tryz.ntmps97 (by simp) (by kernel_rfl) ?_
 intro ν fr;have nuE:=fr.nu
 have f0:=fr.2 0
 obtain⟨q1,q2⟩:=AU f0 (show Vm.AA ((lb,Obj.cells #[v] 126)::B) lb=some (.cells #[v] 126) by simp[Vm.AA])
 obtain⟨p,cap,rfl,hcap⟩:=ho.slice
 by_cases hop:r.op=3∨r.op=16∨r.op=17
 rotate_left
 ·have o3:(r.op=3)=False:=eq_false fun h=>hop (.inl h)
  have o16:(r.op=16)=False:=eq_false fun h=>hop (.inr (.inl h))
  have o17:(r.op=17)=False:=eq_false fun h=>hop (.inr (.inr h))
  simp only[AF,↓AE,simprocAttr,o3,o16,o17,q1]
  exact⟨rfl,_,B,by rw[mt,if_neg hop,List.append_nil];exact ho,hlb,SubA.fresh f0 (SubA.refl _)⟩
 have hcs:r.op=3∨(r.op≠3∧r.op=16)∨(r.op≠3∧r.op≠16∧r.op=17):=by omega
 rcases hcs with o3|⟨o3,o16⟩|⟨o3,o16,o17⟩
 simp only[AF,↓AE,simprocAttr,o3,q1,cQ]
 rotate_left
 simp only[AF,↓AE,simprocAttr,o16,q1,cQ]
 rotate_left
 simp only[AF,↓AE,simprocAttr,o17,q1,cQ]
 all_goals
  have f12:=fr.2 1
  have n01:(ν 1=ν 0)=False:=by simp[nuE]
  have dst_:((ν 0=ν 1)=False)∧((ν 1=ν 0)=False):=(by simp[nuE]);generalize ν 0=n2 at dst_  f0 f12 n01 q1 q2 ⊢;generalize ν 1=n12 at dst_  f0 f12 n01 q1 q2⊢
  clear nuE fr
  obtain⟨q3,q4⟩:=AU f12 (show Vm.AA ((lb,Obj.cells #[.slice p L.length cap] 126)::B) lb=some (.cells #[.slice p L.length cap] 126) by simp[Vm.AA])
  have hBl:SubA B ((lb,Obj.cells #[.slice p L.length cap] 126)::B):=SubA.skip hlb (SubA.refl _)
  have sX: ∀o o1,SubA ((lb,Obj.cells #[.slice p L.length cap] 126)::B) ((n12,o)::(n2,o1)::(lb,Obj.cells #[.slice p L.length cap] 126)::B):=fun _ _=>SubA.skip f12 (SubA.skip f0 (SubA.refl _))
  refine Fv.use ?_
  refine D0 (m:=1) (news:=[.string r.nm]) (B:=B) cq sS rfl (by decide) ho (SubA.trans hBl (sX _ _)) (.inr ⟨n12,0,rfl,by simp[Vm.AA,B7]⟩) (by simp[Value.oneCell']) (by simp only[maxLen];omega) (by omega) ?_
  intro v' B' ho' hb
  have ho2:BU DO 1 9 v' B' (L++mt r.op r.nm):=by
   rw[mt,if_pos hop]
   unfold BU
   rw[List.length_append,List.flatMap_append]
   simpa[DO,fU]using ho'
  have dX:Dis B' [(lb,Obj.cells #[.slice p L.length cap] 126)]:=J5 hb (Dis.one hlb).symm (SubA.trans (SubA.left [_] B) (sX _ _))
  obtain⟨p',cap',rfl,_⟩:=ho2.slice
  refine⟨(lb,Obj.cells #[.slice p L.length cap] 126)::B',SubA.both (X:=[(lb,_)]) (dX.sub (SubA.trans (SubA.left [_] B) (sX _ _))) (SubA.left _ _), ?_⟩
  intro ν fr
  simp only[AF,↓AE,simprocAttr]
  exact⟨rfl,_,B',ho2,dX lb (by simp[Vm.AA]),SubA.refl _⟩
set_option maxHeartbeats 4000000
set_option maxRecDepth 20000
def sm(lb:Nat)(v:Value)(B:AH):AH:=(lb,.cells #[v] 126)::B
def pT(A:AH)(lb:Nat)(L:List Gm)(u:Value)(D:AH):Prop:=u=.tuple #[]∧ ∃v' B',BU DO 1 9 v' B' L∧Vm.AA B' lb=none∧Dis ((lb,.cells #[v'] 126)::B') A∧SubA ((lb,.cells #[v'] 126)::(B'++A)) D
def pS(A:AH)(t:Xs)(r:Xr):Prop:= ∀(lb:Nat) (L:List Gm) (v:Value) (B:AH),BU DO 1 9 v B L→Vm.AA B lb=none→Dis ((lb,.cells #[v] 126)::B) A→L.length+(JF t).length≤1000000→AK Tryz.prog 96 #[Bt r,.func (.func 97) #[] #[.pointer (some ⟨lb,0,none⟩)]] ((lb,.cells #[v] 126)::(B++A)) (pT A lb (L++JF t))
theorem gn(A:AH)(op n:Int)(nm tx:ByteArray)(args:List Xs)(p:Option Addr)(cap:Nat)(rs:List Xr)(hl:args.length≤140737488355328)(hrs:rs.length=args.length)(hS:B5 Ba 5 A p rs)(ih: ∀(k:Nat) (x:Xs) (r:Xr),args[k]? =some x→rs[k]? =some r→pS A x r)(lb:Nat)(L:List Gm)(v:Value)(B:AH)(ho:BU DO 1 9 v B L)(hlb:Vm.AA B lb=none)(hd:Dis (sm lb v B) A)(hL:L.length+(JF (.mk op nm tx n args)).length≤1000000):AK Tryz.prog 96 #[.agg #[.int .i64 op,.string nm,.string tx,.int .i64 n,.slice p args.length cap],.func (.func 97) #[] #[.pointer (some ⟨lb,0,none⟩)]] (sm lb v (B++A)) (fun u_ A_=>pT A lb (L++JF (.mk op nm tx n args)) u_ A_):=by
 refine AC ⟨Tryz.prog,96,Tryz.f96,20,[0,1,2,5,10,11,12],⟨[96,97],none⟩,[],_⟩ rfl (args:=[_,_]) Tryz.func96 rfl (by kernel_rfl) Tryz.ntmps96 (by simp) (by kernel_rfl) ?_
 intro ν fr
 simp only[sm]at fr hd⊢
 rw[mu]at hL⊢
 simp only[List.length_append]at hL
 have f0:=fr.2 0
 simp only[AF,↓AE,simprocAttr]
 have dst_:True:=(by simp[]);generalize ν 0=n2 at dst_  f0⊢
 clear fr dst_
 have g2E:Vm.AA ((lb,Obj.cells #[v] 126)::B) n2=none:=(SubA.left ((lb,Obj.cells #[v] 126)::B) A).none f0
 have g2A:Vm.AA A n2=none:=hd.right.none f0
 refine AK.par (E:=(lb,Obj.cells #[v] 126)::B) (Y:=[(n2,_)]) (X:=A) (gh lb L v B ho hlb (by omega) ⟨op,nm,tx,n,p,args.length,cap⟩) (Dis.one g2E).symm hd (Dis.one g2A) ?_
 rintro u D ⟨rfl,v1,B1,ho1,hlb1,hD⟩ dD
 refine⟨_,hD, ?_⟩
 have dE:=dD.subl hD
 have h2:Vm.AA ((lb,Obj.cells #[v1] 126)::B1) n2=none:=dE n2 (by simp[Vm.AA])
 have hd1:Dis ((lb,Obj.cells #[v1] 126)::B1) A:=Dis.subr dE (SubA.fresh g2A (SubA.refl _))
 clear hD dD D dE g2E hd ho hlb
 simp only[List.cons_append,List.nil_append]
 intro ν fr
 simp only[AF,↓AE,simprocAttr]
 clear fr
 obtain⟨e,l,v2,B2,L2,he,hl2,hle,hv,hB,ho2,hlb2,hd2,hn2,hLL,hcnt⟩: ∃(e:Nat) (l:List Xs) (v2:Value) (B2:AH) (L2:List Gm),e=0∧l=args.drop e∧e≤args.length∧v2=v1∧B2=B1∧BU DO 1 9 v2 B2 L2∧Vm.AA B2 lb=none∧Dis ((lb,Obj.cells #[v2] 126)::B2) A∧Vm.AA ((lb,Obj.cells #[v2] 126)::B2) n2=none∧L++(mt op nm++args.flatMap JF)=L2++l.flatMap JF∧L2.length+(l.flatMap JF).length≤1000000:=⟨0,_,v1,B1,_,rfl,rfl,by omega,rfl,rfl,ho1,hlb1,hd1,h2,by simp,by simp only[List.length_append,List.drop_zero];omega⟩
 rw[show(12,some (Value.int .i64 0))=(12,some (Value.int .i64 (e:Int))) by rw[he];rfl,←hv,←hB,hLL]
 clear he hv hB ho1 hlb1 hd1 h2 hLL
 induction l generalizing e v2 B2 L2 with
 |nil=>
  obtain⟨hn1,hn2'⟩:=drop_nil hl2 hle
  have lt:((e:Int)<(args.length:Int))=False:=eq_false (by omega)
  refine AR.intro (by kernel_rfl) ?_
  intro ν fr
  simp only[AF,↓AE,simprocAttr,lt]
  refine⟨rfl,v2,B2,by simpa using ho2,hlb2,hd2,SubA.fresh (AD hn2 g2A) (SubA.refl _)⟩
 |cons x l ihl=>
  rw[show L2++(x::l).flatMap JF=L2++JF x++l.flatMap JF by simp[List.append_assoc]]
  obtain⟨ha,hlt,hd',htk⟩:=Be hl2
  have lt:((e:Int)<(args.length:Int))=True:=eq_true (by omega)
  have li:((e:Int)<0)=False:=eq_false (by omega)
  have we:IntKind.i64.wrap ((e:Int)+1)=((e+1:Nat):Int):=by rw[AW (by omega) (by omega)];omega
  obtain⟨s,hs⟩: ∃s,rs[e]? =some s:=⟨_,List.getElem?_eq_getElem (by omega)⟩
  obtain⟨bk,off,cs,ty,fr0,hp0,hbk,hcr,hcc⟩:=hS.at hs
  subst hp0
  simp only[Ba]at hcr
  have hbM:Vm.AA (B2++A) bk=some (.cells cs ty fr0):=(Dis.subl hd2 (SubA.skip hlb2 (SubA.refl _))).right _ _ hbk
  obtain⟨q1,q2⟩:=AU g2A hbk
  obtain⟨q3,q4⟩:=AU (hd2.symm lb (by simp[Vm.AA])) hbk
  have g2M:Vm.AA ((lb,Obj.cells #[v2] 126)::(B2++A)) n2=none:=AD hn2 g2A
  obtain⟨q5,q6⟩:=AU hn2 (show Vm.AA ((lb,Obj.cells #[v2] 126)::B2) lb=some (.cells #[v2] 126) by simp[Vm.AA])
  refine AR.intro (by kernel_rfl) ?_
  intro ν fr
  have f5:=fr.2 0
  simp only[AF,↓AE,simprocAttr,lt,hbM,hcr,q1,q3]
  have n50:(n2=ν 0)=False:=(AU f5 (show Vm.AA _ n2=some (Obj.cells #[.int .i64 op,.string nm,.string tx,.int .i64 n,.slice (some ⟨bk,off,none⟩) args.length cap] 60) by simp[Vm.AA])).2
  have g5M:Vm.AA ((lb,Obj.cells #[v2] 126)::(B2++A)) (ν 0)=none:=(show SubA _ ((n2,_)::(lb,Obj.cells #[v2] 126)::(B2++A)) from SubA.skip g2M (SubA.refl _)).none f5
  have dst_:True:=(by simp[]);generalize ν 0=n5 at dst_  f5 n50 g5M⊢
  clear fr
  simp only[List.flatMap_cons,List.length_append]at hcnt
  refine AK.ownX (Y:=[(n5,_),(n2,_)]) (ih e x s ha hs lb L2 v2 B2 ho2 hlb2 hd2 (by omega)) (dis2 g5M g2M) ?_
  rintro u D ⟨rfl,v3,B3,ho3,hlb3,hd3,hD⟩ dD
  refine⟨_,hD, ?_⟩
  have dE:=dD.subl hD
  have g5:Vm.AA ((lb,Obj.cells #[v3] 126)::(B3++A)) n5=none:=dE n5 (by simp[Vm.AA])
  have g2:Vm.AA ((lb,Obj.cells #[v3] 126)::(B3++A)) n2=none:=dE n2 (by by_cases h:n5=n2<;>simp[Vm.AA,h])
  clear hD dD D dE
  simp only[List.cons_append,List.nil_append]
  intro ν fr
  simp only[AF,↓AE,simprocAttr,we]
  refine AR.weak (ihl (e+1) v3 B3 (L2++JF x) hd' (by omega) ho3 hlb3 hd3 ((SubA.left ((lb,Obj.cells #[v3] 126)::B3) A).none g2) (by simp only[List.length_append];omega)) (by simp[Ah,AO]) ?_
  exact SubA.skip (AJ n50 g5) (SubA.refl _)
theorem sw{A:AH}{t:Xs}{r:Xr}(h:ExR A t r):pS A t r:=by
 induction h with
 | @mk op n nm tx args p cap rs h0 h0' h1 h2 h3 ih=>
  intro lb L v B ho hlb hd hL
  exact gn A op n nm tx args p cap rs h0 h1 h2 (fun k x r hx hr=>ih k x r hx hr) lb L v B ho hlb hd hL
set_option maxHeartbeats 4000000
set_option maxRecDepth 20000
theorem Hb(d:Array (List UInt8))(cur:Array Value)(hd:d.size≤cur.size):(Go.Sort.putCells Go.Proofs.encStr 0 d cur).toList.take d.size=d.toList.map Go.Proofs.encStr:=by
 apply List.ext_getElem?
 intro i
 rw[List.getElem?_take]
 by_cases hi:i<d.size
 ·rw[if_pos hi,Array.getElem?_toList,List.getElem?_map,Array.getElem?_toList]
  have hc:i<cur.size:=by omega
  simp[Go.Sort.putCells,hi,hc]
 ·rw[if_neg hi]
  symm
  rw[List.getElem?_eq_none (by simp;omega)]
theorem Ha(d:Array (List UInt8))(cur:Array Value):(Go.Sort.putCells Go.Proofs.encStr 0 d cur).size=cur.size:=by simp[Go.Sort.putCells]
theorem U3{w:World}{g:Nat}{cur:Array Value}{e:TypeId}{n:Nat}{d:Array (List UInt8)}{os:Array Obj}(hA:CQ [(g,.cells cur e)] w.heap):
  CQ [(g,.cells (Go.Sort.putCells Go.Proofs.encStr 0 d cur) e)] (Go.Sort.grow (Go.Sort.putRow Go.Proofs.encStr (Go.Sort.ahead w n) g 0 d) os).heap∧BN [(g,.cells cur e)] w.heap [(g,.cells (Go.Sort.putCells Go.Proofs.encStr 0 d cur) e)] (Go.Sort.grow (Go.Sort.putRow Go.Proofs.encStr (Go.Sort.ahead w n) g 0 d) os).heap∧Vm.Ai w (Go.Sort.grow (Go.Sort.putRow Go.Proofs.encStr (Go.Sort.ahead w n) g 0 d) os):=by
 have hg:=hA g (.cells cur e) (by simp[Vm.AA])
 have hlt:=(Array.getElem?_eq_some_iff.1 hg).1
 refine⟨fun b o hl=> ?_,⟨?_,fun b hb hl=> ?_⟩,⟨rfl,rfl,rfl⟩⟩
 ·simp only[Vm.AA]at hl
  split at hl
  ·rename_i e1
   subst e1
   cases hl
   simp only[Go.Sort.grow,Go.Sort.putRow,Go.Sort.mapBlock,Go.Sort.ahead]
   rw[Array.getElem?_append_left (by simpa using hlt),Array.getElem?_modify,if_pos rfl,hg]
   rfl
  ·cases hl
 ·simp[Go.Sort.grow,Go.Sort.putRow,Go.Sort.mapBlock,Go.Sort.ahead]
 ·have hne: ¬g=b:=fun h=>by simp[Vm.AA,h]at hl
  refine⟨?_,by simp[Vm.AA,hne]⟩
  simp only[Go.Sort.grow,Go.Sort.putRow,Go.Sort.mapBlock,Go.Sort.ahead]
  rw[Array.getElem?_append_left (by simpa using hb),Array.getElem?_modify,if_neg hne]
def KT(T:List Gm):List Gm:=T.mergeSort fun x y=>decide (x≤y)
theorem Gu: ∀l:List Gm,l.map Go.Proofs.encStr=l.flatMap DO
 | []=>rfl
 |x::l=>by simp only[List.map_cons,List.flatMap_cons,Gu l,DO];rfl
theorem RO(T:List Gm):(T.flatMap DO).length=T.length:=by rw[←Gu];simp
theorem Nd{w:World}{g cap:Nat}{cur:Array Value}{T:List Gm}(hA:CQ [(g,.cells cur 9)] w.heap)(hc:T.length≤cur.size)(ht:cur.toList.take T.length=T.flatMap DO):Go.Sort.Holds Go.Proofs.encStr w g 0 T.toArray:=by
 have hg:=hA g (.cells cur 9) (by simp[Vm.AA])
 intro j hj
 have hj':j<T.length:=by simpa using hj
 have hcell:cur[j]? =some (Go.Proofs.encStr T.toArray[j]!):=by
  have h1:(cur.toList.take T.length)[j]? =(T.map Go.Proofs.encStr)[j]? :=by rw[ht,Gu]
  rw[List.getElem?_take,if_pos hj',Array.getElem?_toList,List.getElem?_map]at h1
  rw[h1]
  simp[hj']
 constructor
 ·simp[World.cell?,hg,hcell]
 ·simp[World.frozen?,hg]
theorem oC(T:List Gm)(v:Value)(B:AH)(ho:BU DO 1 9 v B T)(hl:T.length≤1000000):AK Tryz.prog 98 #[v] B fun u D=>u=.tuple #[]∧ ∃B',BU DO 1 9 v B' (KT T)∧(∀x,Vm.AA B' x≠none→Vm.AA B x≠none)∧SubA B' D:=by
 intro h hA
 unfold Di
 rw[if_pos (by kernel_rfl)]
 intro w hw
 subst hw
 by_cases hT:T=[]
 ·subst hT
  obtain⟨p,cap,rfl,_⟩:=ho.slice
  refine(Tryz.slices_Sort_string_none p cap w).mono ?_
  rintro e w' ⟨rfl,rfl⟩
  exact⟨⟨_,B,rfl,hA,⟨Nat.le_refl _,fun b _ hb=>⟨rfl,hb⟩⟩,rfl,B,by simpa[KT]using ho,fun x hx=>hx,SubA.refl _⟩,rfl,rfl,rfl⟩
 ·obtain⟨g,cap,cur,rfl,rfl,h3,h4,h5,h6⟩:=ho.blk hT
  simp only[Nat.mul_one]at h5 h6
  have hH:=Nd (cap:=cap) hA (by omega) h6
  have hg:=hA g (.cells cur 9) (by simp[Vm.AA])
  refine(Tryz.slices_Sort_string g 0 cap T w hH (Array.getElem?_eq_some_iff.1 hg).1 (by omega)).mono ?_
  rintro e w' ⟨rfl,n,os,rfl⟩
  obtain⟨r1,r2,r3⟩:=U3 (n:=n) (d:=(T.mergeSort fun x y=>decide (x≤y)).toArray) (os:=os) hA
  have hsl:(KT T).length=T.length:=by simp[KT]
  refine⟨⟨_,_,rfl,r1,r2,rfl,_, ?_,fun x hx=> ?_,SubA.refl _⟩,r3⟩
  ·unfold BU
   rw[hsl]
   refine .inl ⟨by rw[RO,hsl,Nat.mul_one],.inr ⟨g,cap,_,rfl,rfl,h3,h4,by rw[Ha,h5,Nat.mul_one], ?_⟩⟩
   have h7:=Hb (KT T).toArray cur (by simp only[List.size_toArray];omega)
   simp only[List.size_toArray]at h7
   rw[Nat.mul_one,←hsl]
   exact h7.trans (Gu _)
  ·simp only[Vm.AA]at hx⊢
   split
   ·simp
   ·rename_i h;rw[if_neg h]at hx;exact hx
theorem Lk(T:List Gm):(Lib.compact T).length≤T.length:=by
 unfold Lib.compact Lib.compactUpTo
 rw[List.length_map]
 exact Nat.le_trans (List.length_filter_le _ _) (by simp)
theorem Vw(T:List Gm)(v:Value)(B:AH)(ho:BU DO 1 9 v B T)(hl:T.length≤1000000):AK Tryz.prog 99 #[v] B fun u D=> ∃v' B',u=v'∧BU DO 1 9 v' B' (Lib.compact T)∧(∀x,Vm.AA B' x≠none→Vm.AA B x≠none)∧SubA B' D:=by
 intro h hA
 unfold Di
 rw[if_pos (by kernel_rfl)]
 intro w hw
 subst hw
 by_cases hT:T=[]
 ·subst hT
  obtain⟨p,cap,rfl,_⟩:=ho.slice
  refine(Tryz.slices_Compact_string_empty p cap w).mono ?_
  rintro e w' ⟨rfl,rfl⟩
  exact⟨⟨_,B,rfl,hA,⟨Nat.le_refl _,fun b _ hb=>⟨rfl,hb⟩⟩,_,B,rfl,ho,fun x hx=>hx,SubA.refl _⟩,rfl,rfl,rfl⟩
 ·obtain⟨g,cap,cur,rfl,rfl,h3,h4,h5,h6⟩:=ho.blk hT
  simp only[Nat.mul_one]at h5 h6
  have hH:=Nd (cap:=cap) hA (by omega) h6
  have hg:=hA g (.cells cur 9) (by simp[Vm.AA])
  refine(Tryz.slices_Compact_string g 0 cap T w hH (by omega) h3).mono ?_
  rintro e w' ⟨rfl,q,rfl⟩
  have hcl:=Lk T
  obtain⟨r1,r2,r3⟩:=U3 (n:=q) (d:=(Lib.compact T++List.replicate (T.length - (Lib.compact T).length) []).toArray) (os:= #[]) hA
  rw[Go.Sort.grow_empty]at r1 r2 r3
  refine⟨⟨_,_,rfl,r1,r2,_,_,rfl, ?_,fun x hx=> ?_,SubA.refl _⟩,r3⟩
  ·unfold BU
   refine .inl ⟨by rw[RO,Nat.mul_one],.inr ⟨g,cap,_,rfl,rfl,by omega,h4,by rw[Ha,h5,Nat.mul_one], ?_⟩⟩
   have h7:=Hb (Lib.compact T++List.replicate (T.length - (Lib.compact T).length) []).toArray cur (by simp;omega)
   have h8:(Lib.compact T++List.replicate (T.length - (Lib.compact T).length) ([]:Gm)).toArray.size=T.length:=by simp;omega
   rw[h8]at h7
   have h9:=congrArg (List.take (Lib.compact T).length) h7
   rw[List.take_take,Nat.min_eq_left hcl]at h9
   rw[Nat.mul_one,h9,←Gu,List.map_append,List.take_append_of_le_length (by simp),List.take_of_length_le (by simp)]
  ·simp only[Vm.AA]at hx⊢
   split
   ·simp
   ·rename_i h;rw[if_neg h]at hx;exact hx
set_option maxHeartbeats 4000000
set_option maxRecDepth 20000
def YL(t:Xs):List Gm:=Lib.compact (KT (JF t))
theorem UE(A:AH)(t:Xs)(r:Xr)(hE:ExR A t r)(hn:(JF t).length≤1000000):AK Tryz.prog 66 #[.agg #[.int .i64 r.op,.string r.nm,.string r.tx,.int .i64 r.n,.slice r.p r.len r.cap]] A (fun u_ A_=> ∃v B,u_=v∧BU DO 1 9 v B (YL t)∧Dis B A∧SubA (B++A) A_):=by
 refine AC ⟨Tryz.prog,66,Tryz.f66,11,[0,1,2,3],⟨[96,98,99],none⟩,[],_⟩ rfl (args:=[_]) Tryz.func66 rfl (by kernel_rfl) Tryz.ntmps66 (by simp) (by kernel_rfl) ?_
 intro ν fr;have nuE:=fr.nu
 have f0:=fr.2 0
 have f1:=fr.2 1
 have n01:(ν 1=ν 0)=False:=by simp[nuE]
 simp only[AF,↓AE,simprocAttr,nuE]
 have dst_:((ν 0=ν 1)=False)∧((ν 1=ν 0)=False):=(by simp[nuE]);generalize ν 0=n1 at dst_  f0 f1 n01 ⊢;generalize ν 1=lb at dst_  f0 f1 n01⊢
 clear nuE fr
 have vc:=sw hE lb [] (.slice none 0 0) [] (BU.nil _ _ _) rfl (fun x hx=>by
  simp only[Vm.AA]
  split
  ·rename_i e;subst e;exact absurd f1 hx
  ·rfl) (by simpa using hn)
 simp only[List.nil_append,Bt,Ba]at vc
 refine AK.useX vc (SubA.both (X:=[(lb,_)]) (SubA.left [(lb,_)] _) (SubA.skip f1 (SubA.skip f0 (SubA.refl _)))) [] (SubA.nil _) (fun x hx=>absurd rfl hx) ?_
 rintro u D ⟨rfl,v1,B1,ho1,hlb1,hd1,hD⟩ dD
 refine⟨_,hD, ?_⟩
 rw[List.append_nil]
 clear hD dD D vc
 intro ν fr
 simp only[AF,↓AE,simprocAttr]
 clear fr
 refine AK.par (E:=B1) (Y:=[(lb,_)]) (X:=A) (oC (JF t) v1 B1 ho1 hn) (Dis.one hlb1).symm (Dis.subl hd1 (SubA.skip hlb1 (SubA.refl _))) (Dis.one f1) ?_
 rintro u D ⟨rfl,B2,ho2,_,hD⟩ dD
 refine⟨_,hD, ?_⟩
 have dE:=dD.subl hD
 have hlb2:Vm.AA B2 lb=none:=dE lb (by simp[Vm.AA])
 have hd2:Dis B2 A:=Dis.subr dE (SubA.fresh f1 (SubA.refl _))
 clear hD dD D dE
 simp only[List.cons_append,List.nil_append]
 intro ν fr
 simp only[AF,↓AE,simprocAttr]
 clear fr
 refine AK.par (E:=B2) (Y:=[(lb,_)]) (X:=A) (Vw (KT (JF t)) v1 B2 ho2 (by simpa[KT]using hn)) (Dis.one hlb2).symm hd2 (Dis.one f1) ?_
 rintro u D ⟨v3,B3,rfl,ho3,_,hD⟩ dD
 refine⟨_,hD, ?_⟩
 have dE:=dD.subl hD
 have hlb3:Vm.AA B3 lb=none:=dE lb (by simp[Vm.AA])
 have hd3:Dis B3 A:=Dis.subr dE (SubA.fresh f1 (SubA.refl _))
 clear hD dD D dE
 simp only[List.cons_append,List.nil_append]
 intro ν fr
 simp only[AF,↓AE,simprocAttr]
 exact⟨_,B3,rfl,ho3,hd3,SubA.skip (AD hlb3 f1) (SubA.refl _)⟩
end Go.Proofs.YtgmfcdeknaeikaaGreatDoor
