/-
Bytes of a text, and back, over known blocks.
Conditions: none. Generic: it speaks of no program.
-/
import Derived.Test.YtfphceknmgadgaaGreatDoorVmAM
import Derived.Test.YtfphceknmgadgaaGreatDoorVmAB
import Derived.Laws.IdiomStrings
set_option linter.unusedSimpArgs false
set_option linter.unusedVariables false
namespace Go.Vm
theorem de(w:World)(n:Nat)(e:TypeId):n≤grownCap w n 0 e:=grownCap_ge w n 0 e
theorem Y1{P:Program}{src dst e:TypeId}{A:AH}{s:ByteArray}{K:Value→AH→Prop}(hs:P.underlying src=some .string)(hd:P.underlying dst=some (.slice e))(he:P.underlying e=some (.int .u8))
  (hK: ∀(g cap:Nat) (cs:Array Value) (fr:Nat×Nat),AA A g=none→s.size≤cap→cs.size=cap→fr.1=cs.size→(∀(j:Nat) (c:UInt8),s.toList[j]? =some c→cs[j]? =some (.int .u8 (c.toNat:Int)))→K (.slice (some ⟨g,0,none⟩) s.size cap) ((g,.cells cs e fr)::A)):
  NJ P (convert src dst (.string s)) A K:=by
 intro h hA w hw
 subst hw
 have hg:=de w s.size e
 have hsz:(bytesRow s (grownCap w s.size 0 e)).size=grownCap w s.size 0 e:=by
  simp only[bytesRow,Array.size_append,Array.size_map,Array.size_replicate]
  have:s.data.size=s.size:=rfl
  omega
 refine⟨_,_,run_bytes_of_string w src dst e s hs hd he,⟨rfl,rfl,rfl⟩,_,hA.push,Ca.push, ?_⟩
 refine hK _ _ _ _ (hA.none_of_size (Nat.le_refl _)) hg hsz rfl fun j c hj=> ?_
 rw[ByteArray.toList_eq]at hj
 have hj':s.data[j]? =some c:=by rw[←Array.getElem?_toList];exact hj
 obtain⟨h1,h2⟩:=Array.getElem?_eq_some_iff.1 hj'
 unfold bytesRow
 rw[Array.getElem?_append_left (by simpa using h1),Array.getElem?_map,hj']
 rfl
theorem X9{P:Program}{src dst e e':TypeId}{A:AH}{g cap:Nat}{cs:Array Value}{fr:Nat×Nat}{l:List UInt8}(hs:P.underlying src=some (.slice e))(he:P.underlying e=some (.int .u8))(hd:P.underlying dst=some .string)
  (hb:AA A g=some (.cells cs e' fr)) (hc: ∀(j:Nat) (c:UInt8),l[j]? =some c→cs[j]? =some (.int .u8 (c.toNat:Int))):F8 P (convert src dst (.slice (some ⟨g,0,none⟩) l.length cap)) A=some (.string ⟨l.toArray⟩):=
 ZZ fun w hA=>run_convert_bytes_back w src dst e ⟨g,0,none⟩ cap l hs he hd fun j hj=>by
  have h1:=hA g _ hb
  have h2:=hc j l[j] (List.getElem?_eq_getElem hj)
  have ha:Addr.add ⟨g,0,none⟩ j=⟨g,j,none⟩:=by simp[Addr.add];exact fun e=>e.symm
  rw[ha]
  simp[World.cell?,h1,h2]
end Go.Vm
